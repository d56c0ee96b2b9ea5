import Derived.Test.YtoaaphlopbabeaaGreatDoorProg
import Derived.Test.YtoaaphlopbabeaaGreatDoorCXLibD
import Derived.Test.YtoaaphlopbabeaaGreatDoorCXDn51x1
set_option linter.all false
namespace Go.Proofs.YtoaaphlopbabeaaGreatDoor.Dn
open Go Go.Pev
set_option maxRecDepth 100000
set_option maxHeartbeats 4000000
noncomputable section
def qpj:Option Bool:=
 (oB (qxf (8:Int)) fun r1=>(oB (qxf (8:Int)) fun r2=>(oB (qcw ([]:List AV) ([]:List AV) ([]:List AV) (1:Int) (gB r1.cells 0) (gI r1.cells 1) (gI r1.cells 2) (gI r1.cells 3) (1:Int) ([110,101,116]:List UInt8) ([]:List UInt8) (0:Int) (0:Int) (0:Int) ([]:List UInt8) false (0:Int) (0:Int) (0:Int) ([]:List UInt8)) fun r3=>(oB (qcw ([]:List AV) ([]:List AV) ([]:List AV) (2:Int) (gB r2.cells 0) (gI r2.cells 1) (gI r2.cells 2) (gI r2.cells 3) (0:Int) ([]:List UInt8) ([]:List UInt8) (0:Int) (0:Int) (0:Int) ([]:List UInt8) false (0:Int) (0:Int) (0:Int) ([]:List UInt8)) fun r4=>(oB (qt3 ([]:List AV) ([]:List AV) ([]:List AV) (1:Int) (gB r1.cells 0) (gI r1.cells 1) (gI r1.cells 2) (gI r1.cells 3) (1:Int) ([110,101,116]:List UInt8) ([]:List UInt8) (0:Int) (0:Int) (0:Int) ([]:List UInt8) false (0:Int) (0:Int) (0:Int) ([]:List UInt8)) fun r5=>(bif(r3.2==0)then(bif(((gL r3.1.cells 0).length:Int)==1)then(oB (ixB (gL r3.1.cells 0) (0:Int)) fun y6=>(bif fitC qb y6.cells then(bif(((gB y6.cells 0)==(gB r1.cells 0))&&(((gI y6.cells 1)==(gI r1.cells 1))&&(((gI y6.cells 2)==(gI r1.cells 2))&&(((gI y6.cells 3)==(gI r1.cells 3))&&(((gI y6.cells 4)==1)&&(((gS y6.cells 5)==([110,101,116]:List UInt8))&&(((gS y6.cells 6)==([]:List UInt8))&&(((gI y6.cells 7)==0)&&true))))))))then(bif(r4.2==11)then(bif(r5.2==0)then(some (((gI r5.1.cells 0)==2)&&(((gB r5.1.cells 1)==(gB r2.cells 0))&&(((gI r5.1.cells 2)==(gI r2.cells 1))&&(((gI r5.1.cells 3)==(gI r2.cells 2))&&(((gI r5.1.cells 4)==(gI r2.cells 3))&&(((gI r5.1.cells 5)==0)&&(((gS r5.1.cells 6)==([]:List UInt8))&&(((gS r5.1.cells 7)==([]:List UInt8))&&(((gI r5.1.cells 8)==0)&&(((gI r5.1.cells 9)==0)&&(((gI r5.1.cells 10)==0)&&(((gS r5.1.cells 11)==([]:List UInt8))&&(((gB r5.1.cells 12)==false)&&(((gI r5.1.cells 13)==0)&&(((gI r5.1.cells 14)==0)&&(((gI r5.1.cells 15)==0)&&(((gS r5.1.cells 16)==([]:List UInt8))&&true))))))))))))))))))else(some false))else(some false))else(some false))else none))else(some false))else(some false)))))))
def qt4:=hull qpj
theorem qbkn:qt4=qpj:=qa _
def q4l {R:Type}:EntF Tryz.prog R:=entB (nt:=64) (dec:=decB) (enc:=AV.bool) tabOk follows Tryz.func13 [.t 0] hdeB (.s .z (.s .z (.s (.r [(0,.c q78.b)] []) (.s (.r [(0,.c q78.b)] []) (.s (.r [(2,.k qk9.b)] []) (.s (.r [(2,.k qk9.b)] []) (.s (.r [(2,.c qbmv.b)] []) (.s (.d [] [(11,.e 45 qb)] [] []) .z)))))))) (⟨[],[]⟩:Shp) qpj (fun f v=>f)
def S93_:Shp:=⟨[(0,.one (.l (.sl 8)))],[]⟩
def qpk (Aa:Bool)(Ab Ac:Int):Option Bool:=
 (bif Aa then(some true)else(bif(Ab==0)then(some (decide (Ac<4294967296)))else(some false)))
def qla:=hull qpk
theorem qbko:qla=qpk:=qa _
def qpl {R:Type}:EntF Tryz.prog R:=entB (nt:=15) (dec:=decB) (enc:=AV.bool) tabOk follows Tryz.func80 [.t 2] hdeB (.z) S5_ qpk (fun f v=>f (v.b 1 0) (v.i 1 1) (v.i 1 2))
def S97_:Shp:=⟨[(0,.one (.l .b))],[]⟩
def qr3 (v0:Bool):Option Int:=
 (bif v0 then(some (128:Int))else(some (32:Int)))
def qhn:=hull qr3
theorem qbmw:qhn=qr3:=qa _
def qjm {R:Type}:EntF Tryz.prog R:=entB (nt:=4) (dec:=(decI .i64)) (enc:=(AV.int .i64)) tabOk follows Tryz.func130 [.t 2] hdeI (.z) S97_ qr3 (fun f v=>f (v.b 0 0))
def S98_:Shp:=⟨[(0,.one (.l (.i .i64))),(4,.one (.l (.i .u64))),(5,.one (.l (.i .u64))),(6,.one (.l (.i .i64)))],[]⟩
def q2z:AV->Option (Int×Int):=decN [(.one (.i .u64)),(.one (.i .u64))] fun z=>(aI (gC (tpL z) 0),aI (gC (tpL z) 1))
def qxy (K:Ex->Env->Mem->Option (Int×Int)):=(fun z_v4 z_v5=>K (.exit 0) (qk [(4,(.int .u64 z_v4)),(5,(.int .u64 z_v5))]) (qh []))
def qmp (v0 v4 v5 v6:Int)(next:Int->Int->Int->Option (Int×Int))(kx0:Int->Int->Option (Int×Int)):Option (Int×Int):=
 (bif((decide (v6<v0))&&(decide (v6<128)))then(next (IntKind.u64.wrap ((IntKind.u64.wrap (v4*2))+(IntKind.u64.wrap (v5.tdiv (9223372036854775808:Int))))) (IntKind.u64.wrap ((IntKind.u64.wrap (v5*2))+1)) (IntKind.i64.wrap (v6+1)))else(kx0 v4 v5))
def qi5 (v0:Int)(kx0:Int->Int->Option (Int×Int)):Nat->Int->Int->Int->Option (Int×Int)
 |0=>(fun _ _ _=>none)
 |n+1=>(fun v4 v5 v6=>qmp v0 v4 v5 v6 (qi5 v0 kx0 n) kx0)
def q4m:=hull (qi5)
theorem qbeo:q4m=qi5:=qa _
def qbgu:SubB Tryz.prog (TIof Tryz.prog) 26 0 (kret [.t 2,.t 3] q2z):=lpB tabOk follows Tryz.f131 75 (.s (.s (.r [(4,.g 2)] []) (.s .z (.v [.sel [4,5] []]))) (.s .z (.v [.sel [0,4,5,6] []]))) S98_ (qi5) (fun f v K n=>f (v.i 0 0) (qxy K) n) (fun v f K=>qmp (v.i 0 0) (v.i 16 0) (v.i 20 0) (v.i 24 0) f (qxy K)) (fun f v=>f (v.i 16 0) (v.i 20 0) (v.i 24 0)) (fun k v=>(fun z0 z1 z2=>k (((v.ui 16 0 z0).ui 20 0 z1).ui 24 0 z2)))
def qr4 (v0:Int):Option (Int×Int):=
 (q4m v0 (fun v4q1 v5q2=>(some (v4q1,v5q2))) FU (0:Int) (0:Int) (0:Int))
def qqp:=hull qr4
theorem qbmx:qqp=qr4:=qa _
def qxz {R:Type}:EntF Tryz.prog R:=entB (nt:=26) (dec:=q2z) (enc:=(fun r=>.tup [.int .u64 r.1,.int .u64 r.2])) tabOk follows Tryz.func131 [.t 2,.t 3] (hdeN fun _=>rfl) (.s .z (.s .z (.s (.s .z (.b (.sub [.sel [0,4,5,6] []] qbgu []))) .z))) S1_ qr4 (fun f v=>f (v.i 0 0))
def qbbc (Av:Bool)(Aw Ax Ay:Int)(K:Ex->Env->Mem->Option Bool):=(fun z_v22=>K .norm (qk [(1,(.ptr 0 0)),(22,(.bool z_v22))]) (qh [(some (.box true (qc Av Aw Ax Ay)))]))
def qlt (Av:Bool)(Aw Ax Ay:Int)(kn:Bool->Option Bool):Option Bool:=
 (oB (qla Av Aw Ax) fun r1=>(bif(!r1)then(kn true)else(bif(decide (Ay<0))then(kn true)else(oB (qhn Av) fun r2=>(kn (decide (Ay>r2)))))))
def q20:=hull (qlt)
theorem qbbd:q20=qlt:=qa _
def qbep:SubB Tryz.prog (TIof Tryz.prog) 48 0 (kret [.t 2] decB):=jnB tabOk follows Tryz.f75 9 (.d [] [(2,.c qpl.b),(15,.c qjm.b)] [] [.sel [1,22] [0]]) S7_ (qlt) (fun f v K=>f (v.b 3 0) (v.i 3 1) (v.i 3 2) (v.i 3 3) (qbbc (v.b 3 0) (v.i 3 1) (v.i 3 2) (v.i 3 3) K))
def qpm (Aa:Bool)(Ab Ac Bt:Int):Option Bool:=
 (q20 Aa Ab Ac Bt (fun v22q1=>(bif v22q1 then(some false)else(oB (qhn Aa) fun r2=>(oB (qqp (IntKind.i64.wrap (r2-Bt))) fun r3=>(some (((qbg .and .u64 Ab r3.1)==0)&&((qbg .and .u64 Ac r3.2)==0))))))))
def qfu:=hull qpm
theorem qbkp:qfu=qpm:=qa _
def qij {R:Type}:EntF Tryz.prog R:=entB (nt:=48) (dec:=decB) (enc:=AV.bool) tabOk follows Tryz.func75 [.t 2] hdeB (.s .z (.s (.s (.sub [.sel [1] [0]] qbep []) .z) (.s (.d [] [(3,.c qjm.b),(7,.c qxz.b)] [] []) (.s (.r [(7,.g 6)] []) .z)))) S8_ qpm (fun f v=>f (v.b 1 0) (v.i 1 1) (v.i 1 2) (v.i 1 3))
def qpn (Aa:Bool)(Ab Ac Bt:Int):Option Int:=
 (bif Aa then(some (128:Int))else(some (32:Int)))
def qzr:=hull qpn
theorem qbkq:qzr=qpn:=qa _
def qbmy {R:Type}:EntF Tryz.prog R:=entB (nt:=6) (dec:=(decI .i64)) (enc:=(AV.int .i64)) tabOk follows Tryz.func132 [.t 2] hdeI (.z) S8_ qpn (fun f v=>f (v.b 1 0) (v.i 1 1) (v.i 1 2) (v.i 1 3))
def S99_:Shp:=⟨[(0,.one (.l .s)),(3,.one (.l (.i .i64)))],[]⟩
def qr5 (K:Ex->Env->Mem->Option Bool):=(fun(_:Unit)=>K (.exit 0) (qk []) (qh []))
def qe0 (v0:LU)(v3:Int)(next:Int->Option Bool)(kx0:Unit->Option Bool):Option Bool:=
 (bif(decide (v3<(v0.length:Int)))then(oB (ixB v0 v3) fun c1=>(bif(decide ((c1.toNat:Int)<33))then(some false)else(oB (ixB v0 v3) fun c2=>(bif(decide ((c2.toNat:Int)>126))then(some false)else(next (IntKind.i64.wrap (v3+1)))))))else(kx0 ()))
def qe1 (v0:LU)(kx0:Unit->Option Bool):Nat->Int->Option Bool
 |0=>(fun _=>none)
 |n+1=>(fun v3=>qe0 v0 v3 (qe1 v0 kx0 n) kx0)
def qww:=hull (qe1)
theorem q4n:qww=qe1:=qa _
def q5z:SubB Tryz.prog (TIof Tryz.prog) 20 0 (kret [.t 2] decB):=lpB tabOk follows Tryz.f133 37 (.s (.s .z (.s .z (.v [.sel [] []]))) (.s .z (.v [.sel [0,3] []]))) S99_ (qe1) (fun f v K n=>f (v.s 0 0) (qr5 K) n) (fun v f K=>qe0 (v.s 0 0) (v.i 12 0) f (qr5 K)) (fun f v=>f (v.i 12 0)) (fun k v=>(fun z0=>k (v.ui 12 0 z0)))
def qkl (v0:LU):Option Bool:=
 (qww v0 (fun(_:Unit)=>(some true)) FU (0:Int))
def qmq:=hull qkl
theorem q8s:qmq=qkl:=qa _
def qx0 {R:Type}:EntF Tryz.prog R:=entB (nt:=20) (dec:=decB) (enc:=AV.bool) tabOk follows Tryz.func133 [.t 2] hdeB (.s .z (.s (.s .z (.b (.sub [.sel [0,3] []] q5z []))) .z)) S69_ qkl (fun f v=>f (v.s 0 0))
def qbgv (Av:Bool)(Aw Ax Ay Az:Int)(A0 A1:LU)(A2:Int)(K:Ex->Env->Mem->Option Bool):=(fun z_v24=>K .norm (qk [(1,(.ptr 0 0)),(24,(.bool z_v24))]) (qh [(some (.box true (qn Av Aw Ax Ay Az A0 A1 A2)))]))
def qn2 (Av:Bool)(Aw Ax Ay Az:Int)(A0 A1:LU)(A2:Int)(kn:Bool->Option Bool):Option Bool:=
 (bif(decide (Az<1))then(kn true)else(bif(decide (Az>3))then(kn true)else(bif(Az==3)then(oB (qzr Av Aw Ax Ay) fun r1=>(kn (Ay != r1)))else(kn false))))
def q6i:=hull (qn2)
theorem qbgw:q6i=qn2:=qa _
def qbkr:SubB Tryz.prog (TIof Tryz.prog) 61 0 (kret [.t 2] decB):=jnB tabOk follows Tryz.f76 9 (.d [] [(18,.c qbmy.b)] [] [.sel [1,24] [0]]) S11_ (qn2) (fun f v K=>f (v.b 3 0) (v.i 3 1) (v.i 3 2) (v.i 3 3) (v.i 3 4) (v.s 3 5) (v.s 3 6) (v.i 3 7) (qbgv (v.b 3 0) (v.i 3 1) (v.i 3 2) (v.i 3 3) (v.i 3 4) (v.s 3 5) (v.s 3 6) (v.i 3 7) K))
def qt5 (Aa:Bool)(Ab Ac Bt Bu:Int)(Bv Bw:LU)(Bx:Int):Option Bool:=
 (q6i Aa Ab Ac Bt Bu Bv Bw Bx (fun v24q1=>(bif v24q1 then(some false)else(bif((decide ((Bv.length:Int)>=1))&&(decide ((Bv.length:Int)<=63)))then(oB (qmq Bv) fun r2=>(bif(r2&&(decide ((Bw.length:Int)<=32)))then(oB (qmq Bw) fun r3=>(some ((r3&&(decide (Bx>=0)))&&(decide (Bx<=4294967295)))))else(some false)))else(some false)))))
def qs0:=hull qt5
theorem qbop:qs0=qt5:=qa _
def q8t {R:Type}:EntF Tryz.prog R:=entB (nt:=61) (dec:=decB) (enc:=AV.bool) tabOk follows Tryz.func76 [.t 2] hdeB (.s .z (.s (.s (.sub [.sel [1] [0]] qbkr []) .z) (.s (.r [(5,.g 4),(13,.c qx0.b),(16,.g 4),(24,.c qx0.b),(27,.g 3),(32,.g 3)] []) .z))) S12_ qt5 (fun f v=>f (v.b 1 0) (v.i 1 1) (v.i 1 2) (v.i 1 3) (v.i 1 4) (v.s 1 5) (v.s 1 6) (v.i 1 7))
def qmr (Aa:Bool)(Ab Ac:Int)(B7:Bool)(B8 B9:Int):Option Int:=
 (bif(!((Aa==B7)&&true))then(bif B7 then(some (-1:Int))else(some (1:Int)))else(bif(Ab != B8)then(bif(decide (Ab<B8))then(some (-1:Int))else(some (1:Int)))else(bif(decide (Ac<B9))then(some (-1:Int))else(bif(decide (Ac>B9))then(some (1:Int))else(some (0:Int))))))
def qpo:=hull qmr
theorem qbeq:qpo=qmr:=qa _
def q02 {R:Type}:EntF Tryz.prog R:=entB (nt:=32) (dec:=(decI .i64)) (enc:=(AV.int .i64)) tabOk follows Tryz.func134 [.t 4] hdeI (.z) S29_ qmr (fun f v=>f (v.b 1 0) (v.i 1 1) (v.i 1 2) (v.b 5 0) (v.i 5 1) (v.i 5 2))
def qms (Aa:Bool)(Ab Ac Bt:Int)(B7:Bool)(B8 B9 Ca:Int):Option Int:=
 (oB (qpo Aa Ab Ac B7 B8 B9) fun r1=>(bif(r1 != (0:Int))then(some r1)else(bif(decide (Bt<Ca))then(some (-1:Int))else(bif(decide (Bt>Ca))then(some (1:Int))else(some (0:Int))))))
def qpp:=hull qms
theorem qber:qpp=qms:=qa _
def q03 {R:Type}:EntF Tryz.prog R:=entB (nt:=24) (dec:=(decI .i64)) (enc:=(AV.int .i64)) tabOk follows Tryz.func77 [.t 4] hdeI (.s .z (.s (.r [(4,.c q02.b)] []) .z)) S20_ qms (fun f v=>f (v.b 1 0) (v.i 1 1) (v.i 1 2) (v.i 1 3) (v.b 5 0) (v.i 5 1) (v.i 5 2) (v.i 5 3))
def q6j:AV->Option (AV×Bool):=decN [(.st [.b,(.i .u64),(.i .u64),(.i .i64)]),(.one .b)] fun z=>((gC (tpL z) 0),aB (gC (tpL z) 1))
def qbks (v1:Int)(Av:Bool)(Aw Ax:Int)(Ad:Bool)(Ae Af Ag:Int)(K:Ex->Env->Mem->Option (AV×Bool)):=(fun z_v22=>K .norm (qk [(1,(.int .i64 v1)),(2,(.ptr 0 0)),(4,(.ptr 1 0)),(22,(.bool z_v22))]) (qh [(some (.box true (qhi Av Aw Ax))),(some (.box true (qc Ad Ae Af Ag)))]))
def qpq (v1:Int)(Av:Bool)(Aw Ax:Int)(Ad:Bool)(Ae Af Ag:Int)(kn:Bool->Option (AV×Bool)):Option (AV×Bool):=
 (oB (qla Av Aw Ax) fun r1=>(bif((!r1)||(decide (v1<0)))then(kn true)else(oB (qhn Av) fun r2=>(kn (decide (v1>r2))))))
def q8u:=hull (qpq)
theorem qbkt:q8u=qpq:=qa _
def qbmz:SubB Tryz.prog (TIof Tryz.prog) 53 0 (kret [(.cell 4 true 4),.t 5] q6j):=jnB tabOk follows Tryz.f176 9 (.r [(1,.c qpl.b),(4,.g 2),(11,.c qjm.b)] [.sel [1,2,4,22] [0,1]]) S17_ (qpq) (fun f v K=>f (v.i 4 0) (v.b 3 0) (v.i 3 1) (v.i 3 2) (v.b 7 0) (v.i 7 1) (v.i 7 2) (v.i 7 3) (qbks (v.i 4 0) (v.b 3 0) (v.i 3 1) (v.i 3 2) (v.b 7 0) (v.i 7 1) (v.i 7 2) (v.i 7 3) K))
def qv1 (Aa:Bool)(Ab Ac v1:Int):Option (AV×Bool):=
 (q8u v1 Aa Ab Ac false (0:Int) (0:Int) (0:Int) (fun v22q1=>(bif v22q1 then(some ((.agg [(.bool false),(.int .u64 (0:Int)),(.int .u64 (0:Int)),(.int .i64 (0:Int))]),false))else(oB (qhn Aa) fun r2=>(oB (qqp (IntKind.i64.wrap (r2-v1))) fun r3=>(some ((.agg [(.bool Aa),(.int .u64 (IntKind.u64.wrap (Ab-(qbg .and .u64 Ab r3.1)))),(.int .u64 (IntKind.u64.wrap (Ac-(qbg .and .u64 Ac r3.2)))),(.int .i64 v1)]),true)))))))
def q7k:=hull qv1
theorem qbri:q7k=qv1:=qa _
def qbul {R:Type}:EntF Tryz.prog R:=entB (nt:=53) (dec:=q6j) (enc:=(fun r=>.tup [qcl (.st [.b,(.i .u64),(.i .u64),(.i .i64)]) r.1,.bool r.2])) tabOk follows Tryz.func176 [(.cell 4 true 4),.t 5] (hdeN fun _=>rfl) (.s .z (.s (.s (.sub [.sel [1,2,4] [0,1]] qbmz []) .z) (.s (.r [(2,.c qjm.b),(5,.c qxz.b)] []) .z))) S18_ qv1 (fun f v=>f (v.b 1 0) (v.i 1 1) (v.i 1 2) (v.i 4 0))
def S100_:Shp:=⟨[(2,.one (.ptr 0 0)),(3,.one (.ptr 1 0))],[.box true (lk qe),.box true (lk qd3)]⟩
def q50 (Av:Bool)(Aw Ax Ay:Int)(Ad:Bool)(Ae Af:Int)(K:Ex->Env->Mem->Option Bool):=(fun z_v22=>K .norm (qk [(2,(.ptr 0 0)),(3,(.ptr 1 0)),(22,(.bool z_v22))]) (qh [(some (.box true (qc Av Aw Ax Ay))),(some (.box true (qhi Ad Ae Af)))]))
def qis (Av:Bool)(Aw Ax Ay:Int)(Ad:Bool)(Ae Af:Int)(kn:Bool->Option Bool):Option Bool:=
 (oB (qfu Av Aw Ax Ay) fun r1=>(bif(!r1)then(kn true)else(oB (qla Ad Ae Af) fun r2=>(kn ((!r2)||(!((Av==Ad)&&true)))))))
def qx1:=hull (qis)
theorem q51:qx1=qis:=qa _
def q7l:SubB Tryz.prog (TIof Tryz.prog) 33 0 (kret [.t 4] decB):=jnB tabOk follows Tryz.f129 9 (.r [(1,.c qij.b),(5,.c qpl.b),(9,.g 6)] [.sel [2,3,22] [0,1]]) S100_ (qis) (fun f v K=>f (v.b 3 0) (v.i 3 1) (v.i 3 2) (v.i 3 3) (v.b 7 0) (v.i 7 1) (v.i 7 2) (q50 (v.b 3 0) (v.i 3 1) (v.i 3 2) (v.i 3 3) (v.b 7 0) (v.i 7 1) (v.i 7 2) K))
def qlu (Aa:Bool)(Ab Ac Bt:Int)(B7:Bool)(B8 B9:Int):Option Bool:=
 (qx1 Aa Ab Ac Bt B7 B8 B9 (fun v22q1=>(bif v22q1 then(some false)else(oB (q7k B7 B8 B9 Bt) fun r2=>(some (((gB r2.1.cells 0)==Aa)&&(((gI r2.1.cells 1)==Ab)&&(((gI r2.1.cells 2)==Ac)&&(((gI r2.1.cells 3)==Bt)&&true)))))))))
def qn3:=hull qlu
theorem qbbe:qn3=qlu:=qa _
def qy5 {R:Type}:EntF Tryz.prog R:=entB (nt:=33) (dec:=decB) (enc:=AV.bool) tabOk follows Tryz.func129 [.t 4] hdeB (.s .z (.s (.s (.sub [.sel [2,3] [0,1]] q7l []) .z) (.s (.r [(3,.c qbul.b)] []) .z))) S19_ qlu (fun f v=>f (v.b 1 0) (v.i 1 1) (v.i 1 2) (v.i 1 3) (v.b 5 0) (v.i 5 1) (v.i 5 2))
def qn4 (Aa:Bool)(Ab Ac Bt:Int)(B7:Bool)(B8 B9 Ca:Int):Option Bool:=
 (oB (qfu Aa Ab Ac Bt) fun r1=>(bif(r1&&(decide (Bt>=Ca)))then(oB (qn3 B7 B8 B9 Ca Aa Ab Ac) fun r2=>(some r2))else(some false)))
def qjn:=hull qn4
theorem qbgx:qjn=qn4:=qa _
def qke {R:Type}:EntF Tryz.prog R:=entB (nt:=20) (dec:=decB) (enc:=AV.bool) tabOk follows Tryz.func128 [.t 4] hdeB (.s .z (.s (.r [(1,.c qij.b),(3,.g 5),(13,.c qy5.b)] []) .z)) S20_ qn4 (fun f v=>f (v.b 1 0) (v.i 1 1) (v.i 1 2) (v.i 1 3) (v.b 5 0) (v.i 5 1) (v.i 5 2) (v.i 5 3))
def qqq (Aa:Bool)(Ab Ac Bt:Int)(B7:Bool)(B8 B9 Ca:Int):Option Bool:=
 (oB (qjn Aa Ab Ac Bt B7 B8 B9 Ca) fun r1=>(some (r1&&(decide (Bt>Ca)))))
def qk3:=hull qqq
theorem q8v:qk3=qqq:=qa _
def ql7 {R:Type}:EntF Tryz.prog R:=entB (nt:=15) (dec:=decB) (enc:=AV.bool) tabOk follows Tryz.func103 [.t 4] hdeB (.s .z (.s (.r [(2,.c qke.b),(4,.g 5)] []) .z)) S20_ qqq (fun f v=>f (v.b 1 0) (v.i 1 1) (v.i 1 2) (v.i 1 3) (v.b 5 0) (v.i 5 1) (v.i 5 2) (v.i 5 3))
def qn5 (Aa:Bool)(Ab Ac Bt Bu:Int)(Bv Bw:LU)(Bx:Int)(B7:Bool)(B8 B9 Ca Cb:Int)(Cc Cd:LU)(Ce:Int):Option Bool:=
 (oB (qk3 Aa Ab Ac Bt B7 B8 B9 Ca) fun r1=>(bif r1 then(bif(Cb==3)then(some true)else(bif(Cb==2)then(some (Bu != (3:Int)))else(some false)))else(some false)))
def qmt:=hull qn5
theorem qbgy:qmt=qn5:=qa _
def q21 {R:Type}:EntF Tryz.prog R:=entB (nt:=25) (dec:=decB) (enc:=AV.bool) tabOk follows Tryz.func78 [.t 4] hdeB (.s .z (.s (.r [(4,.c ql7.b)] []) .z)) S21_ qn5 (fun f v=>f (v.b 1 0) (v.i 1 1) (v.i 1 2) (v.i 1 3) (v.i 1 4) (v.s 1 5) (v.s 1 6) (v.i 1 7) (v.b 5 0) (v.i 5 1) (v.i 5 2) (v.i 5 3) (v.i 5 4) (v.s 5 5) (v.s 5 6) (v.i 5 7))
def S101_:Shp:=⟨[(0,.one (.l (.sl 8))),(3,.one (.l (.i .i64)))],[]⟩
def S102_:Shp:=⟨[(0,.one (.l (.sl 8))),(3,.one (.l (.i .i64))),(4,.one (.l (.i .i64)))],[]⟩
def q8w (v0:LA)(v3:Int)(K:Ex->Env->Mem->Option Int):=(fun z_v43=>K .norm (qk [(0,(.sl 8 v0)),(3,(.int .i64 v3)),(43,(.bool z_v43))]) (qh []))
def qkm (v0:LA)(v3:Int)(kn:Bool->Option Int):Option Int:=
 (bif(decide (v3>0))then(oB (ixB v0 (IntKind.i64.wrap (v3-1))) fun y1=>(bif fitC qb y1.cells then(oB (ixB v0 v3) fun y2=>(bif fitC qb y2.cells then(oB (qpp (gB y1.cells 0) (gI y1.cells 1) (gI y1.cells 2) (gI y1.cells 3) (gB y2.cells 0) (gI y2.cells 1) (gI y2.cells 2) (gI y2.cells 3)) fun r3=>(kn (decide (r3>0))))else none))else none))else(kn false))
def q04:=hull (qkm)
theorem q8x:q04=qkm:=qa _
def qbbf:SubB Tryz.prog (TIof Tryz.prog) 74 0 (kret [.t 2] (decI .i64)):=jnB tabOk follows Tryz.f28 9803 (.d [] [(6,.e 33 qb),(11,.e 38 qb)] [(0,.c q03.b)] [.sel [0,3,43] []]) S101_ (qkm) (fun f v K=>f (v.l 0 0) (v.i 12 0) (q8w (v.l 0 0) (v.i 12 0) K))
def q8y (v0:LA)(v3:Int)(K:Ex->Env->Mem->Option Int):=(fun z_v59=>K .norm (qk [(0,(.sl 8 v0)),(3,(.int .i64 v3)),(59,(.bool z_v59))]) (qh []))
def qkn (v0:LA)(v3:Int)(kn:Bool->Option Int):Option Int:=
 (bif(decide (v3>0))then(oB (ixB v0 (IntKind.i64.wrap (v3-1))) fun y1=>(bif fitC qb y1.cells then(oB (ixB v0 v3) fun y2=>(bif fitC qb y2.cells then(kn (((gB y1.cells 0)==(gB y2.cells 0))&&(((gI y1.cells 1)==(gI y2.cells 1))&&(((gI y1.cells 2)==(gI y2.cells 2))&&(((gI y1.cells 3)==(gI y2.cells 3))&&true)))))else none))else none))else(kn false))
def q05:=hull (qkn)
theorem q8z:q05=qkn:=qa _
def qbbg:SubB Tryz.prog (TIof Tryz.prog) 74 0 (kret [.t 2] (decI .i64)):=jnB tabOk follows Tryz.f28 20043 (.d [] [(6,.e 50 qb),(11,.e 55 qb)] [] [.sel [0,3,59] []]) S101_ (qkn) (fun f v K=>f (v.l 0 0) (v.i 12 0) (q8y (v.l 0 0) (v.i 12 0) K))
def qu9 (v0:LA)(v3:Int)(K:Ex->Env->Mem->Option Int):=(fun(_:Unit)=>K (.exit 2) (qk [(0,(.sl 8 v0)),(3,(.int .i64 v3))]) (qh []))
def qgr (v0:LA)(v3 v4:Int)(next:Int->Option Int)(kx2:Unit->Option Int):Option Int:=
 (bif(decide (v4<v3))then(oB (ixB v0 v3) fun y1=>(bif fitC qb y1.cells then(oB (ixB v0 v4) fun y2=>(bif fitC qb y2.cells then(oB (qmt (gB y1.cells 0) (gI y1.cells 1) (gI y1.cells 2) (gI y1.cells 3) (gI y1.cells 4) (gS y1.cells 5) (gS y1.cells 6) (gI y1.cells 7) (gB y2.cells 0) (gI y2.cells 1) (gI y2.cells 2) (gI y2.cells 3) (gI y2.cells 4) (gS y2.cells 5) (gS y2.cells 6) (gI y2.cells 7)) fun r3=>(bif r3 then(some (24:Int))else(next (IntKind.i64.wrap (v4+1)))))else none))else none))else(kx2 ()))
def qgs (v0:LA)(v3:Int)(kx2:Unit->Option Int):Nat->Int->Option Int
 |0=>(fun _=>none)
 |n+1=>(fun v4=>qgr v0 v3 v4 (qgs v0 v3 kx2 n) kx2)
def qs1:=hull (qgs)
theorem q80:qs1=qgs:=qa _
def qbbh:SubB Tryz.prog (TIof Tryz.prog) 74 0 (kret [.t 2] (decI .i64)):=lpB tabOk follows Tryz.f28 81483 (.s (.s .z (.s .z (.v [.sel [0,3] []]))) (.s (.b (.s (.d [] [(2,.e 67 qb),(6,.e 71 qb)] [(0,.c q21.b)] []) .z)) (.v [.sel [0,3,4] []]))) S102_ (qgs) (fun f v K n=>f (v.l 0 0) (v.i 12 0) (qu9 (v.l 0 0) (v.i 12 0) K) n) (fun v f K=>qgr (v.l 0 0) (v.i 12 0) (v.i 16 0) f (qu9 (v.l 0 0) (v.i 12 0) K)) (fun f v=>f (v.i 16 0)) (fun k v=>(fun z0=>k (v.ui 16 0 z0)))
def qva (K:Ex->Env->Mem->Option Int):=(fun(_:Unit)=>K (.exit 0) (qk []) (qh []))
def qgt (v0:LA)(v3:Int)(next:Int->Option Int)(kx0:Unit->Option Int):Option Int:=
 (bif(decide (v3<(v0.length:Int)))then(oB (ixB v0 v3) fun y1=>(bif fitC qb y1.cells then(oB (qfu (gB y1.cells 0) (gI y1.cells 1) (gI y1.cells 2) (gI y1.cells 3)) fun r2=>(bif(!r2)then(some (3:Int))else(oB (ixB v0 v3) fun y3=>(bif fitC qb y3.cells then(oB (qs0 (gB y3.cells 0) (gI y3.cells 1) (gI y3.cells 2) (gI y3.cells 3) (gI y3.cells 4) (gS y3.cells 5) (gS y3.cells 6) (gI y3.cells 7)) fun r4=>(bif(!r4)then(some (1:Int))else(q04 v0 v3 (fun v43q5=>(bif v43q5 then(some (7:Int))else(q05 v0 v3 (fun v59q6=>(bif v59q6 then(some (12:Int))else(qs1 v0 v3 (fun(_:Unit)=>(next (IntKind.i64.wrap (v3+1)))) FU (0:Int))))))))))else none))))else none))else(kx0 ()))
def qgu (v0:LA)(kx0:Unit->Option Int):Nat->Int->Option Int
 |0=>(fun _=>none)
 |n+1=>(fun v3=>qgt v0 v3 (qgu v0 kx0 n) kx0)
def q06:=hull (qgu)
theorem q81:q06=qgu:=qa _
def qbbi:SubB Tryz.prog (TIof Tryz.prog) 74 0 (kret [.t 2] (decI .i64)):=lpB tabOk follows Tryz.f28 75 (.s (.s .z (.s .z (.v [.sel [] []]))) (.s (.b (.s (.s (.r [(2,.p (.etac 16 qb)),(5,.c qij.b)] []) .z) (.s (.s (.r [(2,.p (.etac 23 qb)),(4,.c q8t.b)] []) .z) (.s (.s (.sub [.sel [0,3] []] qbbf []) .z) (.s (.s (.sub [.sel [0,3] []] qbbg []) .z) (.s .z (.b (.sub [.sel [0,3,4] []] qbbh [])))))))) (.v [.sel [0,3] []]))) S101_ (qgu) (fun f v K n=>f (v.l 0 0) (qva K) n) (fun v f K=>qgt (v.l 0 0) (v.i 12 0) f (qva K)) (fun f v=>f (v.i 12 0)) (fun k v=>(fun z0=>k (v.ui 12 0 z0)))
def qpr (v0:LA):Option Int:=
 (bif(decide ((v0.length:Int)>512))then(some (9:Int))else(q06 v0 (fun(_:Unit)=>(some (0:Int))) FU (0:Int)))
def qzs:=hull qpr
theorem qbku:qzs=qpr:=qa _
def qbm0 {R:Type}:EntF Tryz.prog R:=entB (nt:=74) (dec:=(decI .i64)) (enc:=(AV.int .i64)) tabOk follows Tryz.func28 [.t 2] hdeI (.s .z (.s .z (.s (.s .z (.b (.sub [.sel [0,3] []] qbbi []))) .z))) S93_ qpr (fun f v=>f (v.l 0 0))
def S103_:Shp:=⟨[(0,.one (.l .s)),(3,.one (.l (.i .i64))),(4,.one (.l (.i .u8)))],[]⟩
def q52 (v0:LU)(v3:Int)(K:Ex->Env->Mem->Option Bool):=(fun z_v46=>K .norm (qk [(0,(.str v0)),(3,(.int .i64 v3)),(46,(.bool z_v46))]) (qh []))
def qit (v0:LU)(v3 v4:Int)(kn:Bool->Option Bool):Option Bool:=
 (bif((decide (v4>=97))&&(decide (v4<=122)))then(kn false)else(bif(decide (v4>=48))then(kn (!(((decide (v4<=57))||(v4==45))||(v4==95))))else(kn (!((v4==45)||(v4==95))))))
def qps:=hull (qit)
theorem q53:qps=qit:=qa _
def q7m:SubB Tryz.prog (TIof Tryz.prog) 47 0 (kret [.t 2] decB):=jnB tabOk follows Tryz.f136 5271 (.r [(3,.g 2),(15,.g 2),(19,.g 2)] [.sel [0,3,46] []]) S103_ (qit) (fun f v K=>f (v.s 0 0) (v.i 12 0) (v.i 16 0) (q52 (v.s 0 0) (v.i 12 0) K))
def qs2 (K:Ex->Env->Mem->Option Bool):=(fun(_:Unit)=>K (.exit 0) (qk []) (qh []))
def qff (v0:LU)(v3:Int)(next:Int->Option Bool)(kx0:Unit->Option Bool):Option Bool:=
 (bif(decide (v3<(v0.length:Int)))then(oB (ixB v0 v3) fun c1=>(qps v0 v3 (c1.toNat:Int) (fun v46q2=>(bif v46q2 then(some false)else(next (IntKind.i64.wrap (v3+1)))))))else(kx0 ()))
def qfg (v0:LU)(kx0:Unit->Option Bool):Nat->Int->Option Bool
 |0=>(fun _=>none)
 |n+1=>(fun v3=>qff v0 v3 (qfg v0 kx0 n) kx0)
def qx2:=hull (qfg)
theorem q54:qx2=qfg:=qa _
def q7n:SubB Tryz.prog (TIof Tryz.prog) 47 0 (kret [.t 2] decB):=lpB tabOk follows Tryz.f136 151 (.s (.s .z (.s .z (.v [.sel [] []]))) (.s (.b (.s .z (.s (.sub [.sel [0,3,4] []] q7m []) .z))) (.v [.sel [0,3] []]))) S99_ (qfg) (fun f v K n=>f (v.s 0 0) (qs2 K) n) (fun v f K=>qff (v.s 0 0) (v.i 12 0) f (qs2 K)) (fun f v=>f (v.i 12 0)) (fun k v=>(fun z0=>k (v.ui 12 0 z0)))
def qmu (v0:LU):Option Bool:=
 (bif(v0==([42]:List UInt8))then(some true)else(bif((decide ((v0.length:Int)<1))||(decide ((v0.length:Int)>63)))then(some false)else(qx2 v0 (fun(_:Unit)=>(some true)) FU (0:Int))))
def qwc:=hull qmu
theorem qbes:qwc=qmu:=qa _
def qbgz {R:Type}:EntF Tryz.prog R:=entB (nt:=47) (dec:=decB) (enc:=AV.bool) tabOk follows Tryz.func136 [.t 2] hdeB (.s .z (.s .z (.s (.s (.r [(4,.g 3)] []) .z) (.s (.s .z (.b (.sub [.sel [0,3] []] q7n []))) .z)))) S69_ qmu (fun f v=>f (v.s 0 0))
def S104_:Shp:=⟨[(0,.one (.l .s)),(4,.one (.own 0)),(5,.one (.l (.i .i64))),(6,.one (.l (.i .i64))),(7,.one (.l .s))],[.arr true 1]⟩
def S105_:Shp:=⟨[(0,.one (.l .s)),(4,.one (.own 0)),(5,.one (.l (.i .i64))),(6,.one (.l (.i .i64)))],[.arr true 1]⟩
def qmv:AV->Option ((List AV)×Bool):=decN [(.one (.fr true 1)),(.one .b)] fun z=>(aL (gC (tpL z) 0),aB (gC (tpL z) 1))
def q82 (v0:LU)(K:Ex->Env->Mem->Option ((List AV)×Bool)):=(fun z_v25=>K .norm (qk [(0,(.str v0)),(25,(.bool z_v25))]) (qh []))
def qko (v0:LU)(kn:Bool->Option ((List AV)×Bool)):Option ((List AV)×Bool):=
 (bif((decide ((v0.length:Int)<2))||(decide ((v0.length:Int)>254)))then(kn true)else(oB (ixB v0 (IntKind.i64.wrap ((v0.length:Int)-1))) fun c1=>(kn ((c1.toNat:Int) != (46:Int)))))
def q07:=hull (qko)
theorem q83:q07=qko:=qa _
def qbbj:SubB Tryz.prog (TIof Tryz.prog) 58 0 (kret [.t 2,.t 3] qmv):=jnB tabOk follows Tryz.f82 19 (.r [(4,.g 3)] [.sel [0,25] []]) S69_ (qko) (fun f v K=>f (v.s 0 0) (q82 (v.s 0 0) K))
def q84 (v0:LU)(v6:Int)(v7:LU)(a0:LA)(K:Ex->Env->Mem->Option ((List AV)×Bool)):=(fun z_v50=>K .norm (qk [(0,(.str v0)),(4,(.own 0 a0.length)),(6,(.int .i64 v6)),(7,(.str v7)),(50,(.bool z_v50))]) (qh [(some (.arr true 1 a0))]))
def qkp (v0:LU)(v5 v6:Int)(v7:LU)(a0:LA)(kn:Bool->Option ((List AV)×Bool)):Option ((List AV)×Bool):=
 (oB (qwc v7) fun r1=>(bif(!r1)then(kn true)else(bif(v7==([42]:List UInt8))then(kn (decide (v5>0)))else(kn false))))
def q08:=hull (qkp)
theorem q85:q08=qkp:=qa _
def qbbk:SubB Tryz.prog (TIof Tryz.prog) 58 0 (kret [.t 2,.t 3] qmv):=jnB tabOk follows Tryz.f82 78431 (.r [(1,.c qbgz.b)] [.sel [0,4,6,7,50] [0]]) S104_ (qkp) (fun f v K=>f (v.s 0 0) (v.i 20 0) (v.i 24 0) (v.s 28 0) (v.r 0) (q84 (v.s 0 0) (v.i 24 0) (v.s 28 0) (v.r 0) K))
def qvb (K:Ex->Env->Mem->Option ((List AV)×Bool)):=(fun z_a0=>K (.exit 0) (qk [(4,(.own 0 z_a0.length))]) (qh [(some (.arr true 1 z_a0))]))
def qgv (v0:LU)(v5 v6:Int)(a0:LA)(next:Int->Int->(List AV)->Option ((List AV)×Bool))(kx0:(List AV)->Option ((List AV)×Bool)):Option ((List AV)×Bool):=
 (bif(decide (v6<(v0.length:Int)))then(oB (ixB v0 v6) fun c1=>(bif((c1.toNat:Int) != (46:Int))then(next v5 (IntKind.i64.wrap (v6+1)) a0)else(oB (cutI v0 (some v5) (some v6)) fun s2=>(bif(hd a0 (a0.length)&&true)then(q08 v0 v5 v6 s2 a0 (fun v50q3=>(bif v50q3 then(bif hd ([]:List AV) (([]:List AV).length)then(some (([]:List AV),false))else none)else(bif hd a0 a0.length then(bif hd ([(.str s2)]:List AV) (([(.str s2)]:List AV).length)then(bif decide ((a0.length+([(.str s2)]:List AV).length)*16<=140737488355328)then(next (IntKind.i64.wrap (v6+1)) (IntKind.i64.wrap (v6+1)) (a0++([(.str s2)]:List AV)))else none)else none)else none))))else none))))else(kx0 a0))
def qgw (v0:LU)(kx0:(List AV)->Option ((List AV)×Bool)):Nat->Int->Int->(List AV)->Option ((List AV)×Bool)
 |0=>(fun _ _ _=>none)
 |n+1=>(fun v5 v6 a0=>qgv v0 v5 v6 a0 (qgw v0 kx0 n) kx0)
def qs3:=hull (qgw)
theorem q86:qs3=qgw:=qa _
def qbbl:SubB Tryz.prog (TIof Tryz.prog) 58 0 (kret [.t 2,.t 3] qmv):=lpB tabOk follows Tryz.f82 607 (.s (.s .z (.s .z (.v [.sel [4] [0]]))) (.s (.b (.s .z (.s .z (.s (.s (.sub [.sel [0,4,5,6,7] [0]] qbbk []) (.s (.s .z (.v [.own 2 1])) .z)) .z)))) (.v [.sel [0,4,5,6] [0]]))) S105_ (qgw) (fun f v K n=>f (v.s 0 0) (qvb K) n) (fun v f K=>qgv (v.s 0 0) (v.i 20 0) (v.i 24 0) (v.r 0) f (qvb K)) (fun f v=>f (v.i 20 0) (v.i 24 0) (v.r 0)) (fun k v=>(fun z0 z1 z2=>k (((v.ui 20 0 z0).ui 24 0 z1).ur 0 z2)))
def qpt (v0:LU):Option ((List AV)×Bool):=
 (bif(v0==([46]:List UInt8))then(bif hd ([]:List AV) (([]:List AV).length)then(some (([]:List AV),true))else none)else(q07 v0 (fun v25q1=>(bif v25q1 then(bif hd ([]:List AV) (([]:List AV).length)then(some (([]:List AV),false))else none)else(bif(hd ([]:List AV) (([]:List AV).length)&&true)then(qs3 v0 (fun a0q2=>(bif hd a0q2 a0q2.length then(some (a0q2,true))else none)) FU (0:Int) (0:Int) ([]:List AV))else none)))))
def qfv:=hull qpt
theorem qbkv:qfv=qpt:=qa _
def qik {R:Type}:EntF Tryz.prog R:=entB (nt:=58) (dec:=qmv) (enc:=(fun r=>.tup [.fr true 1 r.1,.bool r.2])) tabOk follows Tryz.func82 [.t 2,.t 3] (hdeN fun _=>rfl) (.s .z (.s (.s .z (.s (.s .z (.v [.own 2 1])) .z)) (.s (.s (.sub [.sel [0] []] qbbj []) (.s (.s .z (.v [.own 2 1])) .z)) (.s .z (.s .z (.s (.s .z (.b (.sub [.own 4 1,.sel [0,4,5,6] [0]] qbbl []))) .z)))))) S69_ qpt (fun f v=>f (v.s 0 0))
def qpu (v0:LU):Option Bool:=
 (oB (qfv v0) fun r1=>(some r1.2))
def qoq:=hull qpu
theorem qbkw:qoq=qpu:=qa _
def qwd {R:Type}:EntF Tryz.prog R:=entB (nt:=11) (dec:=decB) (enc:=AV.bool) tabOk follows Tryz.func30 [.t 2] hdeB (.s .z (.s (.r [(1,.k qik.b)] []) .z)) S69_ qpu (fun f v=>f (v.s 0 0))
def qn6 (v0:LU):Option (List AV):=
 (oB (qfv v0) fun r1=>(some r1.1))
def qx3:=hull qn6
theorem qbg0:qx3=qn6:=qa _
def qbkx {R:Type}:EntF Tryz.prog R:=entB (nt:=11) (dec:=(decX (.one (.sl 1)) fun z=>aL z)) (enc:=(fun r=>.sl 1 r)) tabOk follows Tryz.func135 [.t 2] (hdeX fun _=>rfl) (.s .z (.s (.r [(1,.k qik.b)] []) .z)) S69_ qn6 (fun f v=>f (v.s 0 0))
def qmw (v0:LU):Option Bool:=
 (oB (qx3 v0) fun r1=>(bif(decide ((r1.length:Int)>0))then(oB (ixB r1 (0:Int)) fun y2=>(bif fitC [.s] y2.cells then(some ((gS y2.cells 0)==([42]:List UInt8)))else none))else(some false)))
def qwe:=hull qmw
theorem qbet:qwe=qmw:=qa _
def qbg1 {R:Type}:EntF Tryz.prog R:=entB (nt:=15) (dec:=decB) (enc:=AV.bool) tabOk follows Tryz.func79 [.t 2] hdeB (.s .z (.s (.r [(1,.k qbkx.b)] []) (.s (.r [(5,.p (.etac 11 [.s]))] []) .z))) S69_ qmw (fun f v=>f (v.s 0 0))
def qr6 (v0 v1:LU):Option Int:=
 (bif(Op.bytesLess v0 v1)then(some (-1:Int))else(bif(!(Op.bytesLess v0 v1||v0==v1))then(some (1:Int))else(some (0:Int))))
def qv2:=hull qr6
theorem qbm1:qv2=qr6:=qa _
def q6k {R:Type}:EntF Tryz.prog R:=entB (nt:=11) (dec:=(decI .i64)) (enc:=(AV.int .i64)) tabOk follows Tryz.func83 [.t 4] hdeI (.z) S62_ qr6 (fun f v=>f (v.s 0 0) (v.s 4 0))
def S106_:Shp:=⟨[(0,.one (.l (.sl 1))),(1,.one (.l (.sl 1))),(5,.one (.l (.i .i64)))],[]⟩
def S107_:Shp:=⟨[(0,.one (.l (.sl 1))),(1,.one (.l (.sl 1)))],[]⟩
def qbeu (v0 v1:LA)(v5:Int)(K:Ex->Env->Mem->Option Int):=(fun z_v34=>K .norm (qk [(0,(.sl 1 v0)),(1,(.sl 1 v1)),(5,(.int .i64 v5)),(34,(.bool z_v34))]) (qh []))
def qmx (v0 v1:LA)(v5:Int)(kn:Bool->Option Int):Option Int:=
 (bif(decide (v5<(v0.length:Int)))then(bif(decide (v5<(v1.length:Int)))then(oB (ixB v0 (IntKind.i64.wrap ((IntKind.i64.wrap ((v0.length:Int)-1))-v5))) fun y1=>(bif fitC [.s] y1.cells then(oB (ixB v1 (IntKind.i64.wrap ((IntKind.i64.wrap ((v1.length:Int)-1))-v5))) fun y2=>(bif fitC [.s] y2.cells then(kn ((gS y1.cells 0)==(gS y2.cells 0)))else none))else none))else(kn false))else(kn false))
def q4o:=hull (qmx)
theorem qbev:q4o=qmx:=qa _
def qbg2:SubB Tryz.prog (TIof Tryz.prog) 38 0 (kret [.t 4] (decI .i64)):=jnB tabOk follows Tryz.f84 131 (.d [] [(17,.e 23 [.s]),(25,.e 31 [.s])] [] [.sel [0,1,5,34] []]) S106_ (qmx) (fun f v K=>f (v.l 0 0) (v.l 4 0) (v.i 20 0) (qbeu (v.l 0 0) (v.l 4 0) (v.i 20 0) K))
def qx4 (K:Ex->Env->Mem->Option Int):=(fun z_v5=>K (.exit 0) (qk [(5,(.int .i64 z_v5))]) (qh []))
def qmy (v0 v1:LA)(v5:Int)(next:Int->Option Int)(kx0:Int->Option Int):Option Int:=
 (q4o v0 v1 v5 (fun v34q1=>(bif v34q1 then(next (IntKind.i64.wrap (v5+1)))else(kx0 v5))))
def qfw (v0 v1:LA)(kx0:Int->Option Int):Nat->Int->Option Int
 |0=>(fun _=>none)
 |n+1=>(fun v5=>qmy v0 v1 v5 (qfw v0 v1 kx0 n) kx0)
def q4p:=hull (qfw)
theorem qbew:q4p=qfw:=qa _
def qbg3:SubB Tryz.prog (TIof Tryz.prog) 38 0 (kret [.t 4] (decI .i64)):=lpB tabOk follows Tryz.f84 35 (.s (.s (.sub [.sel [0,1,5] []] qbg2 []) (.s .z (.v [.sel [5] []]))) (.b (.v [.sel [0,1,5] []]))) S106_ (qfw) (fun f v K n=>f (v.l 0 0) (v.l 4 0) (qx4 K) n) (fun v f K=>qmy (v.l 0 0) (v.l 4 0) (v.i 20 0) f (qx4 K)) (fun f v=>f (v.i 20 0)) (fun k v=>(fun z0=>k (v.ui 20 0 z0)))
def qr7 (v0 v1:LA):Option Int:=
 (q4p v0 v1 (fun v5q1=>(some v5q1)) FU (0:Int))
def qqr:=hull qr7
theorem qbm2:qqr=qr7:=qa _
def q6l {R:Type}:EntF Tryz.prog R:=entB (nt:=38) (dec:=(decI .i64)) (enc:=(AV.int .i64)) tabOk follows Tryz.func84 [.t 4] hdeI (.s .z (.s .z (.s (.b (.sub [.sel [0,1,5] []] qbg3 [])) .z))) S107_ qr7 (fun f v=>f (v.l 0 0) (v.l 4 0))
def qmz (v0 v1:LU):Option Int:=
 (oB (qfv v0) fun r1=>(oB (qfv v1) fun r2=>(bif((!r1.2)||(!r2.2))then(bif r1.2 then(some (-1:Int))else(bif r2.2 then(some (1:Int))else(oB (qv2 v0 v1) fun r3=>(some r3))))else(oB (qqr r1.1 r2.1) fun r4=>(bif((decide (r4<(r1.1.length:Int)))&&(decide (r4<(r2.1.length:Int))))then(oB (ixB r1.1 (IntKind.i64.wrap ((IntKind.i64.wrap ((r1.1.length:Int)-1))-r4))) fun y5=>(bif fitC [.s] y5.cells then(oB (ixB r2.1 (IntKind.i64.wrap ((IntKind.i64.wrap ((r2.1.length:Int)-1))-r4))) fun y6=>(bif fitC [.s] y6.cells then(oB (qv2 (gS y5.cells 0) (gS y6.cells 0)) fun r7=>(some r7))else none))else none))else(bif(decide ((r1.1.length:Int)<(r2.1.length:Int)))then(some (-1:Int))else(bif(decide ((r1.1.length:Int)>(r2.1.length:Int)))then(some (1:Int))else(some (0:Int)))))))))
def qpv:=hull qmz
theorem qbex:qpv=qmz:=qa _
def q09 {R:Type}:EntF Tryz.prog R:=entB (nt:=71) (dec:=(decI .i64)) (enc:=(AV.int .i64)) tabOk follows Tryz.func31 [.t 4] hdeI (.s .z (.s (.r [(1,.k qik.b)] []) (.s (.r [(1,.k qik.b)] []) (.s (.s (.r [(3,.g 2)] []) (.s (.s .z (.s .z (.s (.r [(2,.c q6k.b)] []) .z))) .z)) (.s (.r [(2,.c q6l.b)] []) (.s (.s (.r [(5,.g 4)] []) (.s (.s (.d [] [(6,.e 50 [.s]),(14,.e 58 [.s])] [(0,.c q6k.b)] []) .z) .z)) .z)))))) S62_ qmz (fun f v=>f (v.s 0 0) (v.s 4 0))
def qn7 (Aa:LU)(Ab:Bool)(Ac Bt Bu:Int)(B7:LU)(B8:Bool)(B9 Ca Cb:Int):Option Bool:=
 (oB (qpo Ab Ac Bt B8 B9 Ca) fun r1=>(bif(decide (r1<0))then(some true)else(bif(r1==0)then(oB (qpv Aa B7) fun r2=>(some (decide (r2<0))))else(some false))))
def qr8:=hull qn7
theorem qbg4:qr8=qn7:=qa _
def q23 {R:Type}:EntF Tryz.prog R:=entB (nt:=25) (dec:=decB) (enc:=AV.bool) tabOk follows Tryz.func81 [.t 4] hdeB (.s .z (.s (.r [(4,.c q02.b)] []) (.s (.r [(10,.c q09.b)] []) .z))) S75_ qn7 (fun f v=>f (v.s 1 0) (v.b 1 1) (v.i 1 2) (v.i 1 3) (v.i 1 4) (v.s 5 0) (v.b 5 1) (v.i 5 2) (v.i 5 3) (v.i 5 4))
def S108_:Shp:=⟨[(0,.one (.l (.sl 5))),(3,.one (.l (.i .i64))),(4,.one (.ptr 0 0))],[.box true (lk qj)]⟩
def S109_:Shp:=⟨[(0,.one (.l (.sl 5))),(3,.one (.l (.i .i64)))],[]⟩
def q87 (v0:LA)(v3:Int)(Av:LU)(Aw:Bool)(Ax Ay Az:Int)(K:Ex->Env->Mem->Option Int):=(fun z_v26=>K .norm (qk [(0,(.sl 5 v0)),(3,(.int .i64 v3)),(4,(.ptr 0 0)),(26,(.bool z_v26))]) (qh [(some (.box true (qfm Av Aw Ax Ay Az)))]))
def qkq (v0:LA)(v3:Int)(Av:LU)(Aw:Bool)(Ax Ay Az:Int)(kn:Bool->Option Int):Option Int:=
 (oB (qoq Av) fun r1=>(bif(!r1)then(kn true)else(oB (qwe Av) fun r2=>(kn r2))))
def qs4:=hull (qkq)
theorem q88:qs4=qkq:=qa _
def qbbm:SubB Tryz.prog (TIof Tryz.prog) 74 0 (kret [.t 2] (decI .i64)):=jnB tabOk follows Tryz.f29 4683 (.r [(2,.c qwd.b),(7,.c qbg1.b)] [.sel [0,3,4,26] [0]]) S108_ (qkq) (fun f v K=>f (v.l 0 0) (v.i 12 0) (v.s 3 0) (v.b 3 1) (v.i 3 2) (v.i 3 3) (v.i 3 4) (q87 (v.l 0 0) (v.i 12 0) (v.s 3 0) (v.b 3 1) (v.i 3 2) (v.i 3 3) (v.i 3 4) K))
def q89 (v0:LA)(v3:Int)(Av:LU)(Aw:Bool)(Ax Ay Az:Int)(K:Ex->Env->Mem->Option Int):=(fun z_v49=>K .norm (qk [(0,(.sl 5 v0)),(3,(.int .i64 v3)),(4,(.ptr 0 0)),(49,(.bool z_v49))]) (qh [(some (.box true (qfm Av Aw Ax Ay Az)))]))
def qkr (v0:LA)(v3:Int)(Av:LU)(Aw:Bool)(Ax Ay Az:Int)(kn:Bool->Option Int):Option Int:=
 (bif(decide (v3>0))then(oB (ixB v0 (IntKind.i64.wrap (v3-1))) fun y1=>(bif fitC qj y1.cells then(oB (qr8 Av Aw Ax Ay Az (gS y1.cells 0) (gB y1.cells 1) (gI y1.cells 2) (gI y1.cells 3) (gI y1.cells 4)) fun r2=>(kn r2))else none))else(kn false))
def qs5:=hull (qkr)
theorem q9a:qs5=qkr:=qa _
def qbbn:SubB Tryz.prog (TIof Tryz.prog) 74 0 (kret [.t 2] (decI .i64)):=jnB tabOk follows Tryz.f29 40523 (.d [] [(7,.e 46 qj)] [(0,.c q23.b)] [.sel [0,3,4,49] [0]]) S108_ (qkr) (fun f v K=>f (v.l 0 0) (v.i 12 0) (v.s 3 0) (v.b 3 1) (v.i 3 2) (v.i 3 3) (v.i 3 4) (q89 (v.l 0 0) (v.i 12 0) (v.s 3 0) (v.b 3 1) (v.i 3 2) (v.i 3 3) (v.i 3 4) K))
def q9b (v0:LA)(v3:Int)(K:Ex->Env->Mem->Option Int):=(fun z_v73=>K .norm (qk [(0,(.sl 5 v0)),(3,(.int .i64 v3)),(73,(.bool z_v73))]) (qh []))
def qks (v0:LA)(v3:Int)(Av:LU)(Aw:Bool)(Ax Ay Az:Int)(kn:Bool->Option Int):Option Int:=
 (bif(decide (v3>0))then(oB (ixB v0 (IntKind.i64.wrap (v3-1))) fun y1=>(bif fitC qj y1.cells then(bif(Av==(gS y1.cells 0))then(oB (ixB v0 (IntKind.i64.wrap (v3-1))) fun y2=>(bif fitC qj y2.cells then(kn ((Aw==(gB y2.cells 1))&&((Ax==(gI y2.cells 2))&&((Ay==(gI y2.cells 3))&&true))))else none))else(kn false))else none))else(kn false))
def qs6:=hull (qks)
theorem q9c:qs6=qks:=qa _
def qbbo:SubB Tryz.prog (TIof Tryz.prog) 74 0 (kret [.t 2] (decI .i64)):=jnB tabOk follows Tryz.f29 48715 (.d [] [(8,.e 58 qj),(19,.e 69 qj)] [] [.sel [0,3,73] []]) S108_ (qks) (fun f v K=>f (v.l 0 0) (v.i 12 0) (v.s 3 0) (v.b 3 1) (v.i 3 2) (v.i 3 3) (v.i 3 4) (q9b (v.l 0 0) (v.i 12 0) K))
def qvc (K:Ex->Env->Mem->Option Int):=(fun(_:Unit)=>K (.exit 0) (qk []) (qh []))
def qgx (v0:LA)(v3:Int)(next:Int->Option Int)(kx0:Unit->Option Int):Option Int:=
 (bif(decide (v3<(v0.length:Int)))then(oB (ixB v0 v3) fun y1=>(bif fitC qj y1.cells then(qs4 v0 v3 (gS y1.cells 0) (gB y1.cells 1) (gI y1.cells 2) (gI y1.cells 3) (gI y1.cells 4) (fun v26q2=>(bif v26q2 then(some (2:Int))else(oB (qla (gB y1.cells 1) (gI y1.cells 2) (gI y1.cells 3)) fun r3=>(bif(!r3)then(some (3:Int))else(bif((decide ((gI y1.cells 4)<0))||(decide ((gI y1.cells 4)>2147483647)))then(some (1:Int))else(qs5 v0 v3 (gS y1.cells 0) (gB y1.cells 1) (gI y1.cells 2) (gI y1.cells 3) (gI y1.cells 4) (fun v49q4=>(bif v49q4 then(some (7:Int))else(qs6 v0 v3 (gS y1.cells 0) (gB y1.cells 1) (gI y1.cells 2) (gI y1.cells 3) (gI y1.cells 4) (fun v73q5=>(bif v73q5 then(some (12:Int))else(next (IntKind.i64.wrap (v3+1)))))))))))))))else none))else(kx0 ()))
def qgy (v0:LA)(kx0:Unit->Option Int):Nat->Int->Option Int
 |0=>(fun _=>none)
 |n+1=>(fun v3=>qgx v0 v3 (qgy v0 kx0 n) kx0)
def q1a:=hull (qgy)
theorem q9d:q1a=qgy:=qa _
def qbbp:SubB Tryz.prog (TIof Tryz.prog) 74 0 (kret [.t 2] (decI .i64)):=lpB tabOk follows Tryz.f29 75 (.s (.s .z (.s .z (.v [.sel [] []]))) (.s (.b (.s (.r [(2,.p (.etac 16 qj))] []) (.s (.s (.sub [.sel [0,3,4] [0]] qbbm []) .z) (.s (.s (.r [(2,.c qpl.b)] []) .z) (.s (.s (.r [(4,.g 3)] []) .z) (.s (.s (.sub [.sel [0,3,4] [0]] qbbn []) .z) (.s (.sub [.sel [0,3,4] [0]] qbbo []) .z))))))) (.v [.sel [0,3] []]))) S109_ (qgy) (fun f v K n=>f (v.l 0 0) (qvc K) n) (fun v f K=>qgx (v.l 0 0) (v.i 12 0) f (qvc K)) (fun f v=>f (v.i 12 0)) (fun k v=>(fun z0=>k (v.ui 12 0 z0)))
def qpw (v0:LA):Option Int:=
 (bif(decide ((v0.length:Int)>256))then(some (9:Int))else(q1a v0 (fun(_:Unit)=>(some (0:Int))) FU (0:Int)))
def qt6:=hull qpw
theorem qbky:qt6=qpw:=qa _
def q4q {R:Type}:EntF Tryz.prog R:=entB (nt:=74) (dec:=(decI .i64)) (enc:=(AV.int .i64)) tabOk follows Tryz.func29 [.t 2] hdeI (.s .z (.s .z (.s (.s .z (.b (.sub [.sel [0,3] []] qbbp []))) .z))) S77_ qpw (fun f v=>f (v.l 0 0))
def S110_:Shp:=⟨[(0,.one (.l (.sl 8))),(3,.one (.ptr 0 0)),(4,.one (.ptr 1 0)),(6,.one (.l (.i .i64))),(7,.one (.l (.i .i64)))],[.box true (lk qd3),.box true (lk qb)]⟩
def qrd:AV->Option (AV×Bool):=decN [(.st [.b,(.i .u64),(.i .u64),(.i .i64),(.i .i64),.s,.s,(.i .i64)]),(.one .b)] fun z=>((gC (tpL z) 0),aB (gC (tpL z) 1))
def q7o (v0:LA)(v6 v7:Int)(Av:Bool)(Aw Ax:Int)(Ad:Bool)(Ae Af Ag Ah:Int)(Ai Aj:LU)(Ak:Int)(K:Ex->Env->Mem->Option (AV×Bool)):=(fun z_v39=>K .norm (qk [(0,(.sl 8 v0)),(3,(.ptr 0 0)),(4,(.ptr 1 0)),(6,(.int .i64 v6)),(7,(.int .i64 v7)),(39,(.bool z_v39))]) (qh [(some (.box true (qhi Av Aw Ax))),(some (.box true (qn Ad Ae Af Ag Ah Ai Aj Ak)))]))
def qjo (v0:LA)(v6 v7:Int)(Av:Bool)(Aw Ax:Int)(Ad:Bool)(Ae Af Ag Ah:Int)(Ai Aj:LU)(Ak:Int)(kn:Bool->Option (AV×Bool)):Option (AV×Bool):=
 (oB (ixB v0 v7) fun y1=>(bif fitC qb y1.cells then(oB (qn3 (gB y1.cells 0) (gI y1.cells 1) (gI y1.cells 2) (gI y1.cells 3) Av Aw Ax) fun r2=>(bif r2 then(bif(decide (v6<0))then(kn true)else(oB (ixB v0 v7) fun y3=>(bif fitC qb y3.cells then(oB (ixB v0 v6) fun y4=>(bif fitC qb y4.cells then(kn (decide ((gI y3.cells 3)>(gI y4.cells 3))))else none))else none)))else(kn false)))else none))
def qy6:=hull (qjo)
theorem q7p:qy6=qjo:=qa _
def q9e:SubB Tryz.prog (TIof Tryz.prog) 48 0 (kret [(.cell 4 true 8),.t 5] qrd):=jnB tabOk follows Tryz.f85 1099 (.d [] [(2,.e 16 qb),(6,.c qy5.b),(13,.e 27 qb),(19,.e 33 qb)] [] [.sel [0,3,4,6,7,39] [0,1]]) S110_ (qjo) (fun f v K=>f (v.l 0 0) (v.i 24 0) (v.i 28 0) (v.b 3 0) (v.i 3 1) (v.i 3 2) (v.b 7 0) (v.i 7 1) (v.i 7 2) (v.i 7 3) (v.i 7 4) (v.s 7 5) (v.s 7 6) (v.i 7 7) (q7o (v.l 0 0) (v.i 24 0) (v.i 28 0) (v.b 3 0) (v.i 3 1) (v.i 3 2) (v.b 7 0) (v.i 7 1) (v.i 7 2) (v.i 7 3) (v.i 7 4) (v.s 7 5) (v.s 7 6) (v.i 7 7) K))
def qvd (v0:LA)(Ad:Bool)(Ae Af Ag Ah:Int)(Ai Aj:LU)(Ak:Int)(K:Ex->Env->Mem->Option (AV×Bool)):=(fun z_v6=>K (.exit 0) (qk [(0,(.sl 8 v0)),(4,(.ptr 0 0)),(6,(.int .i64 z_v6))]) (qh [(some (.box true (qn Ad Ae Af Ag Ah Ai Aj Ak)))]))
def qgz (v0:LA)(v6 v7:Int)(Av:Bool)(Aw Ax:Int)(Ad:Bool)(Ae Af Ag Ah:Int)(Ai Aj:LU)(Ak:Int)(next:Int->Int->Option (AV×Bool))(kx0:Int->Option (AV×Bool)):Option (AV×Bool):=
 (bif(decide (v7<(v0.length:Int)))then(qy6 v0 v6 v7 Av Aw Ax Ad Ae Af Ag Ah Ai Aj Ak (fun v39q1=>(bif v39q1 then(next v7 (IntKind.i64.wrap (v7+1)))else(next v6 (IntKind.i64.wrap (v7+1))))))else(kx0 v6))
def qey (v0:LA)(Av:Bool)(Aw Ax:Int)(Ad:Bool)(Ae Af Ag Ah:Int)(Ai Aj:LU)(Ak:Int)(kx0:Int->Option (AV×Bool)):Nat->Int->Int->Option (AV×Bool)
 |0=>(fun _ _=>none)
 |n+1=>(fun v6 v7=>qgz v0 v6 v7 Av Aw Ax Ad Ae Af Ag Ah Ai Aj Ak (qey v0 Av Aw Ax Ad Ae Af Ag Ah Ai Aj Ak kx0 n) kx0)
def q1b:=hull (qey)
theorem q9f:q1b=qey:=qa _
def qbbq:SubB Tryz.prog (TIof Tryz.prog) 48 0 (kret [(.cell 4 true 8),.t 5] qrd):=lpB tabOk follows Tryz.f85 75 (.s (.s .z (.s .z (.v [.sel [0,4,6] [1]]))) (.s (.b (.s (.sub [.sel [0,3,4,6,7] [0,1]] q9e []) .z)) (.v [.sel [0,3,4,6,7] [0,1]]))) S110_ (qey) (fun f v K n=>f (v.l 0 0) (v.b 3 0) (v.i 3 1) (v.i 3 2) (v.b 7 0) (v.i 7 1) (v.i 7 2) (v.i 7 3) (v.i 7 4) (v.s 7 5) (v.s 7 6) (v.i 7 7) (qvd (v.l 0 0) (v.b 7 0) (v.i 7 1) (v.i 7 2) (v.i 7 3) (v.i 7 4) (v.s 7 5) (v.s 7 6) (v.i 7 7) K) n) (fun v f K=>qgz (v.l 0 0) (v.i 24 0) (v.i 28 0) (v.b 3 0) (v.i 3 1) (v.i 3 2) (v.b 7 0) (v.i 7 1) (v.i 7 2) (v.i 7 3) (v.i 7 4) (v.s 7 5) (v.s 7 6) (v.i 7 7) f (qvd (v.l 0 0) (v.b 7 0) (v.i 7 1) (v.i 7 2) (v.i 7 3) (v.i 7 4) (v.s 7 5) (v.s 7 6) (v.i 7 7) K)) (fun f v=>f (v.i 24 0) (v.i 28 0)) (fun k v=>(fun z0 z1=>k ((v.ui 24 0 z0).ui 28 0 z1)))
def qn8 (v0:LA)(B7:Bool)(B8 B9:Int):Option (AV×Bool):=
 (q1b v0 B7 B8 B9 false (0:Int) (0:Int) (0:Int) (0:Int) ([]:List UInt8) ([]:List UInt8) (0:Int) (fun v6q1=>(bif(decide (v6q1<0))then(some ((.agg [(.bool false),(.int .u64 (0:Int)),(.int .u64 (0:Int)),(.int .i64 (0:Int)),(.int .i64 (0:Int)),(.str ([]:List UInt8)),(.str ([]:List UInt8)),(.int .i64 (0:Int))]),false))else(oB (ixB v0 v6q1) fun y2=>(bif fitC qb y2.cells then(some ((.agg [(.bool (gB y2.cells 0)),(.int .u64 (gI y2.cells 1)),(.int .u64 (gI y2.cells 2)),(.int .i64 (gI y2.cells 3)),(.int .i64 (gI y2.cells 4)),(.str (gS y2.cells 5)),(.str (gS y2.cells 6)),(.int .i64 (gI y2.cells 7))]),true))else none)))) FU (-1:Int) (0:Int))
def qx5:=hull qn8
theorem qbg5:qx5=qn8:=qa _
def qbkz {R:Type}:EntF Tryz.prog R:=entB (nt:=48) (dec:=qrd) (enc:=(fun r=>.tup [qcl (.st [.b,(.i .u64),(.i .u64),(.i .i64),(.i .i64),.s,.s,(.i .i64)]) r.1,.bool r.2])) tabOk follows Tryz.func85 [(.cell 4 true 8),.t 5] (hdeN fun _=>rfl) (.s .z (.s .z (.s (.s .z (.b (.sub [.sel [0,3,4,6,7] [0,1]] qbbq []))) (.s .z (.s (.r [(2,.p (.etac 46 qb))] []) .z))))) S39_ qn8 (fun f v=>f (v.l 0 0) (v.b 5 0) (v.i 5 1) (v.i 5 2))
def qm0 (v0:LA)(B7:Bool)(B8 B9:Int):Option Bool:=
 (oB (qx5 v0 B7 B8 B9) fun r1=>(bif r1.2 then(bif((gI r1.1.cells 4)==2)then(some true)else(some ((gI r1.1.cells 4)==3)))else(some false)))
def qle:=hull qm0
theorem qbey:qle=qm0:=qa _
def qs7 {R:Type}:EntF Tryz.prog R:=entB (nt:=24) (dec:=decB) (enc:=AV.bool) tabOk follows Tryz.func32 [.t 4] hdeB (.s .z (.s (.r [(2,.c qbkz.b)] []) .z)) S39_ qm0 (fun f v=>f (v.l 0 0) (v.b 5 0) (v.i 5 1) (v.i 5 2))
def qpx (v0 v1:LU):Option Bool:=
 (oB (qfv v0) fun r1=>(oB (qfv v1) fun r2=>(bif(r1.2&&r2.2)then(oB (qqr r1.1 r2.1) fun r3=>(some (r3==(r2.1.length:Int))))else(some false))))
def qzt:=hull qpx
theorem qbk0:qzt=qpx:=qa _
def qbm3 {R:Type}:EntF Tryz.prog R:=entB (nt:=31) (dec:=decB) (enc:=AV.bool) tabOk follows Tryz.func86 [.t 4] hdeB (.s .z (.s (.r [(1,.k qik.b)] []) (.s (.r [(1,.k qik.b)] []) (.s (.r [(2,.g 1),(7,.c q6l.b)] []) .z)))) S62_ qpx (fun f v=>f (v.s 0 0) (v.s 4 0))
def S111_:Shp:=⟨[(0,.one (.l (.sl 1))),(1,.one (.l .s)),(5,.one (.l (.i .i64)))],[]⟩
def qwx (K:Ex->Env->Mem->Option Bool):=(fun(_:Unit)=>K (.exit 0) (qk []) (qh []))
def qh3 (v0:LA)(v1:LU)(v5:Int)(next:Int->Option Bool)(kx0:Unit->Option Bool):Option Bool:=
 (bif(decide (v5<(v0.length:Int)))then(oB (ixB v0 v5) fun y1=>(bif fitC [.s] y1.cells then(oB (qzt v1 (gS y1.cells 0)) fun r2=>(bif r2 then(some true)else(next (IntKind.i64.wrap (v5+1)))))else none))else(kx0 ()))
def qh4 (v0:LA)(v1:LU)(kx0:Unit->Option Bool):Nat->Int->Option Bool
 |0=>(fun _=>none)
 |n+1=>(fun v5=>qh3 v0 v1 v5 (qh4 v0 v1 kx0 n) kx0)
def q24:=hull (qh4)
theorem qbbr:q24=qh4:=qa _
def qbez:SubB Tryz.prog (TIof Tryz.prog) 18 0 (kret [.t 4] decB):=lpB tabOk follows Tryz.f33 37 (.s (.s .z (.s .z (.v [.sel [] []]))) (.s (.b (.s (.r [(3,.p (.etac 15 [.s])),(5,.c qbm3.b)] []) .z)) (.v [.sel [0,1,5] []]))) S111_ (qh4) (fun f v K n=>f (v.l 0 0) (v.s 4 0) (qwx K) n) (fun v f K=>qh3 (v.l 0 0) (v.s 4 0) (v.i 20 0) f (qwx K)) (fun f v=>f (v.i 20 0)) (fun k v=>(fun z0=>k (v.ui 20 0 z0)))
def qpy (v0:LA)(v1:LU):Option Bool:=
 (q24 v0 v1 (fun(_:Unit)=>(some false)) FU (0:Int))
def qor:=hull qpy
theorem qbk1:qor=qpy:=qa _
def qwf {R:Type}:EntF Tryz.prog R:=entB (nt:=18) (dec:=decB) (enc:=AV.bool) tabOk follows Tryz.func33 [.t 4] hdeB (.s .z (.s (.s .z (.b (.sub [.sel [0,1,5] []] qbez []))) .z)) S84_ qpy (fun f v=>f (v.l 0 0) (v.s 4 0))
def S112_:Shp:=⟨[(1,.one (.ptr 0 0)),(5,.one (.l (.i .i64)))],[.box true (lk qbl)]⟩
def S113_:Shp:=⟨[(1,.one (.ptr 0 0)),(6,.one (.l (.i .i64)))],[.box true (lk qbl)]⟩
def q9g (v5:Int)(Av Aw Ax:LA)(K:Ex->Env->Mem->Option Int):=(fun z_v55=>K .norm (qk [(1,(.ptr 0 0)),(5,(.int .i64 v5)),(55,(.bool z_v55))]) (qh [(some (.box true (qbr Av Aw Ax)))]))
def qkt (v5:Int)(Av Aw Ax:LA)(kn:Bool->Option Int):Option Int:=
 (oB (ixB Ax v5) fun y1=>(bif fitC [.s] y1.cells then(oB (qoq (gS y1.cells 0)) fun r2=>(bif(!r2)then(kn true)else(bif(decide (v5>0))then(oB (ixB Ax (IntKind.i64.wrap (v5-1))) fun y3=>(bif fitC [.s] y3.cells then(oB (ixB Ax v5) fun y4=>(bif fitC [.s] y4.cells then(oB (qpv (gS y3.cells 0) (gS y4.cells 0)) fun r5=>(kn (decide (r5>=0))))else none))else none))else(kn false))))else none))
def qs8:=hull (qkt)
theorem q9h:qs8=qkt:=qa _
def qbbs:SubB Tryz.prog (TIof Tryz.prog) 83 0 (kret [.t 2] (decI .i64)):=jnB tabOk follows Tryz.f12 4399 (.d [] [(3,.e 33 [.s]),(5,.c qwd.b),(15,.e 45 [.s]),(20,.e 50 [.s])] [(0,.c q09.b)] [.sel [1,5,55] [0]]) S112_ (qkt) (fun f v K=>f (v.i 20 0) (v.l 3 0) (v.l 3 1) (v.l 3 2) (q9g (v.i 20 0) (v.l 3 0) (v.l 3 1) (v.l 3 2) K))
def qve (Av Aw Ax:LA)(K:Ex->Env->Mem->Option Int):=(fun(_:Unit)=>K (.exit 0) (qk [(1,(.ptr 0 0))]) (qh [(some (.box true (qbr Av Aw Ax)))]))
def qg0 (v5:Int)(Av Aw Ax:LA)(next:Int->Option Int)(kx0:Unit->Option Int):Option Int:=
 (bif(decide (v5<(Ax.length:Int)))then(qs8 v5 Av Aw Ax (fun v55q1=>(bif v55q1 then(some (2:Int))else(next (IntKind.i64.wrap (v5+1))))))else(kx0 ()))
def qg1 (Av Aw Ax:LA)(kx0:Unit->Option Int):Nat->Int->Option Int
 |0=>(fun _=>none)
 |n+1=>(fun v5=>qg0 v5 Av Aw Ax (qg1 Av Aw Ax kx0 n) kx0)
def q1c:=hull (qg1)
theorem q9i:q1c=qg1:=qa _
def qbbt:SubB Tryz.prog (TIof Tryz.prog) 83 0 (kret [.t 2] (decI .i64)):=lpB tabOk follows Tryz.f12 303 (.s (.s .z (.s .z (.v [.sel [1] [0]]))) (.s (.b (.s (.sub [.sel [1,5] [0]] qbbs []) .z)) (.v [.sel [1,5] [0]]))) S112_ (qg1) (fun f v K n=>f (v.l 3 0) (v.l 3 1) (v.l 3 2) (qve (v.l 3 0) (v.l 3 1) (v.l 3 2) K) n) (fun v f K=>qg0 (v.i 20 0) (v.l 3 0) (v.l 3 1) (v.l 3 2) f (qve (v.l 3 0) (v.l 3 1) (v.l 3 2) K)) (fun f v=>f (v.i 20 0)) (fun k v=>(fun z0=>k (v.ui 20 0 z0)))
def qvf (K:Ex->Env->Mem->Option Int):=(fun(_:Unit)=>K (.exit 2) (qk []) (qh []))
def qg2 (v6:Int)(Av Aw Ax:LA)(next:Int->Option Int)(kx2:Unit->Option Int):Option Int:=
 (bif(decide (v6<(Aw.length:Int)))then(oB (ixB Aw v6) fun y1=>(bif fitC qj y1.cells then(oB (qle Av (gB y1.cells 1) (gI y1.cells 2) (gI y1.cells 3)) fun r2=>(bif(!r2)then(some (25:Int))else(oB (ixB Aw v6) fun y3=>(bif fitC qj y3.cells then(oB (qor Ax (gS y3.cells 0)) fun r4=>(bif(!r4)then(some (13:Int))else(next (IntKind.i64.wrap (v6+1)))))else none))))else none))else(kx2 ()))
def qg3 (Av Aw Ax:LA)(kx2:Unit->Option Int):Nat->Int->Option Int
 |0=>(fun _=>none)
 |n+1=>(fun v6=>qg2 v6 Av Aw Ax (qg3 Av Aw Ax kx2 n) kx2)
def qs9:=hull (qg3)
theorem q9j:qs9=qg3:=qa _
def qbbu:SubB Tryz.prog (TIof Tryz.prog) 83 0 (kret [.t 2] (decI .i64)):=lpB tabOk follows Tryz.f12 607 (.s (.s .z (.s .z (.v [.sel [] []]))) (.s (.b (.s (.s (.d [] [(5,.e 68 qj)] [(0,.c qs7.b)] []) .z) (.s (.d [] [(5,.e 78 qj)] [(0,.c qwf.b)] []) .z))) (.v [.sel [1,6] [0]]))) S113_ (qg3) (fun f v K n=>f (v.l 3 0) (v.l 3 1) (v.l 3 2) (qvf K) n) (fun v f K=>qg2 (v.i 24 0) (v.l 3 0) (v.l 3 1) (v.l 3 2) f (qvf K)) (fun f v=>f (v.i 24 0)) (fun k v=>(fun z0=>k (v.ui 24 0 z0)))
def qpz (Aa Ab Ac:LA):Option Int:=
 (oB (qzs Aa) fun r1=>(bif(r1 != (0:Int))then(some r1)else(oB (qt6 Ab) fun r2=>(bif(r2 != (0:Int))then(some r2)else(bif(decide ((Ac.length:Int)>32))then(some (9:Int))else(q1c Aa Ab Ac (fun(_:Unit)=>(qs9 Aa Ab Ac (fun(_:Unit)=>(some (0:Int))) FU (0:Int))) FU (0:Int)))))))
def qt7:=hull qpz
theorem qbk2:qt7=qpz:=qa _
def q4r {R:Type}:EntF Tryz.prog R:=entB (nt:=83) (dec:=(decI .i64)) (enc:=(AV.int .i64)) tabOk follows Tryz.func12 [.t 2] hdeI (.s .z (.s (.s (.r [(2,.c qbm0.b)] []) .z) (.s (.s (.r [(2,.c q4q.b)] []) .z) (.s .z (.s (.s .z (.b (.sub [.sel [1,5] [0]] qbbt []))) (.s (.s .z (.b (.sub [.sel [1,6] [0]] qbbu []))) .z)))))) S4_ qpz (fun f v=>f (v.l 1 0) (v.l 1 1) (v.l 1 2))
def S114_:Shp:=⟨[(1,.one (.ptr 0 0)),(2,.one (.ptr 1 0)),(3,.one (.ptr 2 0))],[.box true (lk qbh),.box true (lk qbh),.box true (lk qbh)]⟩
def qbe0 (Ad:Int)(Ae:Bool)(Af Ag Ah Ai:Int)(Aj Ak:LU)(Al Am An:Int)(Ao:LU)(Ap:Bool)(Aq Ar As:Int)(At:LU)(Au:Int)(K:Ex->Env->Mem->Option AV):=(fun z_b1_1 z_b1_2 z_b1_3 z_b1_4 z_b1_5 z_b1_6 z_b1_7 z_b1_8 z_b1_9 z_b1_10 z_b1_11 z_b1_12 z_b1_13 z_b1_14 z_b1_15 z_b1_16=>K .norm (qk [(2,(.ptr 0 0)),(3,(.ptr 1 0))]) (qh [(some (.box true (qjg Ad Ae Af Ag Ah Ai Aj Ak Al Am An Ao Ap Aq Ar As At))),(some (.box true (qjg Au z_b1_1 z_b1_2 z_b1_3 z_b1_4 z_b1_5 z_b1_6 z_b1_7 z_b1_8 z_b1_9 z_b1_10 z_b1_11 z_b1_12 z_b1_13 z_b1_14 z_b1_15 z_b1_16)))]))
def qm1 (Av:Int)(Aw:Bool)(Ax Ay Az A0:Int)(A1 A2:LU)(A3 A4 A5:Int)(A6:LU)(A7:Bool)(A8 A9 Ba:Int)(Bb:LU)(Ad:Int)(Ae:Bool)(Af Ag Ah Ai:Int)(Aj Ak:LU)(Al Am An:Int)(Ao:LU)(Ap:Bool)(Aq Ar As:Int)(At:LU)(Au:Int)(Bc:Bool)(Bd Be Bf Bg:Int)(Bh Bi:LU)(Bj Bl Bm:Int)(Bn:LU)(Bo:Bool)(Bp Bq Br:Int)(Bs:LU)(kn:Bool->Int->Int->Int->Int->(List UInt8)->(List UInt8)->Int->Int->Int->(List UInt8)->Bool->Int->Int->Int->(List UInt8)->Option AV):Option AV:=
 (bif(Av==1)then(kn Aw Ax Ay Az A0 A1 A2 A3 Bl Bm Bn Bo Bp Bq Br Bs)else(bif(Av==2)then(kn Aw Ax Ay Az Bg Bh Bi Bj Bl Bm Bn Bo Bp Bq Br Bs)else(bif(Av==3)then(kn Aw Ax Ay Az Bg A1 A2 Bj A4 A5 Bn Bo Bp Bq Br Bs)else(bif(Av==4)then(kn Bc Bd Be Bf Bg Bh Bi Bj Bl Bm A6 A7 A8 A9 Ba Bs)else(bif(Av==5)then(kn Bc Bd Be Bf Bg Bh Bi Bj Bl Bm A6 A7 A8 A9 Br Bs)else(bif(Av==6)then(kn Bc Bd Be Bf Bg Bh Bi Bj Bl Bm A6 A7 A8 A9 Br Bb)else(kn Bc Bd Be Bf Bg Bh Bi Bj Bl Bm Bn Bo Bp Bq Br Bs)))))))
def q4s:=hull (qm1)
theorem qbe1:q4s=qm1:=qa _
def qbg6:SubB Tryz.prog (TIof Tryz.prog) 77 0 (kret [(.cell 2 true 17)] (decT [(.i .i64),.b,(.i .u64),(.i .u64),(.i .i64),(.i .i64),.s,.s,(.i .i64),(.i .i64),(.i .i64),.s,.b,(.i .u64),(.i .u64),(.i .i64),.s])):=jnB tabOk follows Tryz.f46 23 (.s .z (.b (.s .z (.s (.v [.sel [2,3] [1,2]]) (.s .z (.s (.v [.sel [2,3] [1,2]]) (.s .z (.s (.s .z (.s .z (.s .z (.s .z (.v [.sel [2,3] [1,2]]))))) (.s .z (.s (.v [.sel [2,3] [1,2]]) (.s .z (.s (.s .z (.v [.sel [2,3] [1,2]])) (.s .z (.s (.s .z (.s .z (.v [.sel [2,3] [1,2]]))) (.v [.sel [2,3] [1,2]]))))))))))))))) S114_ (qm1) (fun f v K=>f (v.i 3 0) (v.b 3 1) (v.i 3 2) (v.i 3 3) (v.i 3 4) (v.i 3 5) (v.s 3 6) (v.s 3 7) (v.i 3 8) (v.i 3 9) (v.i 3 10) (v.s 3 11) (v.b 3 12) (v.i 3 13) (v.i 3 14) (v.i 3 15) (v.s 3 16) (v.i 7 0) (v.b 7 1) (v.i 7 2) (v.i 7 3) (v.i 7 4) (v.i 7 5) (v.s 7 6) (v.s 7 7) (v.i 7 8) (v.i 7 9) (v.i 7 10) (v.s 7 11) (v.b 7 12) (v.i 7 13) (v.i 7 14) (v.i 7 15) (v.s 7 16) (v.i 11 0) (v.b 11 1) (v.i 11 2) (v.i 11 3) (v.i 11 4) (v.i 11 5) (v.s 11 6) (v.s 11 7) (v.i 11 8) (v.i 11 9) (v.i 11 10) (v.s 11 11) (v.b 11 12) (v.i 11 13) (v.i 11 14) (v.i 11 15) (v.s 11 16) (qbe0 (v.i 7 0) (v.b 7 1) (v.i 7 2) (v.i 7 3) (v.i 7 4) (v.i 7 5) (v.s 7 6) (v.s 7 7) (v.i 7 8) (v.i 7 9) (v.i 7 10) (v.s 7 11) (v.b 7 12) (v.i 7 13) (v.i 7 14) (v.i 7 15) (v.s 7 16) (v.i 11 0) K))
def qr9 (Aa:Int)(Ab:Bool)(Ac Bt Bu Bv:Int)(Bw Bx:LU)(By Bz B0:Int)(B1:LU)(B2:Bool)(B3 B4 B5:Int)(B6:LU):Option AV:=
 (q4s Aa Ab Ac Bt Bu Bv Bw Bx By Bz B0 B1 B2 B3 B4 B5 B6 (0:Int) false (0:Int) (0:Int) (0:Int) (0:Int) ([]:List UInt8) ([]:List UInt8) (0:Int) (0:Int) (0:Int) ([]:List UInt8) false (0:Int) (0:Int) (0:Int) ([]:List UInt8) Aa false (0:Int) (0:Int) (0:Int) (0:Int) ([]:List UInt8) ([]:List UInt8) (0:Int) (0:Int) (0:Int) ([]:List UInt8) false (0:Int) (0:Int) (0:Int) ([]:List UInt8) (fun b1_1q1 b1_2q2 b1_3q3 b1_4q4 b1_5q5 b1_6q6 b1_7q7 b1_8q8 b1_9q9 b1_10q10 b1_11q11 b1_12q12 b1_13q13 b1_14q14 b1_15q15 b1_16q16=>(some (.agg [(.int .i64 Aa),(.bool b1_1q1),(.int .u64 b1_2q2),(.int .u64 b1_3q3),(.int .i64 b1_4q4),(.int .i64 b1_5q5),(.str b1_6q6),(.str b1_7q7),(.int .i64 b1_8q8),(.int .i64 b1_9q9),(.int .i64 b1_10q10),(.str b1_11q11),(.bool b1_12q12),(.int .u64 b1_13q13),(.int .u64 b1_14q14),(.int .i64 b1_15q15),(.str b1_16q16)]))))
def q2h:=hull qr9
theorem qbm4:q2h=qr9:=qa _
def qboq {R:Type}:EntF Tryz.prog R:=entB (nt:=77) (dec:=(decT [(.i .i64),.b,(.i .u64),(.i .u64),(.i .i64),(.i .i64),.s,.s,(.i .i64),(.i .i64),(.i .i64),.s,.b,(.i .u64),(.i .u64),(.i .i64),.s])) (enc:=(qcl (.st [(.i .i64),.b,(.i .u64),(.i .u64),(.i .i64),(.i .i64),.s,.s,(.i .i64),(.i .i64),(.i .i64),.s,.b,(.i .u64),(.i .u64),(.i .i64),.s]))) tabOk follows Tryz.func46 [(.cell 2 true 17)] hdeT (.s .z (.s .z (.s .z (.s (.sub [.sel [1,2,3] [0,1,2]] qbg6 []) .z)))) S3_ qr9 (fun f v=>f (v.i 1 0) (v.b 1 1) (v.i 1 2) (v.i 1 3) (v.i 1 4) (v.i 1 5) (v.s 1 6) (v.s 1 7) (v.i 1 8) (v.i 1 9) (v.i 1 10) (v.s 1 11) (v.b 1 12) (v.i 1 13) (v.i 1 14) (v.i 1 15) (v.s 1 16))
def S115_:Shp:=⟨[(0,.one (.l (.sl 8))),(3,.one (.ptr 0 0)),(4,.one (.ptr 1 0)),(6,.one (.l (.i .i64)))],[.box true (lk qe),.box true (lk qb)]⟩
def q25:AV->Option (AV×Bool):=decN [(.st [.b,(.i .u64),(.i .u64),(.i .i64),(.i .i64),.s,.s,(.i .i64)]),(.one .b)] fun z=>((gC (tpL z) 0),aB (gC (tpL z) 1))
def qx6 (Ad:Bool)(Ae Af Ag Ah:Int)(Ai Aj:LU)(Ak:Int)(K:Ex->Env->Mem->Option (AV×Bool)):=(fun(_:Unit)=>K (.exit 0) (qk [(4,(.ptr 0 0))]) (qh [(some (.box true (qn Ad Ae Af Ag Ah Ai Aj Ak)))]))
def qi6 (v0:LA)(v6:Int)(Av:Bool)(Aw Ax Ay:Int)(Ad:Bool)(Ae Af Ag Ah:Int)(Ai Aj:LU)(Ak:Int)(next:Int->Option (AV×Bool))(kx0:Unit->Option (AV×Bool)):Option (AV×Bool):=
 (bif(decide (v6<(v0.length:Int)))then(oB (ixB v0 v6) fun y1=>(bif fitC qb y1.cells then(bif(((gB y1.cells 0)==Av)&&(((gI y1.cells 1)==Aw)&&(((gI y1.cells 2)==Ax)&&(((gI y1.cells 3)==Ay)&&true))))then(oB (ixB v0 v6) fun y2=>(bif fitC qb y2.cells then(some ((.agg [(.bool (gB y2.cells 0)),(.int .u64 (gI y2.cells 1)),(.int .u64 (gI y2.cells 2)),(.int .i64 (gI y2.cells 3)),(.int .i64 (gI y2.cells 4)),(.str (gS y2.cells 5)),(.str (gS y2.cells 6)),(.int .i64 (gI y2.cells 7))]),true))else none))else(next (IntKind.i64.wrap (v6+1))))else none))else(kx0 ()))
def qi7 (v0:LA)(Av:Bool)(Aw Ax Ay:Int)(Ad:Bool)(Ae Af Ag Ah:Int)(Ai Aj:LU)(Ak:Int)(kx0:Unit->Option (AV×Bool)):Nat->Int->Option (AV×Bool)
 |0=>(fun _=>none)
 |n+1=>(fun v6=>qi6 v0 v6 Av Aw Ax Ay Ad Ae Af Ag Ah Ai Aj Ak (qi7 v0 Av Aw Ax Ay Ad Ae Af Ag Ah Ai Aj Ak kx0 n) kx0)
def qwg:=hull (qi7)
theorem qbe2:qwg=qi7:=qa _
def qbg7:SubB Tryz.prog (TIof Tryz.prog) 25 0 (kret [(.cell 4 true 8),.t 5] q25):=lpB tabOk follows Tryz.f54 37 (.s (.s .z (.s .z (.v [.sel [4] [1]]))) (.s (.b (.s (.d [] [(2,.e 15 qb)] [] []) (.s (.s (.r [(2,.p (.etac 22 qb))] []) .z) .z))) (.v [.sel [0,3,4,6] [0,1]]))) S115_ (qi7) (fun f v K n=>f (v.l 0 0) (v.b 3 0) (v.i 3 1) (v.i 3 2) (v.i 3 3) (v.b 7 0) (v.i 7 1) (v.i 7 2) (v.i 7 3) (v.i 7 4) (v.s 7 5) (v.s 7 6) (v.i 7 7) (qx6 (v.b 7 0) (v.i 7 1) (v.i 7 2) (v.i 7 3) (v.i 7 4) (v.s 7 5) (v.s 7 6) (v.i 7 7) K) n) (fun v f K=>qi6 (v.l 0 0) (v.i 24 0) (v.b 3 0) (v.i 3 1) (v.i 3 2) (v.i 3 3) (v.b 7 0) (v.i 7 1) (v.i 7 2) (v.i 7 3) (v.i 7 4) (v.s 7 5) (v.s 7 6) (v.i 7 7) f (qx6 (v.b 7 0) (v.i 7 1) (v.i 7 2) (v.i 7 3) (v.i 7 4) (v.s 7 5) (v.s 7 6) (v.i 7 7) K)) (fun f v=>f (v.i 24 0)) (fun k v=>(fun z0=>k (v.ui 24 0 z0)))
def qsa (v0:LA)(B7:Bool)(B8 B9 Ca:Int):Option (AV×Bool):=
 (qwg v0 B7 B8 B9 Ca false (0:Int) (0:Int) (0:Int) (0:Int) ([]:List UInt8) ([]:List UInt8) (0:Int) (fun(_:Unit)=>(some ((.agg [(.bool false),(.int .u64 (0:Int)),(.int .u64 (0:Int)),(.int .i64 (0:Int)),(.int .i64 (0:Int)),(.str ([]:List UInt8)),(.str ([]:List UInt8)),(.int .i64 (0:Int))]),false))) FU (0:Int))
def ql8:=hull qsa
theorem qbm5:ql8=qsa:=qa _
def qsb {R:Type}:EntF Tryz.prog R:=entB (nt:=25) (dec:=q25) (enc:=(fun r=>.tup [qcl (.st [.b,(.i .u64),(.i .u64),(.i .i64),(.i .i64),.s,.s,(.i .i64)]) r.1,.bool r.2])) tabOk follows Tryz.func54 [(.cell 4 true 8),.t 5] (hdeN fun _=>rfl) (.s .z (.s (.s .z (.b (.sub [.sel [0,3,4,6] [0,1]] qbg7 []))) .z)) S16_ qsa (fun f v=>f (v.l 0 0) (v.b 5 0) (v.i 5 1) (v.i 5 2) (v.i 5 3))
def S116_:Shp:=⟨[(0,.one (.l (.sl 8))),(3,.one (.ptr 0 0)),(5,.one (.own 1)),(6,.one (.l .b)),(7,.one (.l (.i .i64)))],[.box true (lk qb),.arr true 8]⟩
def qbe3 (v0:LA)(v6:Bool)(v7:Int)(Av:Bool)(Aw Ax Ay Az:Int)(A0 A1:LU)(A2:Int)(a1:LA)(K:Ex->Env->Mem->Option (List AV)):=(fun z_v26=>K .norm (qk [(0,(.sl 8 v0)),(3,(.ptr 0 0)),(5,(.own 1 a1.length)),(6,(.bool v6)),(7,(.int .i64 v7)),(26,(.bool z_v26))]) (qh [(some (.box true (qn Av Aw Ax Ay Az A0 A1 A2))),(some (.arr true 8 a1))]))
def qm2 (v0:LA)(v6:Bool)(v7:Int)(Av:Bool)(Aw Ax Ay Az:Int)(A0 A1:LU)(A2:Int)(a1:LA)(kn:Bool->Option (List AV)):Option (List AV):=
 (bif(!v6)then(oB (ixB v0 v7) fun y1=>(bif fitC qb y1.cells then(oB (qpp (gB y1.cells 0) (gI y1.cells 1) (gI y1.cells 2) (gI y1.cells 3) Av Aw Ax Ay) fun r2=>(kn (decide (r2>0))))else none))else(kn false))
def q4t:=hull (qm2)
theorem qbe4:q4t=qm2:=qa _
def qbg8:SubB Tryz.prog (TIof Tryz.prog) 45 0 (kret [.t 4] (decF true 8)):=jnB tabOk follows Tryz.f104 4247 (.d [] [(5,.e 19 qb)] [(0,.c q03.b)] [.sel [0,3,5,6,7,26] [0,1]]) S116_ (qm2) (fun f v K=>f (v.l 0 0) (v.b 24 0) (v.i 28 0) (v.b 3 0) (v.i 3 1) (v.i 3 2) (v.i 3 3) (v.i 3 4) (v.s 3 5) (v.s 3 6) (v.i 3 7) (v.r 1) (qbe3 (v.l 0 0) (v.b 24 0) (v.i 28 0) (v.b 3 0) (v.i 3 1) (v.i 3 2) (v.i 3 3) (v.i 3 4) (v.s 3 5) (v.s 3 6) (v.i 3 7) (v.r 1) K))
def qbe5 (v0:LA)(v7:Int)(Av:Bool)(Aw Ax Ay Az:Int)(A0 A1:LU)(A2:Int)(K:Ex->Env->Mem->Option (List AV)):=(fun z_v6 z_a1=>K .norm (qk [(0,(.sl 8 v0)),(3,(.ptr 0 0)),(5,(.own 1 z_a1.length)),(6,(.bool z_v6)),(7,(.int .i64 v7))]) (qh [(some (.box true (qn Av Aw Ax Ay Az A0 A1 A2))),(some (.arr true 8 z_a1))]))
def qm3 (v0:LA)(v6:Bool)(v7:Int)(Av:Bool)(Aw Ax Ay Az:Int)(A0 A1:LU)(A2:Int)(a1:LA)(kn:Bool->(List AV)->Option (List AV)):Option (List AV):=
 (bif(hd a1 (a1.length)&&true)then(q4t v0 v6 v7 Av Aw Ax Ay Az A0 A1 A2 a1 (fun v26q1=>(bif v26q1 then(bif hd a1 a1.length then(bif hd ([(.agg [(.bool Av),(.int .u64 Aw),(.int .u64 Ax),(.int .i64 Ay),(.int .i64 Az),(.str A0),(.str A1),(.int .i64 A2)])]:List AV) (([(.agg [(.bool Av),(.int .u64 Aw),(.int .u64 Ax),(.int .i64 Ay),(.int .i64 Az),(.str A0),(.str A1),(.int .i64 A2)])]:List AV).length)then(bif decide ((a1.length+([(.agg [(.bool Av),(.int .u64 Aw),(.int .u64 Ax),(.int .i64 Ay),(.int .i64 Az),(.str A0),(.str A1),(.int .i64 A2)])]:List AV).length)*80<=140737488355328)then(kn true (a1++([(.agg [(.bool Av),(.int .u64 Aw),(.int .u64 Ax),(.int .i64 Ay),(.int .i64 Az),(.str A0),(.str A1),(.int .i64 A2)])]:List AV)))else none)else none)else none)else(kn v6 a1))))else none)
def qwh:=hull (qm3)
theorem qbe6:qwh=qm3:=qa _
def qbg9:SubB Tryz.prog (TIof Tryz.prog) 45 0 (kret [.t 4] (decF true 8)):=jnB tabOk follows Tryz.f104 2199 (.s (.sub [.sel [0,3,5,6,7] [0,1]] qbg8 []) (.s (.s .z (.v [.sel [0,3,5,6,7] [0,1]])) (.v [.sel [0,3,5,6,7] [0,1]]))) S116_ (qm3) (fun f v K=>f (v.l 0 0) (v.b 24 0) (v.i 28 0) (v.b 3 0) (v.i 3 1) (v.i 3 2) (v.i 3 3) (v.i 3 4) (v.s 3 5) (v.s 3 6) (v.i 3 7) (v.r 1) (qbe5 (v.l 0 0) (v.i 28 0) (v.b 3 0) (v.i 3 1) (v.i 3 2) (v.i 3 3) (v.i 3 4) (v.s 3 5) (v.s 3 6) (v.i 3 7) K))
def qx7 (Av:Bool)(Aw Ax Ay Az:Int)(A0 A1:LU)(A2:Int)(K:Ex->Env->Mem->Option (List AV)):=(fun z_v6 z_a1=>K (.exit 0) (qk [(3,(.ptr 0 0)),(5,(.own 1 z_a1.length)),(6,(.bool z_v6))]) (qh [(some (.box true (qn Av Aw Ax Ay Az A0 A1 A2))),(some (.arr true 8 z_a1))]))
def qfx (v0:LA)(v6:Bool)(v7:Int)(Av:Bool)(Aw Ax Ay Az:Int)(A0 A1:LU)(A2:Int)(a1:LA)(next:Bool->Int->(List AV)->Option (List AV))(kx0:Bool->(List AV)->Option (List AV)):Option (List AV):=
 (bif(decide (v7<(v0.length:Int)))then(bif(hd a1 (a1.length)&&true)then(qwh v0 v6 v7 Av Aw Ax Ay Az A0 A1 A2 a1 (fun v6q1 a1q2=>(oB (ixB v0 v7) fun y3=>(bif fitC qb y3.cells then(bif hd a1q2 a1q2.length then(bif hd ([(.agg [(.bool (gB y3.cells 0)),(.int .u64 (gI y3.cells 1)),(.int .u64 (gI y3.cells 2)),(.int .i64 (gI y3.cells 3)),(.int .i64 (gI y3.cells 4)),(.str (gS y3.cells 5)),(.str (gS y3.cells 6)),(.int .i64 (gI y3.cells 7))])]:List AV) (([(.agg [(.bool (gB y3.cells 0)),(.int .u64 (gI y3.cells 1)),(.int .u64 (gI y3.cells 2)),(.int .i64 (gI y3.cells 3)),(.int .i64 (gI y3.cells 4)),(.str (gS y3.cells 5)),(.str (gS y3.cells 6)),(.int .i64 (gI y3.cells 7))])]:List AV).length)then(bif decide ((a1q2.length+([(.agg [(.bool (gB y3.cells 0)),(.int .u64 (gI y3.cells 1)),(.int .u64 (gI y3.cells 2)),(.int .i64 (gI y3.cells 3)),(.int .i64 (gI y3.cells 4)),(.str (gS y3.cells 5)),(.str (gS y3.cells 6)),(.int .i64 (gI y3.cells 7))])]:List AV).length)*80<=140737488355328)then(next v6q1 (IntKind.i64.wrap (v7+1)) (a1q2++([(.agg [(.bool (gB y3.cells 0)),(.int .u64 (gI y3.cells 1)),(.int .u64 (gI y3.cells 2)),(.int .i64 (gI y3.cells 3)),(.int .i64 (gI y3.cells 4)),(.str (gS y3.cells 5)),(.str (gS y3.cells 6)),(.int .i64 (gI y3.cells 7))])]:List AV)))else none)else none)else none)else none))))else none)else(kx0 v6 a1))
def qfy (v0:LA)(Av:Bool)(Aw Ax Ay Az:Int)(A0 A1:LU)(A2:Int)(kx0:Bool->(List AV)->Option (List AV)):Nat->Bool->Int->(List AV)->Option (List AV)
 |0=>(fun _ _ _=>none)
 |n+1=>(fun v6 v7 a1=>qfx v0 v6 v7 Av Aw Ax Ay Az A0 A1 A2 a1 (qfy v0 Av Aw Ax Ay Az A0 A1 A2 kx0 n) kx0)
def q4u:=hull (qfy)
theorem qbe7:q4u=qfy:=qa _
def qbha:SubB Tryz.prog (TIof Tryz.prog) 45 0 (kret [.t 4] (decF true 8)):=lpB tabOk follows Tryz.f104 151 (.s (.s .z (.s .z (.v [.sel [3,5,6] [0,1]]))) (.s (.b (.s (.sub [.sel [0,3,5,6,7] [0,1]] qbg9 []) (.r [(3,.p (.etac 34 qb))] []))) (.v [.sel [0,3,5,6,7] [0,1]]))) S116_ (qfy) (fun f v K n=>f (v.l 0 0) (v.b 3 0) (v.i 3 1) (v.i 3 2) (v.i 3 3) (v.i 3 4) (v.s 3 5) (v.s 3 6) (v.i 3 7) (qx7 (v.b 3 0) (v.i 3 1) (v.i 3 2) (v.i 3 3) (v.i 3 4) (v.s 3 5) (v.s 3 6) (v.i 3 7) K) n) (fun v f K=>qfx (v.l 0 0) (v.b 24 0) (v.i 28 0) (v.b 3 0) (v.i 3 1) (v.i 3 2) (v.i 3 3) (v.i 3 4) (v.s 3 5) (v.s 3 6) (v.i 3 7) (v.r 1) f (qx7 (v.b 3 0) (v.i 3 1) (v.i 3 2) (v.i 3 3) (v.i 3 4) (v.s 3 5) (v.s 3 6) (v.i 3 7) K)) (fun f v=>f (v.b 24 0) (v.i 28 0) (v.r 1)) (fun k v=>(fun z0 z1 z2=>k (((v.ub 24 0 z0).ui 28 0 z1).ur 1 z2)))
def qt8 (v0:LA)(B7:Bool)(B8 B9 Ca Cb:Int)(Cc Cd:LU)(Ce:Int):Option (List AV):=
 (bif(hd ([]:List AV) (([]:List AV).length)&&true)then(q4u v0 B7 B8 B9 Ca Cb Cc Cd Ce (fun v6q1 a1q2=>(bif(!v6q1)then(bif hd a1q2 a1q2.length then(bif hd ([(.agg [(.bool B7),(.int .u64 B8),(.int .u64 B9),(.int .i64 Ca),(.int .i64 Cb),(.str Cc),(.str Cd),(.int .i64 Ce)])]:List AV) (([(.agg [(.bool B7),(.int .u64 B8),(.int .u64 B9),(.int .i64 Ca),(.int .i64 Cb),(.str Cc),(.str Cd),(.int .i64 Ce)])]:List AV).length)then(bif decide ((a1q2.length+([(.agg [(.bool B7),(.int .u64 B8),(.int .u64 B9),(.int .i64 Ca),(.int .i64 Cb),(.str Cc),(.str Cd),(.int .i64 Ce)])]:List AV).length)*80<=140737488355328)then(bif hd (a1q2++([(.agg [(.bool B7),(.int .u64 B8),(.int .u64 B9),(.int .i64 Ca),(.int .i64 Cb),(.str Cc),(.str Cd),(.int .i64 Ce)])]:List AV)) ((a1q2++([(.agg [(.bool B7),(.int .u64 B8),(.int .u64 B9),(.int .i64 Ca),(.int .i64 Cb),(.str Cc),(.str Cd),(.int .i64 Ce)])]:List AV)).length)then(some (a1q2++([(.agg [(.bool B7),(.int .u64 B8),(.int .u64 B9),(.int .i64 Ca),(.int .i64 Cb),(.str Cc),(.str Cd),(.int .i64 Ce)])]:List AV)))else none)else none)else none)else none)else(bif hd a1q2 a1q2.length then(some a1q2)else none))) FU false (0:Int) ([]:List AV))else none)
def q4v:=hull qt8
theorem qbor:q4v=qt8:=qa _
def qbrj {R:Type}:EntF Tryz.prog R:=entB (nt:=45) (dec:=(decF true 8)) (enc:=(AV.fr true 8)) tabOk follows Tryz.func104 [.t 4] hdeF (.s .z (.s .z (.s .z (.s (.s .z (.b (.sub [.own 5 8,.sel [0,3,5,6,7] [0,1]] qbha []))) .z)))) S25_ qt8 (fun f v=>f (v.l 0 0) (v.b 5 0) (v.i 5 1) (v.i 5 2) (v.i 5 3) (v.i 5 4) (v.s 5 5) (v.s 5 6) (v.i 5 7))
def S117_:Shp:=⟨[(0,.one (.l (.sl 8))),(3,.one (.ptr 0 0)),(8,.one (.l (.i .i64)))],[.box true (lk qb)]⟩
def q4w:AV->Option ((List AV)×Int):=decN [(.one (.sl 8)),(.one (.i .i64))] fun z=>(aL (gC (tpL z) 0),aI (gC (tpL z) 1))
def qx8 (v0:LA)(Av:Bool)(Aw Ax Ay Az:Int)(A0 A1:LU)(A2:Int)(K:Ex->Env->Mem->Option ((List AV)×Int)):=(fun(_:Unit)=>K (.exit 0) (qk [(0,(.sl 8 v0)),(3,(.ptr 0 0))]) (qh [(some (.box true (qn Av Aw Ax Ay Az A0 A1 A2)))]))
def qi8 (v0:LA)(v8:Int)(Av:Bool)(Aw Ax Ay Az:Int)(A0 A1:LU)(A2:Int)(next:Int->Option ((List AV)×Int))(kx0:Unit->Option ((List AV)×Int)):Option ((List AV)×Int):=
 (bif(decide (v8<(v0.length:Int)))then(oB (ixB v0 v8) fun y1=>(bif fitC qb y1.cells then(oB (qmt Av Aw Ax Ay Az A0 A1 A2 (gB y1.cells 0) (gI y1.cells 1) (gI y1.cells 2) (gI y1.cells 3) (gI y1.cells 4) (gS y1.cells 5) (gS y1.cells 6) (gI y1.cells 7)) fun r2=>(bif r2 then(some (([]:List AV),(24:Int)))else(oB (ixB v0 v8) fun y3=>(bif fitC qb y3.cells then(oB (qk3 (gB y3.cells 0) (gI y3.cells 1) (gI y3.cells 2) (gI y3.cells 3) Av Aw Ax Ay) fun r4=>(bif r4 then(some (([]:List AV),(24:Int)))else(next (IntKind.i64.wrap (v8+1)))))else none))))else none))else(kx0 ()))
def qi9 (v0:LA)(Av:Bool)(Aw Ax Ay Az:Int)(A0 A1:LU)(A2:Int)(kx0:Unit->Option ((List AV)×Int)):Nat->Int->Option ((List AV)×Int)
 |0=>(fun _=>none)
 |n+1=>(fun v8=>qi8 v0 v8 Av Aw Ax Ay Az A0 A1 A2 (qi9 v0 Av Aw Ax Ay Az A0 A1 A2 kx0 n) kx0)
def qwi:=hull (qi9)
theorem qbe8:qwi=qi9:=qa _
def qbhb:SubB Tryz.prog (TIof Tryz.prog) 52 0 (kret [.t 4,.t 5] q4w):=lpB tabOk follows Tryz.f47 607 (.s (.s .z (.s .z (.v [.sel [0,3] [0]]))) (.s (.b (.s (.d [] [(3,.e 33 qb),(5,.c q21.b),(9,.e 39 qb)] [(0,.c ql7.b)] []) (.s (.s .z (.v [.eta 4 (.one (.sl 8))])) .z))) (.v [.sel [0,3,8] [0]]))) S117_ (qi9) (fun f v K n=>f (v.l 0 0) (v.b 3 0) (v.i 3 1) (v.i 3 2) (v.i 3 3) (v.i 3 4) (v.s 3 5) (v.s 3 6) (v.i 3 7) (qx8 (v.l 0 0) (v.b 3 0) (v.i 3 1) (v.i 3 2) (v.i 3 3) (v.i 3 4) (v.s 3 5) (v.s 3 6) (v.i 3 7) K) n) (fun v f K=>qi8 (v.l 0 0) (v.i 32 0) (v.b 3 0) (v.i 3 1) (v.i 3 2) (v.i 3 3) (v.i 3 4) (v.s 3 5) (v.s 3 6) (v.i 3 7) f (qx8 (v.l 0 0) (v.b 3 0) (v.i 3 1) (v.i 3 2) (v.i 3 3) (v.i 3 4) (v.s 3 5) (v.s 3 6) (v.i 3 7) K)) (fun f v=>f (v.i 32 0)) (fun k v=>(fun z0=>k (v.ui 32 0 z0)))
def qt9 (v0:LA)(B7:Bool)(B8 B9 Ca Cb:Int)(Cc Cd:LU)(Ce:Int):Option ((List AV)×Int):=
 (oB (qfu B7 B8 B9 Ca) fun r1=>(bif(!r1)then(some (([]:List AV),(3:Int)))else(oB (qs0 B7 B8 B9 Ca Cb Cc Cd Ce) fun r2=>(bif(!r2)then(some (([]:List AV),(1:Int)))else(oB (ql8 v0 B7 B8 B9 Ca) fun r3=>(bif r3.2 then(some (([]:List AV),(12:Int)))else(qwi v0 B7 B8 B9 Ca Cb Cc Cd Ce (fun(_:Unit)=>(bif(decide ((v0.length:Int)>=512))then(some (([]:List AV),(9:Int)))else(oB (q4v v0 B7 B8 B9 Ca Cb Cc Cd Ce) fun r4=>(some (r4,(0:Int)))))) FU (0:Int))))))))
def qx9:=hull qt9
theorem qbos:qx9=qt9:=qa _
def q9k {R:Type}:EntF Tryz.prog R:=entB (nt:=52) (dec:=q4w) (enc:=(fun r=>.tup [.sl 8 r.1,.int .i64 r.2])) tabOk follows Tryz.func47 [.t 4,.t 5] (hdeN fun _=>rfl) (.s .z (.s (.s (.r [(2,.c qij.b)] []) (.s (.s .z (.v [.eta 4 (.one (.sl 8))])) .z)) (.s (.s (.r [(1,.c q8t.b)] []) (.s (.s .z (.v [.eta 4 (.one (.sl 8))])) .z)) (.s (.r [(3,.c qsb.b)] []) (.s (.s .z (.s (.s .z (.v [.eta 4 (.one (.sl 8))])) .z)) (.s (.s .z (.b (.sub [.sel [0,3,8] [0]] qbhb []))) (.s (.s .z (.s (.s .z (.v [.eta 4 (.one (.sl 8))])) .z)) (.s (.r [(2,.k qbrj.b)] []) .z)))))))) S25_ qt9 (fun f v=>f (v.l 0 0) (v.b 5 0) (v.i 5 1) (v.i 5 2) (v.i 5 3) (v.i 5 4) (v.s 5 5) (v.s 5 6) (v.i 5 7))
def S118_:Shp:=⟨[(0,.one (.l (.sl 8))),(3,.one (.ptr 0 0)),(5,.one (.l (.i .i64)))],[.box true (lk qe)]⟩
def qwy (K:Ex->Env->Mem->Option Bool):=(fun(_:Unit)=>K (.exit 0) (qk []) (qh []))
def qh5 (v0:LA)(v5:Int)(Av:Bool)(Aw Ax Ay:Int)(next:Int->Option Bool)(kx0:Unit->Option Bool):Option Bool:=
 (bif(decide (v5<(v0.length:Int)))then(oB (ixB v0 v5) fun y1=>(bif fitC qb y1.cells then(oB (qk3 (gB y1.cells 0) (gI y1.cells 1) (gI y1.cells 2) (gI y1.cells 3) Av Aw Ax Ay) fun r2=>(bif r2 then(some true)else(next (IntKind.i64.wrap (v5+1)))))else none))else(kx0 ()))
def qh6 (v0:LA)(Av:Bool)(Aw Ax Ay:Int)(kx0:Unit->Option Bool):Nat->Int->Option Bool
 |0=>(fun _=>none)
 |n+1=>(fun v5=>qh5 v0 v5 Av Aw Ax Ay (qh6 v0 Av Aw Ax Ay kx0 n) kx0)
def q26:=hull (qh6)
theorem qbbv:q26=qh6:=qa _
def qbe9:SubB Tryz.prog (TIof Tryz.prog) 19 0 (kret [.t 4] decB):=lpB tabOk follows Tryz.f105 37 (.s (.s .z (.s .z (.v [.sel [] []]))) (.s (.b (.s (.d [] [(2,.e 14 qb)] [(0,.c ql7.b)] []) .z)) (.v [.sel [0,3,5] [0]]))) S118_ (qh6) (fun f v K n=>f (v.l 0 0) (v.b 3 0) (v.i 3 1) (v.i 3 2) (v.i 3 3) (qwy K) n) (fun v f K=>qh5 (v.l 0 0) (v.i 20 0) (v.b 3 0) (v.i 3 1) (v.i 3 2) (v.i 3 3) f (qwy K)) (fun f v=>f (v.i 20 0)) (fun k v=>(fun z0=>k (v.ui 20 0 z0)))
def qp0 (v0:LA)(B7:Bool)(B8 B9 Ca:Int):Option Bool:=
 (q26 v0 B7 B8 B9 Ca (fun(_:Unit)=>(some false)) FU (0:Int))
def qzu:=hull qp0
theorem qbk3:qzu=qp0:=qa _
def qbm6 {R:Type}:EntF Tryz.prog R:=entB (nt:=19) (dec:=decB) (enc:=AV.bool) tabOk follows Tryz.func105 [.t 4] hdeB (.s .z (.s (.s .z (.b (.sub [.sel [0,3,5] [0]] qbe9 []))) .z)) S16_ qp0 (fun f v=>f (v.l 0 0) (v.b 5 0) (v.i 5 1) (v.i 5 2) (v.i 5 3))
def S119_:Shp:=⟨[(0,.one (.l (.sl 8))),(3,.one (.ptr 0 0)),(5,.one (.own 1)),(6,.one (.l (.i .i64)))],[.box true (lk qe),.arr true 8]⟩
def qup (K:Ex->Env->Mem->Option (List AV)):=(fun z_a0=>K (.exit 0) (qk [(5,(.own 0 z_a0.length))]) (qh [(some (.arr true 8 z_a0))]))
def qfz (v0:LA)(v6:Int)(Av:Bool)(Aw Ax Ay:Int)(a1:LA)(next:Int->(List AV)->Option (List AV))(kx0:(List AV)->Option (List AV)):Option (List AV):=
 (bif(decide (v6<(v0.length:Int)))then(oB (ixB v0 v6) fun y1=>(bif fitC qb y1.cells then(bif(!(((gB y1.cells 0)==Av)&&(((gI y1.cells 1)==Aw)&&(((gI y1.cells 2)==Ax)&&(((gI y1.cells 3)==Ay)&&true)))))then(oB (ixB v0 v6) fun y2=>(bif fitC qb y2.cells then(bif hd a1 a1.length then(bif hd ([(.agg [(.bool (gB y2.cells 0)),(.int .u64 (gI y2.cells 1)),(.int .u64 (gI y2.cells 2)),(.int .i64 (gI y2.cells 3)),(.int .i64 (gI y2.cells 4)),(.str (gS y2.cells 5)),(.str (gS y2.cells 6)),(.int .i64 (gI y2.cells 7))])]:List AV) (([(.agg [(.bool (gB y2.cells 0)),(.int .u64 (gI y2.cells 1)),(.int .u64 (gI y2.cells 2)),(.int .i64 (gI y2.cells 3)),(.int .i64 (gI y2.cells 4)),(.str (gS y2.cells 5)),(.str (gS y2.cells 6)),(.int .i64 (gI y2.cells 7))])]:List AV).length)then(bif decide ((a1.length+([(.agg [(.bool (gB y2.cells 0)),(.int .u64 (gI y2.cells 1)),(.int .u64 (gI y2.cells 2)),(.int .i64 (gI y2.cells 3)),(.int .i64 (gI y2.cells 4)),(.str (gS y2.cells 5)),(.str (gS y2.cells 6)),(.int .i64 (gI y2.cells 7))])]:List AV).length)*80<=140737488355328)then(next (IntKind.i64.wrap (v6+1)) (a1++([(.agg [(.bool (gB y2.cells 0)),(.int .u64 (gI y2.cells 1)),(.int .u64 (gI y2.cells 2)),(.int .i64 (gI y2.cells 3)),(.int .i64 (gI y2.cells 4)),(.str (gS y2.cells 5)),(.str (gS y2.cells 6)),(.int .i64 (gI y2.cells 7))])]:List AV)))else none)else none)else none)else none))else(next (IntKind.i64.wrap (v6+1)) a1))else none))else(kx0 a1))
def qf0 (v0:LA)(Av:Bool)(Aw Ax Ay:Int)(kx0:(List AV)->Option (List AV)):Nat->Int->(List AV)->Option (List AV)
 |0=>(fun _ _=>none)
 |n+1=>(fun v6 a1=>qfz v0 v6 Av Aw Ax Ay a1 (qf0 v0 Av Aw Ax Ay kx0 n) kx0)
def qy7:=hull (qf0)
theorem q7q:qy7=qf0:=qa _
def q9l:SubB Tryz.prog (TIof Tryz.prog) 28 0 (kret [.t 4] (decF true 8)):=lpB tabOk follows Tryz.f106 75 (.s (.s .z (.s .z (.v [.sel [5] [1]]))) (.s (.b (.s (.d [] [(2,.e 15 qb)] [] []) (.s (.r [(3,.p (.etac 23 qb))] []) .z))) (.v [.sel [0,3,5,6] [0,1]]))) S119_ (qf0) (fun f v K n=>f (v.l 0 0) (v.b 3 0) (v.i 3 1) (v.i 3 2) (v.i 3 3) (qup K) n) (fun v f K=>qfz (v.l 0 0) (v.i 24 0) (v.b 3 0) (v.i 3 1) (v.i 3 2) (v.i 3 3) (v.r 1) f (qup K)) (fun f v=>f (v.i 24 0) (v.r 1)) (fun k v=>(fun z0 z1=>k ((v.ui 24 0 z0).ur 1 z1)))
def qm4 (v0:LA)(B7:Bool)(B8 B9 Ca:Int):Option (List AV):=
 (bif(hd ([]:List AV) (([]:List AV).length)&&true)then(qy7 v0 B7 B8 B9 Ca (fun a0q1=>(bif hd a0q1 a0q1.length then(some a0q1)else none)) FU (0:Int) ([]:List AV))else none)
def qwj:=hull qm4
theorem qbfa:qwj=qm4:=qa _
def qbhc {R:Type}:EntF Tryz.prog R:=entB (nt:=28) (dec:=(decF true 8)) (enc:=(AV.fr true 8)) tabOk follows Tryz.func106 [.t 4] hdeF (.s .z (.s .z (.s (.s .z (.b (.sub [.own 5 8,.sel [0,3,5,6] [0,1]] q9l []))) .z))) S16_ qm4 (fun f v=>f (v.l 0 0) (v.b 5 0) (v.i 5 1) (v.i 5 2) (v.i 5 3))
def qbfb:AV->Option ((List AV)×Int):=decN [(.one (.sl 8)),(.one (.i .i64))] fun z=>(aL (gC (tpL z) 0),aI (gC (tpL z) 1))
def qn9 (v0:LA)(B7:Bool)(B8 B9 Ca:Int):Option ((List AV)×Int):=
 (oB (ql8 v0 B7 B8 B9 Ca) fun r1=>(bif(!r1.2)then(some (([]:List AV),(11:Int)))else(oB (qzu v0 B7 B8 B9 Ca) fun r2=>(bif r2 then(some (([]:List AV),(25:Int)))else(oB (qwj v0 B7 B8 B9 Ca) fun r3=>(some (r3,(0:Int))))))))
def qya:=hull qn9
theorem qbhd:qya=qn9:=qa _
def qbk4 {R:Type}:EntF Tryz.prog R:=entB (nt:=22) (dec:=qbfb) (enc:=(fun r=>.tup [.sl 8 r.1,.int .i64 r.2])) tabOk follows Tryz.func48 [.t 4,.t 5] (hdeN fun _=>rfl) (.s .z (.s (.r [(2,.c qsb.b)] []) (.s (.s .z (.s (.s .z (.v [.eta 4 (.one (.sl 8))])) .z)) (.s (.s (.r [(2,.c qbm6.b)] []) (.s (.s .z (.v [.eta 4 (.one (.sl 8))])) .z)) (.s (.r [(2,.k qbhc.b)] []) .z))))) S16_ qn9 (fun f v=>f (v.l 0 0) (v.b 5 0) (v.i 5 1) (v.i 5 2) (v.i 5 3))
def qoa (Aa:Bool)(Ab Ac Bt:Int):Option Int:=
 (bif Aa then(some (128:Int))else(some (32:Int)))
def qyb:=hull qoa
theorem qbhe:qyb=qoa:=qa _
def qbk5 {R:Type}:EntF Tryz.prog R:=entB (nt:=6) (dec:=(decI .i64)) (enc:=(AV.int .i64)) tabOk follows Tryz.func181 [.t 2] hdeI (.z) S8_ qoa (fun f v=>f (v.b 1 0) (v.i 1 1) (v.i 1 2) (v.i 1 3))
def S120_:Shp:=⟨[(0,.st (lk qe)),(1,.one (.l (.i .i64)))],[]⟩
def qku (Aa:Bool)(Ab Ac Bt v1:Int):Option Bool:=
 (bif(decide (v1>=Bt))then(oB (qyb Aa Ab Ac Bt) fun r1=>(some (decide (v1<=r1))))else(some false))
def q1d:=hull qku
theorem q9m:q1d=qku:=qa _
def qbbw {R:Type}:EntF Tryz.prog R:=entB (nt:=15) (dec:=decB) (enc:=AV.bool) tabOk follows Tryz.func161 [.t 4] hdeB (.s .z (.s (.r [(7,.c qbk5.b)] []) .z)) S120_ qku (fun f v=>f (v.b 1 0) (v.i 1 1) (v.i 1 2) (v.i 1 3) (v.i 4 0))
def S121_:Shp:=⟨[(0,.one (.l (.sl 8))),(3,.one (.ptr 0 0)),(5,.one (.own 1)),(6,.one (.l (.i .i64))),(7,.one (.l .b)),(8,.one (.l (.i .i64)))],[.box true (lk qe),.arr true 8]⟩
def qsc (v0:LA)(v6:Int)(Av:Bool)(Aw Ax Ay:Int)(a1:LA)(K:Ex->Env->Mem->Option (List AV)):=(fun z_v7=>K (.exit 2) (qk [(0,(.sl 8 v0)),(3,(.ptr 0 0)),(5,(.own 1 a1.length)),(6,(.int .i64 v6)),(7,(.bool z_v7))]) (qh [(some (.box true (qc Av Aw Ax Ay))),(some (.arr true 8 a1))]))
def qe2 (v0:LA)(v6:Int)(v7:Bool)(v8:Int)(Av:Bool)(Aw Ax Ay:Int)(a1:LA)(next:Bool->Int->Option (List AV))(kx2:Bool->Option (List AV)):Option (List AV):=
 (bif(decide (v8<(v0.length:Int)))then(oB (ixB v0 v8) fun y1=>(bif fitC qb y1.cells then(oB (qk3 (gB y1.cells 0) (gI y1.cells 1) (gI y1.cells 2) (gI y1.cells 3) Av Aw Ax Ay) fun r2=>(bif r2 then(oB (ixB v0 v6) fun y3=>(bif fitC qb y3.cells then(oB (ixB v0 v8) fun y4=>(bif fitC qb y4.cells then(oB (qk3 (gB y3.cells 0) (gI y3.cells 1) (gI y3.cells 2) (gI y3.cells 3) (gB y4.cells 0) (gI y4.cells 1) (gI y4.cells 2) (gI y4.cells 3)) fun r5=>(bif r5 then(next false (IntKind.i64.wrap (v8+1)))else(next v7 (IntKind.i64.wrap (v8+1)))))else none))else none))else(next v7 (IntKind.i64.wrap (v8+1)))))else none))else(kx2 v7))
def qe3 (v0:LA)(v6:Int)(Av:Bool)(Aw Ax Ay:Int)(a1:LA)(kx2:Bool->Option (List AV)):Nat->Bool->Int->Option (List AV)
 |0=>(fun _ _=>none)
 |n+1=>(fun v7 v8=>qe2 v0 v6 v7 v8 Av Aw Ax Ay a1 (qe3 v0 v6 Av Aw Ax Ay a1 kx2 n) kx2)
def qos:=hull (qe3)
theorem q4x:qos=qe3:=qa _
def q55:SubB Tryz.prog (TIof Tryz.prog) 58 0 (kret [.t 4] (decF true 8)):=lpB tabOk follows Tryz.f183 38475 (.s (.s .z (.s .z (.v [.sel [0,3,5,6,7] [0,1]]))) (.s (.b (.s (.d [] [(2,.e 31 qb),(6,.c ql7.b),(10,.e 39 qb),(15,.e 44 qb)] [(0,.c ql7.b)] []) .z)) (.v [.sel [0,3,5,6,7,8] [0,1]]))) S121_ (qe3) (fun f v K n=>f (v.l 0 0) (v.i 24 0) (v.b 3 0) (v.i 3 1) (v.i 3 2) (v.i 3 3) (v.r 1) (qsc (v.l 0 0) (v.i 24 0) (v.b 3 0) (v.i 3 1) (v.i 3 2) (v.i 3 3) (v.r 1) K) n) (fun v f K=>qe2 (v.l 0 0) (v.i 24 0) (v.b 28 0) (v.i 32 0) (v.b 3 0) (v.i 3 1) (v.i 3 2) (v.i 3 3) (v.r 1) f (qsc (v.l 0 0) (v.i 24 0) (v.b 3 0) (v.i 3 1) (v.i 3 2) (v.i 3 3) (v.r 1) K)) (fun f v=>f (v.b 28 0) (v.i 32 0)) (fun k v=>(fun z0 z1=>k ((v.ub 28 0 z0).ui 32 0 z1)))
def qta (K:Ex->Env->Mem->Option (List AV)):=(fun z_a0=>K (.exit 0) (qk [(5,(.own 0 z_a0.length))]) (qh [(some (.arr true 8 z_a0))]))
def qfh (v0:LA)(v6:Int)(Av:Bool)(Aw Ax Ay:Int)(a1:LA)(next:Int->(List AV)->Option (List AV))(kx0:(List AV)->Option (List AV)):Option (List AV):=
 (bif(decide (v6<(v0.length:Int)))then(oB (ixB v0 v6) fun y1=>(bif fitC qb y1.cells then(oB (qk3 (gB y1.cells 0) (gI y1.cells 1) (gI y1.cells 2) (gI y1.cells 3) Av Aw Ax Ay) fun r2=>(bif(!r2)then(next (IntKind.i64.wrap (v6+1)) a1)else(bif(hd a1 (a1.length)&&true)then(qos v0 v6 Av Aw Ax Ay a1 (fun v7q3=>(bif v7q3 then(oB (ixB v0 v6) fun y4=>(bif fitC qb y4.cells then(bif hd a1 a1.length then(bif hd ([(.agg [(.bool (gB y4.cells 0)),(.int .u64 (gI y4.cells 1)),(.int .u64 (gI y4.cells 2)),(.int .i64 (gI y4.cells 3)),(.int .i64 (gI y4.cells 4)),(.str (gS y4.cells 5)),(.str (gS y4.cells 6)),(.int .i64 (gI y4.cells 7))])]:List AV) (([(.agg [(.bool (gB y4.cells 0)),(.int .u64 (gI y4.cells 1)),(.int .u64 (gI y4.cells 2)),(.int .i64 (gI y4.cells 3)),(.int .i64 (gI y4.cells 4)),(.str (gS y4.cells 5)),(.str (gS y4.cells 6)),(.int .i64 (gI y4.cells 7))])]:List AV).length)then(bif decide ((a1.length+([(.agg [(.bool (gB y4.cells 0)),(.int .u64 (gI y4.cells 1)),(.int .u64 (gI y4.cells 2)),(.int .i64 (gI y4.cells 3)),(.int .i64 (gI y4.cells 4)),(.str (gS y4.cells 5)),(.str (gS y4.cells 6)),(.int .i64 (gI y4.cells 7))])]:List AV).length)*80<=140737488355328)then(next (IntKind.i64.wrap (v6+1)) (a1++([(.agg [(.bool (gB y4.cells 0)),(.int .u64 (gI y4.cells 1)),(.int .u64 (gI y4.cells 2)),(.int .i64 (gI y4.cells 3)),(.int .i64 (gI y4.cells 4)),(.str (gS y4.cells 5)),(.str (gS y4.cells 6)),(.int .i64 (gI y4.cells 7))])]:List AV)))else none)else none)else none)else none))else(next (IntKind.i64.wrap (v6+1)) a1))) FU true (0:Int))else none)))else none))else(kx0 a1))
def qfi (v0:LA)(Av:Bool)(Aw Ax Ay:Int)(kx0:(List AV)->Option (List AV)):Nat->Int->(List AV)->Option (List AV)
 |0=>(fun _ _=>none)
 |n+1=>(fun v6 a1=>qfh v0 v6 Av Aw Ax Ay a1 (qfi v0 Av Aw Ax Ay kx0 n) kx0)
def qyc:=hull (qfi)
theorem q56:qyc=qfi:=qa _
def q7r:SubB Tryz.prog (TIof Tryz.prog) 58 0 (kret [.t 4] (decF true 8)):=lpB tabOk follows Tryz.f183 75 (.s (.s .z (.s .z (.v [.sel [5] [1]]))) (.s (.b (.s (.s (.d [] [(2,.e 17 qb)] [(0,.c ql7.b)] []) .z) (.s .z (.s (.s .z (.b (.sub [.sel [0,3,5,6,7,8] [0,1]] q55 []))) (.s .z (.s (.r [(3,.p (.etac 53 qb))] []) .z)))))) (.v [.sel [0,3,5,6] [0,1]]))) S119_ (qfi) (fun f v K n=>f (v.l 0 0) (v.b 3 0) (v.i 3 1) (v.i 3 2) (v.i 3 3) (qta K) n) (fun v f K=>qfh (v.l 0 0) (v.i 24 0) (v.b 3 0) (v.i 3 1) (v.i 3 2) (v.i 3 3) (v.r 1) f (qta K)) (fun f v=>f (v.i 24 0) (v.r 1)) (fun k v=>(fun z0 z1=>k ((v.ui 24 0 z0).ur 1 z1)))
def qlv (v0:LA)(B7:Bool)(B8 B9 Ca:Int):Option (List AV):=
 (bif(hd ([]:List AV) (([]:List AV).length)&&true)then(qyc v0 B7 B8 B9 Ca (fun a0q1=>(bif hd a0q1 a0q1.length then(some a0q1)else none)) FU (0:Int) ([]:List AV))else none)
def qu0:=hull qlv
theorem qbbx:qu0=qlv:=qa _
def qbfc {R:Type}:EntF Tryz.prog R:=entB (nt:=58) (dec:=(decF true 8)) (enc:=(AV.fr true 8)) tabOk follows Tryz.func183 [.t 4] hdeF (.s .z (.s .z (.s (.s .z (.b (.sub [.own 5 8,.sel [0,3,5,6] [0,1]] q7r []))) .z))) S16_ qlv (fun f v=>f (v.l 0 0) (v.b 5 0) (v.i 5 1) (v.i 5 2) (v.i 5 3))
def qm5 (Aa:Bool)(Ab Ac Bt:Int)(B7:Bool)(B8 B9 Ca:Int):Option Bool:=
 (oB (qjn Aa Ab Ac Bt B7 B8 B9 Ca) fun r1=>(bif r1 then(some true)else(oB (qjn B7 B8 B9 Ca Aa Ab Ac Bt) fun r2=>(some r2))))
def qwk:=hull qm5
theorem qbfd:qwk=qm5:=qa _
def q1e {R:Type}:EntF Tryz.prog R:=entB (nt:=13) (dec:=decB) (enc:=AV.bool) tabOk follows Tryz.func192 [.t 4] hdeB (.s .z (.s (.r [(2,.c qke.b),(6,.c qke.b)] []) .z)) S20_ qm5 (fun f v=>f (v.b 1 0) (v.i 1 1) (v.i 1 2) (v.i 1 3) (v.b 5 0) (v.i 5 1) (v.i 5 2) (v.i 5 3))
def S122_:Shp:=⟨[(1,.one (.l (.i .i64))),(3,.one (.ptr 0 0)),(6,.one (.ptr 1 0)),(10,.one (.l (.i .u64))),(11,.one (.l (.i .u64))),(12,.one (.l (.i .i64)))],[.box true (lk qe),.box true (lk qe)]⟩
def qu1:AV->Option (AV×Bool):=decN [(.st [.b,(.i .u64),(.i .u64),(.i .i64)]),(.one .b)] fun z=>((gC (tpL z) 0),aB (gC (tpL z) 1))
def qbfe (v1 v2:Int)(Av:Bool)(Aw Ax Ay:Int)(Ad:Bool)(Ae Af Ag:Int)(K:Ex->Env->Mem->Option (AV×Bool)):=(fun z_v30=>K .norm (qk [(1,(.int .i64 v1)),(2,(.int .u64 v2)),(3,(.ptr 0 0)),(6,(.ptr 1 0)),(30,(.bool z_v30))]) (qh [(some (.box true (qc Av Aw Ax Ay))),(some (.box true (qc Ad Ae Af Ag)))]))
def qm6 (v1 v2:Int)(Av:Bool)(Aw Ax Ay:Int)(Ad:Bool)(Ae Af Ag:Int)(kn:Bool->Option (AV×Bool)):Option (AV×Bool):=
 (oB (qfu Av Aw Ax Ay) fun r1=>(bif((!r1)||(decide (v1<Ay)))then(kn true)else(oB (qhn Av) fun r2=>(kn (decide (v1>r2))))))
def qwl:=hull (qm6)
theorem qbff:qwl=qm6:=qa _
def qbhf:SubB Tryz.prog (TIof Tryz.prog) 78 0 (kret [(.cell 6 true 4),.t 7] qu1):=jnB tabOk follows Tryz.f165 9 (.r [(1,.c qij.b),(4,.g 4),(14,.c qjm.b)] [.sel [1,2,3,6,30] [0,1]]) S44_ (qm6) (fun f v K=>f (v.i 4 0) (v.i 8 0) (v.b 3 0) (v.i 3 1) (v.i 3 2) (v.i 3 3) (v.b 7 0) (v.i 7 1) (v.i 7 2) (v.i 7 3) (qbfe (v.i 4 0) (v.i 8 0) (v.b 3 0) (v.i 3 1) (v.i 3 2) (v.i 3 3) (v.b 7 0) (v.i 7 1) (v.i 7 2) (v.i 7 3) K))
def qwz (v1:Int)(Av:Bool)(Aw Ax Ay:Int)(Ad:Bool)(Ae Af Ag:Int)(K:Ex->Env->Mem->Option (AV×Bool)):=(fun z_v10 z_v11=>K (.exit 0) (qk [(1,(.int .i64 v1)),(3,(.ptr 0 0)),(6,(.ptr 1 0)),(10,(.int .u64 z_v10)),(11,(.int .u64 z_v11))]) (qh [(some (.box true (qc Av Aw Ax Ay))),(some (.box true (qc Ad Ae Af Ag)))]))
def qlw (v1 v10 v11 v12:Int)(Av:Bool)(Aw Ax Ay:Int)(Ad:Bool)(Ae Af Ag:Int)(next:Int->Int->Int->Option (AV×Bool))(kx0:Int->Int->Option (AV×Bool)):Option (AV×Bool):=
 (oB (qhn Av) fun r1=>(bif(decide (v12<r1))then(next (IntKind.u64.wrap ((IntKind.u64.wrap (v10*2))+(IntKind.u64.wrap (v11.tdiv (9223372036854775808:Int))))) (IntKind.u64.wrap (v11*2)) (IntKind.i64.wrap (v12+1)))else(kx0 v10 v11)))
def qeh (v1:Int)(Av:Bool)(Aw Ax Ay:Int)(Ad:Bool)(Ae Af Ag:Int)(kx0:Int->Int->Option (AV×Bool)):Nat->Int->Int->Int->Option (AV×Bool)
 |0=>(fun _ _ _=>none)
 |n+1=>(fun v10 v11 v12=>qlw v1 v10 v11 v12 Av Aw Ax Ay Ad Ae Af Ag (qeh v1 Av Aw Ax Ay Ad Ae Af Ag kx0 n) kx0)
def q27:=hull (qeh)
theorem qbby:q27=qeh:=qa _
def qbfg:SubB Tryz.prog (TIof Tryz.prog) 78 0 (kret [(.cell 6 true 4),.t 7] qu1):=lpB tabOk follows Tryz.f165 607 (.s (.s (.r [(4,.c qjm.b)] []) (.s .z (.v [.sel [1,3,6,10,11] [0,1]]))) (.s .z (.v [.sel [1,3,6,10,11,12] [0,1]]))) S122_ (qeh) (fun f v K n=>f (v.i 4 0) (v.b 3 0) (v.i 3 1) (v.i 3 2) (v.i 3 3) (v.b 7 0) (v.i 7 1) (v.i 7 2) (v.i 7 3) (qwz (v.i 4 0) (v.b 3 0) (v.i 3 1) (v.i 3 2) (v.i 3 3) (v.b 7 0) (v.i 7 1) (v.i 7 2) (v.i 7 3) K) n) (fun v f K=>qlw (v.i 4 0) (v.i 40 0) (v.i 44 0) (v.i 48 0) (v.b 3 0) (v.i 3 1) (v.i 3 2) (v.i 3 3) (v.b 7 0) (v.i 7 1) (v.i 7 2) (v.i 7 3) f (qwz (v.i 4 0) (v.b 3 0) (v.i 3 1) (v.i 3 2) (v.i 3 3) (v.b 7 0) (v.i 7 1) (v.i 7 2) (v.i 7 3) K)) (fun f v=>f (v.i 40 0) (v.i 44 0) (v.i 48 0)) (fun k v=>(fun z0 z1 z2=>k (((v.ui 40 0 z0).ui 44 0 z1).ui 48 0 z2)))
def qsd (Aa:Bool)(Ab Ac Bt v1 v2:Int):Option (AV×Bool):=
 (qwl v1 v2 Aa Ab Ac Bt false (0:Int) (0:Int) (0:Int) (fun v30q1=>(bif v30q1 then(some ((.agg [(.bool false),(.int .u64 (0:Int)),(.int .u64 (0:Int)),(.int .i64 (0:Int))]),false))else(oB (qqp (IntKind.i64.wrap (v1-Bt))) fun r2=>(bif(decide (v2>r2.2))then(some ((.agg [(.bool false),(.int .u64 (0:Int)),(.int .u64 (0:Int)),(.int .i64 (0:Int))]),false))else(q27 v1 Aa Ab Ac Bt false (0:Int) (0:Int) (0:Int) (fun v10q3 v11q4=>(some ((.agg [(.bool Aa),(.int .u64 (IntKind.u64.wrap (Ab+v10q3))),(.int .u64 (IntKind.u64.wrap (Ac+v11q4))),(.int .i64 v1)]),true))) FU (0:Int) v2 v1))))))
def qho:=hull qsd
theorem qbm7:qho=qsd:=qa _
def qyd {R:Type}:EntF Tryz.prog R:=entB (nt:=78) (dec:=qu1) (enc:=(fun r=>.tup [qcl (.st [.b,(.i .u64),(.i .u64),(.i .i64)]) r.1,.bool r.2])) tabOk follows Tryz.func165 [(.cell 6 true 4),.t 7] (hdeN fun _=>rfl) (.s .z (.s (.s (.sub [.sel [1,2,3,6] [0,1]] qbhf []) .z) (.s (.r [(4,.c qxz.b)] []) (.s .z (.s .z (.s (.s .z (.b (.sub [.sel [1,3,6,10,11,12] [0,1]] qbfg []))) .z)))))) S47_ qsd (fun f v=>f (v.b 1 0) (v.i 1 1) (v.i 1 2) (v.i 1 3) (v.i 4 0) (v.i 8 0))
def qbfh:AV->Option (AV×AV×Bool):=decN [(.st [.b,(.i .u64),(.i .u64),(.i .i64)]),(.st [.b,(.i .u64),(.i .u64),(.i .i64)]),(.one .b)] fun z=>((gC (tpL z) 0),(gC (tpL z) 1),aB (gC (tpL z) 2))
def qob (Aa:Bool)(Ab Ac Bt:Int):Option (AV×AV×Bool):=
 (oB (qho Aa Ab Ac Bt (IntKind.i64.wrap (Bt+1)) (0:Int)) fun r1=>(oB (qho Aa Ab Ac Bt (IntKind.i64.wrap (Bt+1)) (1:Int)) fun r2=>(bif(!r2.2)then(some ((.agg [(.bool false),(.int .u64 (0:Int)),(.int .u64 (0:Int)),(.int .i64 (0:Int))]),(.agg [(.bool false),(.int .u64 (0:Int)),(.int .u64 (0:Int)),(.int .i64 (0:Int))]),false))else(some ((.agg [(.bool (gB r1.1.cells 0)),(.int .u64 (gI r1.1.cells 1)),(.int .u64 (gI r1.1.cells 2)),(.int .i64 (gI r1.1.cells 3))]),(.agg [(.bool (gB r2.1.cells 0)),(.int .u64 (gI r2.1.cells 1)),(.int .u64 (gI r2.1.cells 2)),(.int .i64 (gI r2.1.cells 3))]),true)))))
def qse:=hull qob
theorem qbhg:qse=qob:=qa _
def qu2 {R:Type}:EntF Tryz.prog R:=entB (nt:=31) (dec:=qbfh) (enc:=(fun r=>.tup [qcl (.st [.b,(.i .u64),(.i .u64),(.i .i64)]) r.1,qcl (.st [.b,(.i .u64),(.i .u64),(.i .i64)]) r.2.1,.bool r.2.2])) tabOk follows Tryz.func164 [(.cell 2 true 4),(.cell 3 true 4),.t 4] (hdeN fun _=>rfl) (.s .z (.s (.r [(4,.c qyd.b)] []) (.s (.r [(4,.c qyd.b)] []) .z))) S8_ qob (fun f v=>f (v.b 1 0) (v.i 1 1) (v.i 1 2) (v.i 1 3))
def q28:Shp:=⟨[(0,.one (.l (.sl 8))),(1,.st (lk qe))],[]⟩
def qdc {R:Type}(rec:(List AV)->Bool->Int->Int->Int->Option (List AV))(xs:LA)(K:AV->Option R):Option R:=chk (fitS q28 (qbq xs) Mem.none) (oB (rec (gL [(qbq xs) 0] 0) (gB ((qbq xs) 1).cells 0) (gI ((qbq xs) 1).cells 1) (gI ((qbq xs) 1).cells 2) (gI ((qbq xs) 1).cells 3)) fun r=>K ((AV.fr true 4) r))
def qkv (v0:LA)(Av:Bool)(Aw Ax Ay:Int)(K:Ex->Env->Mem->Option (List AV)):=(fun z_v5=>K (.exit 0) (qk [(0,(.sl 8 v0)),(3,(.ptr 0 0)),(5,(.bool z_v5))]) (qh [(some (.box true (qc Av Aw Ax Ay)))]))
def qbbz:Shp:=⟨[(0,.one (.l (.sl 8))),(3,.one (.ptr 0 0)),(5,.one (.l .b)),(6,.one (.l (.i .i64)))],[.box true (lk qe)]⟩
def qre (v0:LA)(v5:Bool)(v6:Int)(Av:Bool)(Aw Ax Ay:Int):Env:=qk [(0,(.sl 8 v0)),(3,(.ptr 0 0)),(5,(.bool v5)),(6,(.int .i64 v6))]
def qrf (v0:LA)(v5:Bool)(v6:Int)(Av:Bool)(Aw Ax Ay:Int):Mem:=qh [(some (.box true (qc Av Aw Ax Ay)))]
def qf1 (rec:(List AV)->Bool->Int->Int->Int->Option (List AV))(v0:LA)(v5:Bool)(v6:Int)(Av:Bool)(Aw Ax Ay:Int)(next:Bool->Int->Option (List AV))(kx0:Bool->Option (List AV)):Option (List AV):=
 (bif(decide (v6<(v0.length:Int)))then(oB (ixB v0 v6) fun y1=>(bif fitC qb y1.cells then(oB (qjn Av Aw Ax Ay (gB y1.cells 0) (gI y1.cells 1) (gI y1.cells 2) (gI y1.cells 3)) fun r2=>(bif r2 then(bif hd ([]:List AV) (([]:List AV).length)then(some ([]:List AV))else none)else(oB (ixB v0 v6) fun y3=>(bif fitC qb y3.cells then(oB (qwk Av Aw Ax Ay (gB y3.cells 0) (gI y3.cells 1) (gI y3.cells 2) (gI y3.cells 3)) fun r4=>(bif r4 then(next true (IntKind.i64.wrap (v6+1)))else(next v5 (IntKind.i64.wrap (v6+1)))))else none))))else none))else(kx0 v5))
def qm7 (rec:(List AV)->Bool->Int->Int->Int->Option (List AV))(v0:LA)(Av:Bool)(Aw Ax Ay:Int)(kx0:Bool->Option (List AV)):Nat->Bool->Int->Option (List AV)
 |0=>(fun _ _=>none)
 |n+1=>(fun v5 v6=>qf1 rec v0 v5 v6 Av Aw Ax Ay (qm7 rec v0 Av Aw Ax Ay kx0 n) kx0)
def qlf (rec:(List AV)->Bool->Int->Int->Int->Option (List AV)):=hull (qm7 rec)
theorem qy8 (rec:(List AV)->Bool->Int->Int->Int->Option (List AV)):qlf rec=qm7 rec:=qa _
def qf2 (rec:(List AV)->Bool->Int->Int->Int->Option (List AV)):AC (List AV):=
 .seq (.seq (.reg [ao 11 (.mv 6),
 ao 12 (.mv 0),
 ao 13 (.len false 12),
 ao 14 (.bin .lss 11 13)]) (.cond 14 (.skip) (.seq (.view [.sel [0,3,5] [0]]) (.exit 0)))) (.seq (.block 1 (.seq (.seq (.draw [] [ao 17 (.load true 4 3),
 ao 18 (.mv 0),
 ao 19 (.mv 6),
 ao 20 (.ia 8 18 19),
 .et 20 qb,
 ao 21 (.fa 0 20),
 ao 22 (.load true 4 21)] [.call (po 23 (.call 128 [17,22])) 128 qke.e]) (.cond 23 (.seq (.reg [ao 4 (.mv (.c .nils))]) (.seq (.view [.own 4 4]) (.ret))) (.skip))) (.seq (.draw [] [ao 24 (.load true 4 3),
 ao 25 (.mv 0),
 ao 26 (.mv 6),
 ao 27 (.ia 8 25 26),
 .et 27 qb,
 ao 28 (.fa 0 27),
 ao 29 (.load true 4 28)] [.call (po 30 (.call 192 [24,29])) 192 q1e.e]) (.cond 30 (.reg [ao 5 (.mv (.c (.bool true)))]) (.skip))))) (.seq (.reg [ao 15 (.mv 6),
 ao 16 (.bin .add 15 (.c (.int .i64 1))),
 ao 6 (.mv 16)]) (.view [.sel [0,3,5,6] [0]])))
theorem qbfi (rec:(List AV)->Bool->Int->Int->Int->Option (List AV))(hrec:qdo Tryz.prog 182 (qdc (R:=(List AV)) rec)):AC.ok Tryz.prog (TIof Tryz.prog) 53 0 (kret [.t 4] (decF true 4)) (qf2 rec):=qbu3 (zA (qdo.ok qke.h) (zA rfl (zA (qdo.ok q1e.h) (zA rfl trivial))))
theorem qbb0 (rec:(List AV)->Bool->Int->Int->Int->Option (List AV))(v0:LA)(v5:Bool)(v6:Int)(Av:Bool)(Aw Ax Ay:Int)(K:Ex->Env->Mem->Option (List AV)):den 0 (kret [.t 4] (decF true 4)) (qf2 rec) (qre v0 v5 v6 Av Aw Ax Ay) (qrf v0 v5 v6 Av Aw Ax Ay) K=qf1 rec v0 v5 v6 Av Aw Ax Ay (fun z_v5 z_v6=>K .norm (qre v0 z_v5 z_v6 Av Aw Ax Ay) (qrf v0 z_v5 z_v6 Av Aw Ax Ay)) (qkv v0 Av Aw Ax Ay K):=by kernel_rfl
theorem qbhh (rec:(List AV)->Bool->Int->Int->Int->Option (List AV))(v0:LA)(Av:Bool)(Aw Ax Ay:Int)(K:Ex->Env->Mem->Option (List AV)):∀(n:Nat) (v5:Bool) (v6:Int),qv7 (den 0 (kret [.t 4] (decF true 4)) (qf2 rec)) n (qre v0 v5 v6 Av Aw Ax Ay) (qrf v0 v5 v6 Av Aw Ax Ay) K=qlf rec v0 Av Aw Ax Ay (qkv v0 Av Aw Ax Ay K) n v5 v6:=by
 rw[qy8]
 intro n
 induction n with
 |zero=>intros;rfl
 |succ n ih=>
 intro v5 v6
 exact(qbb0 rec v0 v5 v6 Av Aw Ax Ay (itK (den 0 (kret [.t 4] (decF true 4)) (qf2 rec)) n K)).trans (congrArg (fun q=>qf1 rec v0 v5 v6 Av Aw Ax Ay q (qkv v0 Av Aw Ax Ay K)) (funext fun v5=>funext fun v6=>ih v5 v6))
def q1f (rec:(List AV)->Bool->Int->Int->Int->Option (List AV)):=subE (R:=(List AV)) qbbz fun t m K=>q6b (bxC (m.s 0)) (qlf rec (gL [t 0] 0)) (qkv (gL [t 0] 0) (gB (bxC (m.s 0)) 0) (gI (bxC (m.s 0)) 1) (gI (bxC (m.s 0)) 2) (gI (bxC (m.s 0)) 3) K) FU (gB [t 5] 0) (gI [t 6] 0)
theorem qbhi (rec:(List AV)->Bool->Int->Int->Int->Option (List AV))(hrec:qdo Tryz.prog 182 (qdc (R:=(List AV)) rec)):q3n Tryz.prog (TIof Tryz.prog) 53 0 (kret [.t 4] (decF true 4)) (.loop (scOf (qf2 rec))) (q1f rec):=
 qbrz tabOk follows (qbfi rec hrec) (qbi9 (by kernel_rfl)) fun t m K=>qbhh rec _ _ _ _ _ K FU _ _
def qm8 (rec:(List AV)->Bool->Int->Int->Int->Option (List AV))(v0:LA)(B7:Bool)(B8 B9 Ca:Int):Option (List AV):=
 (qlf rec v0 B7 B8 B9 Ca (fun v5q1=>(bif(!v5q1)then(bif hd ([(.agg [(.bool B7),(.int .u64 B8),(.int .u64 B9),(.int .i64 Ca)])]:List AV) (([(.agg [(.bool B7),(.int .u64 B8),(.int .u64 B9),(.int .i64 Ca)])]:List AV).length)then(some ([(.agg [(.bool B7),(.int .u64 B8),(.int .u64 B9),(.int .i64 Ca)])]:List AV))else none)else(oB (qse B7 B8 B9 Ca) fun r2=>(bif(!r2.2.2)then(bif hd ([]:List AV) (([]:List AV).length)then(some ([]:List AV))else none)else(oB (rec v0 (gB r2.1.cells 0) (gI r2.1.cells 1) (gI r2.1.cells 2) (gI r2.1.cells 3)) fun r3=>(bif decide ((([]:List AV).length+r3.length)*32<=140737488355328)then(oB (rec v0 (gB r2.2.1.cells 0) (gI r2.2.1.cells 1) (gI r2.2.1.cells 2) (gI r2.2.1.cells 3)) fun r4=>(bif hd r3 r3.length then(bif decide ((r3.length+r4.length)*32<=140737488355328)then(bif hd (r3++r4) ((r3++r4).length)then(some (r3++r4))else none)else none)else none))else none)))))) FU false (0:Int))
def qct:Nat->(List AV)->Bool->Int->Int->Int->Option (List AV)
 |0=>(fun _ _ _ _ _=>none)
 |n+1=>(fun v0 B7 B8 B9 Ca=>qm8 (qct n) v0 B7 B8 B9 Ca)
def q2i:(List AV)->Bool->Int->Int->Int->Option (List AV):=hull (qct FU)
theorem q4y:q2i=qct FU:=qa _
def qm9 (rec:(List AV)->Bool->Int->Int->Int->Option (List AV)):AC (List AV):=
 .seq (.reg [ao 3 (.box 1),
 ao 4 (.mv (.c .nils))]) (.seq (.reg [ao 5 (.mv (.c (.bool false)))]) (.seq (.seq (.reg [ao 6 (.mv (.c (.int .i64 0)))]) (.block 0 (.seq (.view [.sel [0,3,5,6] [0]]) (.sub (.loop (scOf (qf2 rec))) (q1f rec))))) (.seq (.seq (.reg [ao 31 (.mv 5),
 ao 32 (.un .not 31)]) (.cond 32 (.seq (.reg [ao 33 (.load true 4 3),
 ao 34 (.bsl 4 [33]),
 ao 4 (.mv 34)]) (.ret)) (.skip))) (.seq (.reg [ao 36 (.load true 4 3),
 .call (po 37 (.call 164 [36])) 164 qu2.e,
 ao 35 (.mv 37),
 ao 38 (.ext 35 0),
 ao 39 (.ext 35 1),
 ao 40 (.ext 35 2),
 ao 7 (.alloc [(.bool false),(.int .u64 0),(.int .u64 0),(.int .i64 0)]),
 ao 8 (.alloc [(.bool false),(.int .u64 0),(.int .u64 0),(.int .i64 0)]),
 an (.store 4 7 38),
 an (.store 4 8 39),
 ao 9 (.mv 40)]) (.seq (.seq (.reg [ao 41 (.mv 9),
 ao 42 (.un .not 41)]) (.cond 42 (.seq (.reg [ao 4 (.mv (.c .nils))]) (.seq (.view [.own 4 4]) (.ret))) (.skip))) (.seq (.reg [ao 10 (.mv (.c .nils))]) (.seq (.reg [ao 43 (.mv 10),
 ao 44 (.mv 0),
 ao 45 (.load true 4 7),
 .callc (po 46 (.call 182 [44,45])) 182 (qdc rec),
 ao 47 (.app 4 32 43 46),
 ao 10 (.mv 47)]) (.seq (.reg [ao 48 (.mv 10),
 ao 49 (.mv 0),
 ao 50 (.load true 4 8),
 .callc (po 51 (.call 182 [49,50])) 182 (qdc rec),
 ao 52 (.app 4 32 48 51),
 ao 4 (.mv 52)]) (.ret)))))))))
theorem qbm8 (rec:(List AV)->Bool->Int->Int->Int->Option (List AV))(hrec:qdo Tryz.prog 182 (qdc (R:=(List AV)) rec)):AC.ok Tryz.prog (TIof Tryz.prog) 53 0 (kret [.t 4] (decF true 4)) (qm9 rec):=qbu3 (zA (qbhi rec hrec) (zA (qdo.ok qu2.h) (zA (qdo.ok hrec) (zA (qdo.ok hrec) trivial))))
theorem qbot (rec:(List AV)->Bool->Int->Int->Int->Option (List AV))(v0:LA)(B7:Bool)(B8 B9 Ca:Int):den 0 (kret [.t 4] (decF true 4)) (qm9 rec) (qk [(0,(.sl 8 v0)),(1,.agg (qc B7 B8 B9 Ca))]) (qh []) (kend (kret [.t 4] (decF true 4)))=qm8 rec v0 B7 B8 B9 Ca:=by
 kernel_rfl
theorem qbou:cFn (TIof Tryz.prog) Tryz.f182=some ⟨53,[.t 4],scOf (qm9 (fun _ _ _ _ _=>none))⟩:=by kernel_rfl
theorem qbov (rec:(List AV)->Bool->Int->Int->Int->Option (List AV)):(qm9 rec).er=some (scOf (qm9 (fun _ _ _ _ _=>none))):=by kernel_rfl
theorem q4z:∀(k:Nat) {R:Type},qdo Tryz.prog 182 (qdc (R:=R) (qct k))
 |0=>fun xs K r h=>by
  unfold qdc at h
  obtain⟨_,h2,_⟩:=qc3 (qli h).2
  cases h2
 |k+1=>qb1m (F:=fun xs=>qm8 (qct k) (gL [(qbq xs) 0] 0) (gB ((qbq xs) 1).cells 0) (gI ((qbq xs) 1).cells 1) (gI ((qbq xs) 1).cells 2) (gI ((qbq xs) 1).cells 3)) (enc:=(AV.fr true 4)) tabOk follows Tryz.func182 (by kernel_rfl) qbou (hdeF) (qbm8 (qct k) (q4z k)) (qbov (qct k)) q28 (fun xs=>qbot (qct k) (gL [(qbq xs) 0] 0) (gB ((qbq xs) 1).cells 0) (gI ((qbq xs) 1).cells 1) (gI ((qbq xs) 1).cells 2) (gI ((qbq xs) 1).cells 3)) (fun xs K r h=>by
 unfold qdc at h
 exact⟨(qli h).1,qc3 (qli h).2⟩)
def qbk6 {R:Type}(xs:LA)(K:AV->Option R):Option R:=qdc q2i xs K
theorem qbow {R:Type}:qdo Tryz.prog 182 (qbk6 (R:=R)):=by
 have h:=q4z FU (R:=R)
 rw[<-q4y]at h
 exact h
def S123_:Shp:=⟨[(0,.one (.l (.sl 8))),(3,.one (.ptr 0 0)),(5,.one (.ptr 1 0)),(6,.one (.l .b))],[.box true (lk qe),.box true (lk qb)]⟩
def qbfj (v0:LA)(Av:Bool)(Aw Ax Ay:Int)(K:Ex->Env->Mem->Option (List AV)):=(fun z_v24=>K .norm (qk [(0,(.sl 8 v0)),(3,(.ptr 0 0)),(24,(.bool z_v24))]) (qh [(some (.box true (qc Av Aw Ax Ay)))]))
def qja (v0:LA)(v6 Av:Bool)(Aw Ax Ay:Int)(Ad:Bool)(Ae Af Ag Ah:Int)(Ai Aj:LU)(Ak:Int)(kn:Bool->Option (List AV)):Option (List AV):=
 (bif((!v6)||(Ah != (1:Int)))then(kn true)else(oB (qfu Av Aw Ax Ay) fun r1=>(kn (!r1))))
def q40:=hull (qja)
theorem qy9:q40=qja:=qa _
def qbhj:SubB Tryz.prog (TIof Tryz.prog) 30 0 (kret [.t 4] (decX (.one (.sl 4)) fun z=>aL z)):=jnB tabOk follows Tryz.f163 19 (.r [(3,.g 3),(9,.c qij.b)] [.sel [0,3,24] [0]]) S123_ (qja) (fun f v K=>f (v.l 0 0) (v.b 24 0) (v.b 3 0) (v.i 3 1) (v.i 3 2) (v.i 3 3) (v.b 7 0) (v.i 7 1) (v.i 7 2) (v.i 7 3) (v.i 7 4) (v.s 7 5) (v.s 7 6) (v.i 7 7) (qbfj (v.l 0 0) (v.b 3 0) (v.i 3 1) (v.i 3 2) (v.i 3 3) K))
def qsf (v0:LA)(B7:Bool)(B8 B9 Ca:Int):Option (List AV):=
 (oB (ql8 v0 B7 B8 B9 Ca) fun r1=>(q40 v0 r1.2 B7 B8 B9 Ca (gB r1.1.cells 0) (gI r1.1.cells 1) (gI r1.1.cells 2) (gI r1.1.cells 3) (gI r1.1.cells 4) (gS r1.1.cells 5) (gS r1.1.cells 6) (gI r1.1.cells 7) (fun v24q2=>(bif v24q2 then(some ([]:List AV))else(oB (qu0 v0 B7 B8 B9 Ca) fun r3=>(oB (q2i r3 B7 B8 B9 Ca) fun r4=>(some r4)))))))
def qv3:=hull qsf
theorem qbm9:qv3=qsf:=qa _
def qbox {R:Type}:EntF Tryz.prog R:=entB (nt:=30) (dec:=(decX (.one (.sl 4)) fun z=>aL z)) (enc:=(fun r=>.sl 4 r)) tabOk follows Tryz.func163 [.t 4] (hdeX fun _=>rfl) (.s .z (.s (.r [(2,.c qsb.b)] []) (.s (.s (.sub [.sel [0,3,5,6] [0,1]] qbhj []) (.s (.s .z (.v [.eta 4 (.one (.sl 4))])) .z)) (.s (.d [] [(2,.c qbfc.b)] [(0,.k (eB qbow))] []) .z)))) S16_ qsf (fun f v=>f (v.l 0 0) (v.b 5 0) (v.i 5 1) (v.i 5 2) (v.i 5 3))
def S124_:Shp:=⟨[(0,.one (.l (.sl 4))),(1,.one (.l (.i .i64))),(2,.one (.l (.i .i64))),(6,.one (.ptr 0 0)),(8,.one (.l .b)),(9,.one (.ptr 1 0)),(10,.one (.l (.i .i64)))],[.box true (lk qe),.box true (lk qe)]⟩
def S125_:Shp:=⟨[(0,.one (.l (.sl 4))),(1,.one (.l (.i .i64))),(2,.one (.l (.i .i64)))],[]⟩
def qtb:AV->Option (AV×Bool):=decN [(.st [.b,(.i .u64),(.i .u64),(.i .i64)]),(.one .b)] fun z=>((gC (tpL z) 0),aB (gC (tpL z) 1))
def q9n (v0:LA)(v1 v2:Int)(v8:Bool)(v10:Int)(Av:Bool)(Aw Ax Ay:Int)(Ad:Bool)(Ae Af Ag:Int)(K:Ex->Env->Mem->Option (AV×Bool)):=(fun z_v41=>K .norm (qk [(0,(.sl 4 v0)),(1,(.int .i64 v1)),(2,(.int .i64 v2)),(6,(.ptr 0 0)),(8,(.bool v8)),(9,(.ptr 1 0)),(10,(.int .i64 v10)),(41,(.bool z_v41))]) (qh [(some (.box true (qc Av Aw Ax Ay))),(some (.box true (qc Ad Ae Af Ag)))]))
def qkw (v0:LA)(v1 v2:Int)(v8:Bool)(v10:Int)(Av:Bool)(Aw Ax Ay:Int)(Ad:Bool)(Ae Af Ag:Int)(kn:Bool->Option (AV×Bool)):Option (AV×Bool):=
 (oB (ixB v0 v10) fun y1=>(bif fitC qe y1.cells then(bif(decide ((gI y1.cells 3)<=v1))then(bif(!v8)then(kn true)else(oB (ixB v0 v10) fun y2=>(bif fitC qe y2.cells then(kn (decide ((IntKind.i64.wrap ((IntKind.i64.wrap ((gI y2.cells 3)-Ag))*v2))>0)))else none)))else(kn false))else none))
def q1g:=hull (qkw)
theorem q9o:q1g=qkw:=qa _
def qbb1:SubB Tryz.prog (TIof Tryz.prog) 48 0 (kret [(.cell 6 true 4),.t 7] qtb):=jnB tabOk follows Tryz.f162 2199 (.d [] [(2,.e 20 qe),(13,.e 31 qe)] [] [.sel [0,1,2,6,8,9,10,41] [0,1]]) S124_ (qkw) (fun f v K=>f (v.l 0 0) (v.i 4 0) (v.i 8 0) (v.b 32 0) (v.i 40 0) (v.b 3 0) (v.i 3 1) (v.i 3 2) (v.i 3 3) (v.b 7 0) (v.i 7 1) (v.i 7 2) (v.i 7 3) (q9n (v.l 0 0) (v.i 4 0) (v.i 8 0) (v.b 32 0) (v.i 40 0) (v.b 3 0) (v.i 3 1) (v.i 3 2) (v.i 3 3) (v.b 7 0) (v.i 7 1) (v.i 7 2) (v.i 7 3) K))
def qvg (Av:Bool)(Aw Ax Ay:Int)(K:Ex->Env->Mem->Option (AV×Bool)):=(fun z_v8 z_b1_0 z_b1_1 z_b1_2 z_b1_3=>K (.exit 0) (qk [(6,(.ptr 0 0)),(8,(.bool z_v8)),(9,(.ptr 1 0))]) (qh [(some (.box true (qc Av Aw Ax Ay))),(some (.box true (qc z_b1_0 z_b1_1 z_b1_2 z_b1_3)))]))
def qg4 (v0:LA)(v1 v2:Int)(v8:Bool)(v10:Int)(Av:Bool)(Aw Ax Ay:Int)(Ad:Bool)(Ae Af Ag:Int)(next:Bool->Int->Bool->Int->Int->Int->Option (AV×Bool))(kx0:Bool->Bool->Int->Int->Int->Option (AV×Bool)):Option (AV×Bool):=
 (bif(decide (v10<(v0.length:Int)))then(q1g v0 v1 v2 v8 v10 Av Aw Ax Ay Ad Ae Af Ag (fun v41q1=>(bif v41q1 then(oB (ixB v0 v10) fun y2=>(bif fitC qe y2.cells then(next true (IntKind.i64.wrap (v10+1)) (gB y2.cells 0) (gI y2.cells 1) (gI y2.cells 2) (gI y2.cells 3))else none))else(next v8 (IntKind.i64.wrap (v10+1)) Ad Ae Af Ag))))else(kx0 v8 Ad Ae Af Ag))
def qg5 (v0:LA)(v1 v2:Int)(Av:Bool)(Aw Ax Ay:Int)(kx0:Bool->Bool->Int->Int->Int->Option (AV×Bool)):Nat->Bool->Int->Bool->Int->Int->Int->Option (AV×Bool)
 |0=>(fun _ _ _ _ _ _=>none)
 |n+1=>(fun v8 v10 Ad Ae Af Ag=>qg4 v0 v1 v2 v8 v10 Av Aw Ax Ay Ad Ae Af Ag (qg5 v0 v1 v2 Av Aw Ax Ay kx0 n) kx0)
def q1h:=hull (qg5)
theorem q9p:q1h=qg5:=qa _
def qbb2:SubB Tryz.prog (TIof Tryz.prog) 48 0 (kret [(.cell 6 true 4),.t 7] qtb):=lpB tabOk follows Tryz.f162 151 (.s (.s .z (.s .z (.v [.sel [6,8,9] [0,1]]))) (.s (.b (.s (.sub [.sel [0,1,2,6,8,9,10] [0,1]] qbb1 []) (.s (.s (.r [(2,.p (.etac 44 qe))] []) .z) .z))) (.v [.sel [0,1,2,6,8,9,10] [0,1]]))) S124_ (qg5) (fun f v K n=>f (v.l 0 0) (v.i 4 0) (v.i 8 0) (v.b 3 0) (v.i 3 1) (v.i 3 2) (v.i 3 3) (qvg (v.b 3 0) (v.i 3 1) (v.i 3 2) (v.i 3 3) K) n) (fun v f K=>qg4 (v.l 0 0) (v.i 4 0) (v.i 8 0) (v.b 32 0) (v.i 40 0) (v.b 3 0) (v.i 3 1) (v.i 3 2) (v.i 3 3) (v.b 7 0) (v.i 7 1) (v.i 7 2) (v.i 7 3) f (qvg (v.b 3 0) (v.i 3 1) (v.i 3 2) (v.i 3 3) K)) (fun f v=>f (v.b 32 0) (v.i 40 0) (v.b 7 0) (v.i 7 1) (v.i 7 2) (v.i 7 3)) (fun k v=>(fun z0 z1 z2 z3 z4 z5=>k ((((((v.ub 32 0 z0).ui 40 0 z1).ub 7 0 z2).ui 7 1 z3).ui 7 2 z4).ui 7 3 z5)))
def qp1 (v0:LA)(v1 v2:Int):Option (AV×Bool):=
 (q1h v0 v1 v2 false (0:Int) (0:Int) (0:Int) (fun v8q1 b1_0q2 b1_1q3 b1_2q4 b1_3q5=>(some ((.agg [(.bool b1_0q2),(.int .u64 b1_1q3),(.int .u64 b1_2q4),(.int .i64 b1_3q5)]),v8q1))) FU false (0:Int) false (0:Int) (0:Int) (0:Int))
def qlb:=hull qp1
theorem qbk7:qlb=qp1:=qa _
def qbna {R:Type}:EntF Tryz.prog R:=entB (nt:=48) (dec:=qtb) (enc:=(fun r=>.tup [qcl (.st [.b,(.i .u64),(.i .u64),(.i .i64)]) r.1,.bool r.2])) tabOk follows Tryz.func162 [(.cell 6 true 4),.t 7] (hdeN fun _=>rfl) (.s .z (.s .z (.s .z (.s (.s .z (.b (.sub [.sel [0,1,2,6,8,9,10] [0,1]] qbb2 []))) .z)))) S125_ qp1 (fun f v=>f (v.l 0 0) (v.i 4 0) (v.i 8 0))
def S126_:Shp:=⟨[(0,.one (.l (.sl 8))),(2,.one (.l (.i .i64))),(3,.one (.l (.i .i64))),(5,.one (.ptr 0 0)),(8,.one (.ptr 1 0)),(12,.one (.l (.i .i64)))],[.box true (lk qe),.box true (lk qe)]⟩
def S127_:Shp:=⟨[(2,.one (.l (.i .i64))),(3,.one (.l (.i .i64))),(8,.one (.ptr 0 0)),(13,.one (.ptr 1 0))],[.box true (lk qe),.box true (lk qe)]⟩
def qlx:AV->Option (AV×Int):=decN [(.st [.b,(.i .u64),(.i .u64),(.i .i64)]),(.one (.i .i64))] fun z=>((gC (tpL z) 0),aI (gC (tpL z) 1))
def q7s (v0:LA)(v2 v3:Int)(Av:Bool)(Aw Ax Ay:Int)(Ad:Bool)(Ae Af Ag:Int)(K:Ex->Env->Mem->Option (AV×Int)):=(fun z_v12=>K .norm (qk [(0,(.sl 8 v0)),(2,(.int .i64 v2)),(3,(.int .i64 v3)),(5,(.ptr 0 0)),(8,(.ptr 1 0)),(12,(.int .i64 z_v12))]) (qh [(some (.box true (qc Av Aw Ax Ay))),(some (.box true (qc Ad Ae Af Ag)))]))
def qjp (v0:LA)(v2 v3 v12:Int)(Av:Bool)(Aw Ax Ay:Int)(Ad:Bool)(Ae Af Ag:Int)(kn:Int->Option (AV×Int)):Option (AV×Int):=
 (bif(v3==2)then(kn (1:Int))else(kn v12))
def qza:=hull (qjp)
theorem q7t:qza=qjp:=qa _
def q9q:SubB Tryz.prog (TIof Tryz.prog) 79 0 (kret [(.cell 8 true 4),.t 9] qlx):=jnB tabOk follows Tryz.f107 191 (.s .z (.s (.v [.sel [0,2,3,5,8,12] [0,1]]) (.v [.sel [0,2,3,5,8,12] [0,1]]))) S126_ (qjp) (fun f v K=>f (v.l 0 0) (v.i 8 0) (v.i 12 0) (v.i 48 0) (v.b 3 0) (v.i 3 1) (v.i 3 2) (v.i 3 3) (v.b 7 0) (v.i 7 1) (v.i 7 2) (v.i 7 3) (q7s (v.l 0 0) (v.i 8 0) (v.i 12 0) (v.b 3 0) (v.i 3 1) (v.i 3 2) (v.i 3 3) (v.b 7 0) (v.i 7 1) (v.i 7 2) (v.i 7 3) K))
def q7u (v0:LA)(v2 v3:Int)(Av:Bool)(Aw Ax Ay:Int)(Ad:Bool)(Ae Af Ag:Int)(K:Ex->Env->Mem->Option (AV×Int)):=(fun z_v12=>K .norm (qk [(0,(.sl 8 v0)),(2,(.int .i64 v2)),(3,(.int .i64 v3)),(5,(.ptr 0 0)),(8,(.ptr 1 0)),(12,(.int .i64 z_v12))]) (qh [(some (.box true (qc Av Aw Ax Ay))),(some (.box true (qc Ad Ae Af Ag)))]))
def qjq (v0:LA)(v2 v3 v12:Int)(Av:Bool)(Aw Ax Ay:Int)(Ad:Bool)(Ae Af Ag:Int)(kn:Int->Option (AV×Int)):Option (AV×Int):=
 (bif(v3==3)then(kn (-1:Int))else(kn v12))
def qzb:=hull (qjq)
theorem q7v:qzb=qjq:=qa _
def q9r:SubB Tryz.prog (TIof Tryz.prog) 79 0 (kret [(.cell 8 true 4),.t 9] qlx):=jnB tabOk follows Tryz.f107 383 (.s .z (.s (.v [.sel [0,2,3,5,8,12] [0,1]]) (.v [.sel [0,2,3,5,8,12] [0,1]]))) S126_ (qjq) (fun f v K=>f (v.l 0 0) (v.i 8 0) (v.i 12 0) (v.i 48 0) (v.b 3 0) (v.i 3 1) (v.i 3 2) (v.i 3 3) (v.b 7 0) (v.i 7 1) (v.i 7 2) (v.i 7 3) (q7u (v.l 0 0) (v.i 8 0) (v.i 12 0) (v.b 3 0) (v.i 3 1) (v.i 3 2) (v.i 3 3) (v.b 7 0) (v.i 7 1) (v.i 7 2) (v.i 7 3) K))
def q7w (v2:Int)(Av:Bool)(Aw Ax Ay:Int)(K:Ex->Env->Mem->Option (AV×Int)):=(fun z_b1_0 z_b1_1 z_b1_2 z_b1_3=>K .norm (qk [(2,(.int .i64 v2)),(8,(.ptr 0 0)),(13,(.ptr 1 0))]) (qh [(some (.box true (qc Av Aw Ax Ay))),(some (.box true (qc z_b1_0 z_b1_1 z_b1_2 z_b1_3)))]))
def qjr (v2 v3:Int)(Av:Bool)(Aw Ax Ay:Int)(Ad:Bool)(Ae Af Ag:Int)(kn:Bool->Int->Int->Int->Option (AV×Int)):Option (AV×Int):=
 (bif((v3==3)&&(decide (Ag<v2)))then(oB (qse Ad Ae Af Ag) fun r1=>(kn (gB r1.2.1.cells 0) (gI r1.2.1.cells 1) (gI r1.2.1.cells 2) (gI r1.2.1.cells 3)))else(kn Ad Ae Af Ag))
def qly:=hull (qjr)
theorem q7x:qly=qjr:=qa _
def q9s:SubB Tryz.prog (TIof Tryz.prog) 79 0 (kret [(.cell 8 true 4),.t 9] qlx):=jnB tabOk follows Tryz.f107 3071 (.s (.r [(3,.g 4)] []) (.s (.r [(1,.c qu2.b)] [.sel [2,8,13] [0,1]]) (.v [.sel [2,8,13] [0,1]]))) S127_ (qjr) (fun f v K=>f (v.i 8 0) (v.i 12 0) (v.b 3 0) (v.i 3 1) (v.i 3 2) (v.i 3 3) (v.b 7 0) (v.i 7 1) (v.i 7 2) (v.i 7 3) (q7w (v.i 8 0) (v.b 3 0) (v.i 3 1) (v.i 3 2) (v.i 3 3) K))
def qoc (v0:LA)(B7:Bool)(B8 B9 Ca v2 v3:Int):Option (AV×Int):=
 (oB (ql8 v0 B7 B8 B9 Ca) fun r1=>(bif(!r1.2)then(some ((.agg [(.bool false),(.int .u64 (0:Int)),(.int .u64 (0:Int)),(.int .i64 (0:Int))]),(11:Int)))else(bif((gI r1.1.cells 4) != (1:Int))then(some ((.agg [(.bool false),(.int .u64 (0:Int)),(.int .u64 (0:Int)),(.int .i64 (0:Int))]),(21:Int)))else(oB (q1d B7 B8 B9 Ca v2) fun r2=>(bif(((!r2)||(decide (v3<1)))||(decide (v3>3)))then(some ((.agg [(.bool false),(.int .u64 (0:Int)),(.int .u64 (0:Int)),(.int .i64 (0:Int))]),(1:Int)))else(qza v0 v2 v3 (0:Int) B7 B8 B9 Ca false (0:Int) (0:Int) (0:Int) (fun v12q3=>(qzb v0 v2 v3 v12q3 B7 B8 B9 Ca false (0:Int) (0:Int) (0:Int) (fun v12q4=>(oB (qv3 v0 B7 B8 B9 Ca) fun r5=>(oB (qlb r5 v2 v12q4) fun r6=>(bif(!r6.2)then(some ((.agg [(.bool false),(.int .u64 (0:Int)),(.int .u64 (0:Int)),(.int .i64 (0:Int))]),(22:Int)))else(qly v2 v3 false (0:Int) (0:Int) (0:Int) (gB r6.1.cells 0) (gI r6.1.cells 1) (gI r6.1.cells 2) (gI r6.1.cells 3) (fun b1_0q7 b1_1q8 b1_2q9 b1_3q10=>(oB (qho b1_0q7 b1_1q8 b1_2q9 b1_3q10 v2 (0:Int)) fun r11=>(some ((.agg [(.bool (gB r11.1.cells 0)),(.int .u64 (gI r11.1.cells 1)),(.int .u64 (gI r11.1.cells 2)),(.int .i64 (gI r11.1.cells 3))]),(0:Int))))))))))))))))))
def qye:=hull qoc
theorem qbhk:qye=qoc:=qa _
def qbk8 {R:Type}:EntF Tryz.prog R:=entB (nt:=79) (dec:=qlx) (enc:=(fun r=>.tup [qcl (.st [.b,(.i .u64),(.i .u64),(.i .i64)]) r.1,.int .i64 r.2])) tabOk follows Tryz.func107 [(.cell 8 true 4),.t 9] (hdeN fun _=>rfl) (.s .z (.s (.r [(2,.c qsb.b)] []) (.s .z (.s .z (.s (.s (.r [(2,.c qbbw.b),(5,.g 2),(9,.g 2)] []) .z) (.s .z (.s (.sub [.sel [0,2,3,5,8,12] [0,1]] q9q []) (.s (.sub [.sel [0,2,3,5,8,12] [0,1]] q9r []) (.s (.r [(2,.k qbox.b),(5,.c qbna.b)] []) (.s .z (.s (.sub [.sel [2,3,8,13] [1,2]] q9s []) (.s (.r [(2,.c qyd.b)] []) .z)))))))))))) S60_ qoc (fun f v=>f (v.l 0 0) (v.b 5 0) (v.i 5 1) (v.i 5 2) (v.i 5 3) (v.i 8 0) (v.i 12 0))
def q9t:AV->Option ((List AV)×AV×Int):=decN [(.one (.sl 8)),(.st [.b,(.i .u64),(.i .u64),(.i .i64)]),(.one (.i .i64))] fun z=>(aL (gC (tpL z) 0),(gC (tpL z) 1),aI (gC (tpL z) 2))
def qlz (v0:LA)(B7:Bool)(B8 B9 Ca v2 v3:Int)(v4 v5:LU):Option ((List AV)×AV×Int):=
 (oB (qye v0 B7 B8 B9 Ca v2 v3) fun r1=>(bif(r1.2 != (0:Int))then(some (([]:List AV),(.agg [(.bool false),(.int .u64 (0:Int)),(.int .u64 (0:Int)),(.int .i64 (0:Int))]),r1.2))else(oB (qx9 v0 (gB r1.1.cells 0) (gI r1.1.cells 1) (gI r1.1.cells 2) (gI r1.1.cells 3) (2:Int) v4 v5 (0:Int)) fun r2=>(bif(r2.2 != (0:Int))then(some (([]:List AV),(.agg [(.bool false),(.int .u64 (0:Int)),(.int .u64 (0:Int)),(.int .i64 (0:Int))]),r2.2))else(some (r2.1,(.agg [(.bool (gB r1.1.cells 0)),(.int .u64 (gI r1.1.cells 1)),(.int .u64 (gI r1.1.cells 2)),(.int .i64 (gI r1.1.cells 3))]),(0:Int)))))))
def qod:=hull qlz
theorem qbb3:qod=qlz:=qa _
def qzc {R:Type}:EntF Tryz.prog R:=entB (nt:=45) (dec:=q9t) (enc:=(fun r=>.tup [.sl 8 r.1,qcl (.st [.b,(.i .u64),(.i .u64),(.i .i64)]) r.2.1,.int .i64 r.2.2])) tabOk follows Tryz.func49 [.t 12,(.cell 13 true 4),.t 14] (hdeN fun _=>rfl) (.s .z (.s (.r [(4,.c qbk8.b)] []) (.s (.s .z (.s (.s .z (.v [.eta 12 (.one (.sl 8))])) .z)) (.s (.r [(5,.k q9k.b)] []) (.s (.s .z (.s (.s .z (.v [.eta 12 (.one (.sl 8))])) .z)) .z))))) S61_ qlz (fun f v=>f (v.l 0 0) (v.b 5 0) (v.i 5 1) (v.i 5 2) (v.i 5 3) (v.i 8 0) (v.i 12 0) (v.s 16 0) (v.s 20 0))
def S128_:Shp:=⟨[(0,.one (.l (.sl 5))),(1,.one (.l .s)),(5,.one (.ptr 0 0)),(7,.one (.l (.i .i64)))],[.box true (lk qd3)]⟩
def S129_:Shp:=⟨[(0,.one (.l (.sl 5))),(1,.one (.l .s)),(2,.st (lk qd3))],[]⟩
def qw0 (K:Ex->Env->Mem->Option Int):=(fun(_:Unit)=>K (.exit 0) (qk []) (qh []))
def qh7 (v0:LA)(v1:LU)(v7:Int)(Av:Bool)(Aw Ax:Int)(next:Int->Option Int)(kx0:Unit->Option Int):Option Int:=
 (bif(decide (v7<(v0.length:Int)))then(oB (ixB v0 v7) fun y1=>(bif fitC qj y1.cells then(bif((gS y1.cells 0)==v1)then(oB (ixB v0 v7) fun y2=>(bif fitC qj y2.cells then(bif(((gB y2.cells 1)==Av)&&(((gI y2.cells 2)==Aw)&&(((gI y2.cells 3)==Ax)&&true)))then(some v7)else(next (IntKind.i64.wrap (v7+1))))else none))else(next (IntKind.i64.wrap (v7+1))))else none))else(kx0 ()))
def qh8 (v0:LA)(v1:LU)(Av:Bool)(Aw Ax:Int)(kx0:Unit->Option Int):Nat->Int->Option Int
 |0=>(fun _=>none)
 |n+1=>(fun v7=>qh7 v0 v1 v7 Av Aw Ax (qh8 v0 v1 Av Aw Ax kx0 n) kx0)
def q29:=hull (qh8)
theorem qbb4:q29=qh8:=qa _
def qbfk:SubB Tryz.prog (TIof Tryz.prog) 31 0 (kret [.t 6] (decI .i64)):=lpB tabOk follows Tryz.f55 37 (.s (.s .z (.s .z (.v [.sel [] []]))) (.s (.b (.s (.d [] [(2,.e 16 qj),(10,.e 24 qj)] [] []) .z)) (.v [.sel [0,1,5,7] [0]]))) S128_ (qh8) (fun f v K n=>f (v.l 0 0) (v.s 4 0) (v.b 3 0) (v.i 3 1) (v.i 3 2) (qw0 K) n) (fun v f K=>qh7 (v.l 0 0) (v.s 4 0) (v.i 28 0) (v.b 3 0) (v.i 3 1) (v.i 3 2) f (qw0 K)) (fun f v=>f (v.i 28 0)) (fun k v=>(fun z0=>k (v.ui 28 0 z0)))
def qp2 (v0:LA)(v1:LU)(Cw:Bool)(Cx Cy:Int):Option Int:=
 (q29 v0 v1 Cw Cx Cy (fun(_:Unit)=>(some (-1:Int))) FU (0:Int))
def qua:=hull qp2
theorem qbk9:qua=qp2:=qa _
def q41 {R:Type}:EntF Tryz.prog R:=entB (nt:=31) (dec:=(decI .i64)) (enc:=(AV.int .i64)) tabOk follows Tryz.func55 [.t 6] hdeI (.s .z (.s (.s .z (.b (.sub [.sel [0,1,5,7] [0]] qbfk []))) .z)) S129_ qp2 (fun f v=>f (v.l 0 0) (v.s 4 0) (v.b 9 0) (v.i 9 1) (v.i 9 2))
def S130_:Shp:=⟨[(0,.one (.l (.sl 5))),(3,.one (.ptr 0 0)),(5,.one (.own 1)),(6,.one (.l .b)),(7,.one (.l (.i .i64)))],[.box true (lk qj),.arr true 5]⟩
def q7y (v0:LA)(v6:Bool)(v7:Int)(Av:LU)(Aw:Bool)(Ax Ay Az:Int)(a1:LA)(K:Ex->Env->Mem->Option (List AV)):=(fun z_v23=>K .norm (qk [(0,(.sl 5 v0)),(3,(.ptr 0 0)),(5,(.own 1 a1.length)),(6,(.bool v6)),(7,(.int .i64 v7)),(23,(.bool z_v23))]) (qh [(some (.box true (qfm Av Aw Ax Ay Az))),(some (.arr true 5 a1))]))
def qjs (v0:LA)(v6:Bool)(v7:Int)(Av:LU)(Aw:Bool)(Ax Ay Az:Int)(a1:LA)(kn:Bool->Option (List AV)):Option (List AV):=
 (bif(!v6)then(oB (ixB v0 v7) fun y1=>(bif fitC qj y1.cells then(oB (qr8 Av Aw Ax Ay Az (gS y1.cells 0) (gB y1.cells 1) (gI y1.cells 2) (gI y1.cells 3) (gI y1.cells 4)) fun r2=>(kn r2))else none))else(kn false))
def qzd:=hull (qjs)
theorem q7z:qzd=qjs:=qa _
def q9u:SubB Tryz.prog (TIof Tryz.prog) 42 0 (kret [.t 4] (decF true 5)):=jnB tabOk follows Tryz.f108 4247 (.d [] [(6,.e 20 qj)] [(0,.c q23.b)] [.sel [0,3,5,6,7,23] [0,1]]) S130_ (qjs) (fun f v K=>f (v.l 0 0) (v.b 24 0) (v.i 28 0) (v.s 3 0) (v.b 3 1) (v.i 3 2) (v.i 3 3) (v.i 3 4) (v.r 1) (q7y (v.l 0 0) (v.b 24 0) (v.i 28 0) (v.s 3 0) (v.b 3 1) (v.i 3 2) (v.i 3 3) (v.i 3 4) (v.r 1) K))
def q70 (v0:LA)(v7:Int)(Av:LU)(Aw:Bool)(Ax Ay Az:Int)(K:Ex->Env->Mem->Option (List AV)):=(fun z_v6 z_a1=>K .norm (qk [(0,(.sl 5 v0)),(3,(.ptr 0 0)),(5,(.own 1 z_a1.length)),(6,(.bool z_v6)),(7,(.int .i64 v7))]) (qh [(some (.box true (qfm Av Aw Ax Ay Az))),(some (.arr true 5 z_a1))]))
def qjt (v0:LA)(v6:Bool)(v7:Int)(Av:LU)(Aw:Bool)(Ax Ay Az:Int)(a1:LA)(kn:Bool->(List AV)->Option (List AV)):Option (List AV):=
 (bif(hd a1 (a1.length)&&true)then(qzd v0 v6 v7 Av Aw Ax Ay Az a1 (fun v23q1=>(bif v23q1 then(bif hd a1 a1.length then(bif hd ([(.agg [(.str Av),(.bool Aw),(.int .u64 Ax),(.int .u64 Ay),(.int .i64 Az)])]:List AV) (([(.agg [(.str Av),(.bool Aw),(.int .u64 Ax),(.int .u64 Ay),(.int .i64 Az)])]:List AV).length)then(bif decide ((a1.length+([(.agg [(.str Av),(.bool Aw),(.int .u64 Ax),(.int .u64 Ay),(.int .i64 Az)])]:List AV).length)*48<=140737488355328)then(kn true (a1++([(.agg [(.str Av),(.bool Aw),(.int .u64 Ax),(.int .u64 Ay),(.int .i64 Az)])]:List AV)))else none)else none)else none)else(kn v6 a1))))else none)
def qze:=hull (qjt)
theorem q71:qze=qjt:=qa _
def q9v:SubB Tryz.prog (TIof Tryz.prog) 42 0 (kret [.t 4] (decF true 5)):=jnB tabOk follows Tryz.f108 2199 (.s (.sub [.sel [0,3,5,6,7] [0,1]] q9u []) (.s (.s .z (.v [.sel [0,3,5,6,7] [0,1]])) (.v [.sel [0,3,5,6,7] [0,1]]))) S130_ (qjt) (fun f v K=>f (v.l 0 0) (v.b 24 0) (v.i 28 0) (v.s 3 0) (v.b 3 1) (v.i 3 2) (v.i 3 3) (v.i 3 4) (v.r 1) (q70 (v.l 0 0) (v.i 28 0) (v.s 3 0) (v.b 3 1) (v.i 3 2) (v.i 3 3) (v.i 3 4) K))
def quq (Av:LU)(Aw:Bool)(Ax Ay Az:Int)(K:Ex->Env->Mem->Option (List AV)):=(fun z_v6 z_a1=>K (.exit 0) (qk [(3,(.ptr 0 0)),(5,(.own 1 z_a1.length)),(6,(.bool z_v6))]) (qh [(some (.box true (qfm Av Aw Ax Ay Az))),(some (.arr true 5 z_a1))]))
def qf3 (v0:LA)(v6:Bool)(v7:Int)(Av:LU)(Aw:Bool)(Ax Ay Az:Int)(a1:LA)(next:Bool->Int->(List AV)->Option (List AV))(kx0:Bool->(List AV)->Option (List AV)):Option (List AV):=
 (bif(decide (v7<(v0.length:Int)))then(bif(hd a1 (a1.length)&&true)then(qze v0 v6 v7 Av Aw Ax Ay Az a1 (fun v6q1 a1q2=>(oB (ixB v0 v7) fun y3=>(bif fitC qj y3.cells then(bif hd a1q2 a1q2.length then(bif hd ([(.agg [(.str (gS y3.cells 0)),(.bool (gB y3.cells 1)),(.int .u64 (gI y3.cells 2)),(.int .u64 (gI y3.cells 3)),(.int .i64 (gI y3.cells 4))])]:List AV) (([(.agg [(.str (gS y3.cells 0)),(.bool (gB y3.cells 1)),(.int .u64 (gI y3.cells 2)),(.int .u64 (gI y3.cells 3)),(.int .i64 (gI y3.cells 4))])]:List AV).length)then(bif decide ((a1q2.length+([(.agg [(.str (gS y3.cells 0)),(.bool (gB y3.cells 1)),(.int .u64 (gI y3.cells 2)),(.int .u64 (gI y3.cells 3)),(.int .i64 (gI y3.cells 4))])]:List AV).length)*48<=140737488355328)then(next v6q1 (IntKind.i64.wrap (v7+1)) (a1q2++([(.agg [(.str (gS y3.cells 0)),(.bool (gB y3.cells 1)),(.int .u64 (gI y3.cells 2)),(.int .u64 (gI y3.cells 3)),(.int .i64 (gI y3.cells 4))])]:List AV)))else none)else none)else none)else none))))else none)else(kx0 v6 a1))
def qel (v0:LA)(Av:LU)(Aw:Bool)(Ax Ay Az:Int)(kx0:Bool->(List AV)->Option (List AV)):Nat->Bool->Int->(List AV)->Option (List AV)
 |0=>(fun _ _ _=>none)
 |n+1=>(fun v6 v7 a1=>qf3 v0 v6 v7 Av Aw Ax Ay Az a1 (qel v0 Av Aw Ax Ay Az kx0 n) kx0)
def qzf:=hull (qel)
theorem q72:qzf=qel:=qa _
def q9w:SubB Tryz.prog (TIof Tryz.prog) 42 0 (kret [.t 4] (decF true 5)):=lpB tabOk follows Tryz.f108 151 (.s (.s .z (.s .z (.v [.sel [3,5,6] [0,1]]))) (.s (.b (.s (.sub [.sel [0,3,5,6,7] [0,1]] q9v []) (.r [(3,.p (.etac 31 qj))] []))) (.v [.sel [0,3,5,6,7] [0,1]]))) S130_ (qel) (fun f v K n=>f (v.l 0 0) (v.s 3 0) (v.b 3 1) (v.i 3 2) (v.i 3 3) (v.i 3 4) (quq (v.s 3 0) (v.b 3 1) (v.i 3 2) (v.i 3 3) (v.i 3 4) K) n) (fun v f K=>qf3 (v.l 0 0) (v.b 24 0) (v.i 28 0) (v.s 3 0) (v.b 3 1) (v.i 3 2) (v.i 3 3) (v.i 3 4) (v.r 1) f (quq (v.s 3 0) (v.b 3 1) (v.i 3 2) (v.i 3 3) (v.i 3 4) K)) (fun f v=>f (v.b 24 0) (v.i 28 0) (v.r 1)) (fun k v=>(fun z0 z1 z2=>k (((v.ub 24 0 z0).ui 28 0 z1).ur 1 z2)))
def qoe (v0:LA)(B7:LU)(B8:Bool)(B9 Ca Cb:Int):Option (List AV):=
 (bif(hd ([]:List AV) (([]:List AV).length)&&true)then(qzf v0 B7 B8 B9 Ca Cb (fun v6q1 a1q2=>(bif(!v6q1)then(bif hd a1q2 a1q2.length then(bif hd ([(.agg [(.str B7),(.bool B8),(.int .u64 B9),(.int .u64 Ca),(.int .i64 Cb)])]:List AV) (([(.agg [(.str B7),(.bool B8),(.int .u64 B9),(.int .u64 Ca),(.int .i64 Cb)])]:List AV).length)then(bif decide ((a1q2.length+([(.agg [(.str B7),(.bool B8),(.int .u64 B9),(.int .u64 Ca),(.int .i64 Cb)])]:List AV).length)*48<=140737488355328)then(bif hd (a1q2++([(.agg [(.str B7),(.bool B8),(.int .u64 B9),(.int .u64 Ca),(.int .i64 Cb)])]:List AV)) ((a1q2++([(.agg [(.str B7),(.bool B8),(.int .u64 B9),(.int .u64 Ca),(.int .i64 Cb)])]:List AV)).length)then(some (a1q2++([(.agg [(.str B7),(.bool B8),(.int .u64 B9),(.int .u64 Ca),(.int .i64 Cb)])]:List AV)))else none)else none)else none)else none)else(bif hd a1q2 a1q2.length then(some a1q2)else none))) FU false (0:Int) ([]:List AV))else none)
def qsg:=hull qoe
theorem qbhl:qsg=qoe:=qa _
def q3a {R:Type}:EntF Tryz.prog R:=entB (nt:=42) (dec:=(decF true 5)) (enc:=(AV.fr true 5)) tabOk follows Tryz.func108 [.t 4] hdeF (.s .z (.s .z (.s .z (.s (.s .z (.b (.sub [.own 5 5,.sel [0,3,5,6,7] [0,1]] q9w []))) .z)))) S80_ qoe (fun f v=>f (v.l 0 0) (v.s 5 0) (v.b 5 1) (v.i 5 2) (v.i 5 3) (v.i 5 4))
def S131_:Shp:=⟨[(0,.one (.l (.sl 5))),(1,.one (.l (.i .i64))),(5,.one (.own 0)),(6,.one (.l (.i .i64)))],[.arr true 5]⟩
def S132_:Shp:=⟨[(0,.one (.l (.sl 5))),(1,.one (.l (.i .i64)))],[]⟩
def qur (K:Ex->Env->Mem->Option (List AV)):=(fun z_a0=>K (.exit 0) (qk [(5,(.own 0 z_a0.length))]) (qh [(some (.arr true 5 z_a0))]))
def qf4 (v0:LA)(v1 v6:Int)(a0:LA)(next:Int->(List AV)->Option (List AV))(kx0:(List AV)->Option (List AV)):Option (List AV):=
 (bif(decide (v6<(v0.length:Int)))then(bif(v6 != v1)then(oB (ixB v0 v6) fun y1=>(bif fitC qj y1.cells then(bif hd a0 a0.length then(bif hd ([(.agg [(.str (gS y1.cells 0)),(.bool (gB y1.cells 1)),(.int .u64 (gI y1.cells 2)),(.int .u64 (gI y1.cells 3)),(.int .i64 (gI y1.cells 4))])]:List AV) (([(.agg [(.str (gS y1.cells 0)),(.bool (gB y1.cells 1)),(.int .u64 (gI y1.cells 2)),(.int .u64 (gI y1.cells 3)),(.int .i64 (gI y1.cells 4))])]:List AV).length)then(bif decide ((a0.length+([(.agg [(.str (gS y1.cells 0)),(.bool (gB y1.cells 1)),(.int .u64 (gI y1.cells 2)),(.int .u64 (gI y1.cells 3)),(.int .i64 (gI y1.cells 4))])]:List AV).length)*48<=140737488355328)then(next (IntKind.i64.wrap (v6+1)) (a0++([(.agg [(.str (gS y1.cells 0)),(.bool (gB y1.cells 1)),(.int .u64 (gI y1.cells 2)),(.int .u64 (gI y1.cells 3)),(.int .i64 (gI y1.cells 4))])]:List AV)))else none)else none)else none)else none))else(next (IntKind.i64.wrap (v6+1)) a0))else(kx0 a0))
def qf5 (v0:LA)(v1:Int)(kx0:(List AV)->Option (List AV)):Nat->Int->(List AV)->Option (List AV)
 |0=>(fun _ _=>none)
 |n+1=>(fun v6 a0=>qf4 v0 v1 v6 a0 (qf5 v0 v1 kx0 n) kx0)
def qzg:=hull (qf5)
theorem q73:qzg=qf5:=qa _
def q9x:SubB Tryz.prog (TIof Tryz.prog) 24 0 (kret [.t 4] (decF true 5)):=lpB tabOk follows Tryz.f109 75 (.s (.s .z (.s .z (.v [.sel [5] [0]]))) (.s (.b (.s .z (.s (.r [(3,.p (.etac 19 qj))] []) .z))) (.v [.sel [0,1,5,6] [0]]))) S131_ (qf5) (fun f v K n=>f (v.l 0 0) (v.i 4 0) (qur K) n) (fun v f K=>qf4 (v.l 0 0) (v.i 4 0) (v.i 24 0) (v.r 0) f (qur K)) (fun f v=>f (v.i 24 0) (v.r 0)) (fun k v=>(fun z0 z1=>k ((v.ui 24 0 z0).ur 0 z1)))
def qna (v0:LA)(v1:Int):Option (List AV):=
 (bif(hd ([]:List AV) (([]:List AV).length)&&true)then(qzg v0 v1 (fun a0q1=>(bif hd a0q1 a0q1.length then(some a0q1)else none)) FU (0:Int) ([]:List AV))else none)
def qwm:=hull qna
theorem qbfl:qwm=qna:=qa _
def qbhm {R:Type}:EntF Tryz.prog R:=entB (nt:=24) (dec:=(decF true 5)) (enc:=(AV.fr true 5)) tabOk follows Tryz.func109 [.t 4] hdeF (.s .z (.s .z (.s (.s .z (.b (.sub [.own 5 5,.sel [0,1,5,6] [0]] q9x []))) .z))) S132_ qna (fun f v=>f (v.l 0 0) (v.i 4 0))
def S133_:Shp:=⟨[(2,.one (.ptr 0 0)),(3,.one (.ptr 1 0)),(4,.one (.ptr 2 0)),(6,.one (.ptr 3 0)),(7,.one (.l (.i .i64))),(9,.one (.l (.sl 5)))],[.box true (lk qbl),.box true (lk qbh),.box true [(.l .nil),(.l .nil),(.l .nil)],.box true [(.l .nil),(.l .nil),(.l .nil)]]⟩
def q1i:AV->Option (AV×Int):=decN [(.st [(.sl 8),(.sl 5),(.sl 1)]),(.one (.i .i64))] fun z=>((gC (tpL z) 0),aI (gC (tpL z) 1))
def q9y (v7:Int)(v9 Av Aw Ax:LA)(Ad:Int)(Ae:Bool)(Af Ag Ah Ai:Int)(Aj Ak:LU)(Al Am An:Int)(Ao:LU)(Ap:Bool)(Aq Ar As:Int)(At:LU)(K:Ex->Env->Mem->Option (AV×Int)):=(fun z_v90=>K .norm (qk [(2,(.ptr 0 0)),(3,(.ptr 1 0)),(4,(.ptr 2 0)),(6,(.ptr 3 0)),(7,(.int .i64 v7)),(9,(.sl 5 v9)),(90,(.bool z_v90))]) (qh [(some (.box true (qbr Av Aw Ax))),(some (.box true (qjg Ad Ae Af Ag Ah Ai Aj Ak Al Am An Ao Ap Aq Ar As At))),(some (.box true [.nils,.nils,.nils])),(some (.box true [.nils,.nils,.nils]))]))
def qkx (v7:Int)(v9 Av Aw Ax:LA)(Ad:Int)(Ae:Bool)(Af Ag Ah Ai:Int)(Aj Ak:LU)(Al Am An:Int)(Ao:LU)(Ap:Bool)(Aq Ar As:Int)(At:LU)(kn:Bool->Option (AV×Int)):Option (AV×Int):=
 (oB (qoq At) fun r1=>(bif(!r1)then(kn true)else(oB (ixB At (0:Int)) fun c2=>(kn ((c2.toNat:Int)==42)))))
def qtc:=hull (qkx)
theorem q9z:qtc=qkx:=qa _
def qbb5:SubB Tryz.prog (TIof Tryz.prog) 129 0 (kret [(.cell 4 true 3),.t 5] q1i):=jnB tabOk follows Tryz.f50 639 (.r [(2,.c qwd.b)] [.sel [2,3,4,6,7,9,90] [0,1,2,3]]) S133_ (qkx) (fun f v K=>f (v.i 28 0) (v.l 36 0) (v.l 3 0) (v.l 3 1) (v.l 3 2) (v.i 7 0) (v.b 7 1) (v.i 7 2) (v.i 7 3) (v.i 7 4) (v.i 7 5) (v.s 7 6) (v.s 7 7) (v.i 7 8) (v.i 7 9) (v.i 7 10) (v.s 7 11) (v.b 7 12) (v.i 7 13) (v.i 7 14) (v.i 7 15) (v.s 7 16) (q9y (v.i 28 0) (v.l 36 0) (v.l 3 0) (v.l 3 1) (v.l 3 2) (v.i 7 0) (v.b 7 1) (v.i 7 2) (v.i 7 3) (v.i 7 4) (v.i 7 5) (v.s 7 6) (v.s 7 7) (v.i 7 8) (v.i 7 9) (v.i 7 10) (v.s 7 11) (v.b 7 12) (v.i 7 13) (v.i 7 14) (v.i 7 15) (v.s 7 16) K))
def qp3 (Aa Ab Ac:LA)(B7:Int)(B8:Bool)(B9 Ca Cb Cc:Int)(Cd Ce:LU)(C0 C1 C2:Int)(C3:LU)(C4:Bool)(C5 C6 C7:Int)(C8:LU):Option (AV×Int):=
 (oB (qua Ab C3 C4 C5 C6) fun r1=>(bif(B7==4)then(bif hd ([(.agg [(.str C3),(.bool C4),(.int .u64 C5),(.int .u64 C6),(.int .i64 C7)])]:List AV) (([(.agg [(.str C3),(.bool C4),(.int .u64 C5),(.int .u64 C6),(.int .i64 C7)])]:List AV).length)then(oB (qt6 ([(.agg [(.str C3),(.bool C4),(.int .u64 C5),(.int .u64 C6),(.int .i64 C7)])]:List AV)) fun r2=>(bif(r2 != (0:Int))then(some ((.agg [(.sl 8 ([]:List AV)),(.sl 5 ([]:List AV)),(.sl 1 ([]:List AV))]),r2))else(bif(decide (r1>=0))then(some ((.agg [(.sl 8 ([]:List AV)),(.sl 5 ([]:List AV)),(.sl 1 ([]:List AV))]),(12:Int)))else(bif(decide ((Ab.length:Int)>=256))then(some ((.agg [(.sl 8 ([]:List AV)),(.sl 5 ([]:List AV)),(.sl 1 ([]:List AV))]),(9:Int)))else(oB (qle Aa C4 C5 C6) fun r3=>(bif(!r3)then(some ((.agg [(.sl 8 ([]:List AV)),(.sl 5 ([]:List AV)),(.sl 1 ([]:List AV))]),(25:Int)))else(oB (qor Ac C3) fun r4=>(bif(!r4)then(some ((.agg [(.sl 8 ([]:List AV)),(.sl 5 ([]:List AV)),(.sl 1 ([]:List AV))]),(13:Int)))else(oB (qsg Ab C3 C4 C5 C6 C7) fun r5=>(some ((.agg [(.sl 8 Aa),(.sl 5 r5),(.sl 1 Ac)]),(0:Int))))))))))))else none)else(bif(decide (r1<0))then(some ((.agg [(.sl 8 ([]:List AV)),(.sl 5 ([]:List AV)),(.sl 1 ([]:List AV))]),(11:Int)))else(oB (qwm Ab r1) fun r6=>(bif(B7==5)then(some ((.agg [(.sl 8 Aa),(.sl 5 r6),(.sl 1 Ac)]),(0:Int)))else(qtc r1 r6 Aa Ab Ac B7 B8 B9 Ca Cb Cc Cd Ce C0 C1 C2 C3 C4 C5 C6 C7 C8 (fun v90q7=>(bif v90q7 then(some ((.agg [(.sl 8 ([]:List AV)),(.sl 5 ([]:List AV)),(.sl 1 ([]:List AV))]),(2:Int)))else(oB (qua Ab C8 C4 C5 C6) fun r8=>(bif(decide (r8>=0))then(some ((.agg [(.sl 8 ([]:List AV)),(.sl 5 ([]:List AV)),(.sl 1 ([]:List AV))]),(12:Int)))else(oB (qor Ac C8) fun r9=>(bif(!r9)then(some ((.agg [(.sl 8 ([]:List AV)),(.sl 5 ([]:List AV)),(.sl 1 ([]:List AV))]),(13:Int)))else(oB (ixB Ab r1) fun y10=>(bif fitC qj y10.cells then(oB (qsg r6 C8 C4 C5 C6 (gI y10.cells 4)) fun r11=>(some ((.agg [(.sl 8 Aa),(.sl 5 r11),(.sl 1 Ac)]),(0:Int))))else none))))))))))))))
def qzv:=hull qp3
theorem qbla:qzv=qp3:=qa _
def qbnb {R:Type}:EntF Tryz.prog R:=entB (nt:=129) (dec:=q1i) (enc:=(fun r=>.tup [qcl (.st [(.sl 8),(.sl 5),(.sl 1)]) r.1,.int .i64 r.2])) tabOk follows Tryz.func50 [(.cell 4 true 3),.t 5] (hdeN fun _=>rfl) (.s .z (.s .z (.s (.r [(8,.c q41.b)] []) (.s (.s .z (.s (.s (.s (.r [(3,.c q4q.b)] []) (.s .z (.s (.s .z (.v [.nilc 2 0 8,.nilc 2 1 5,.nilc 2 2 1])) .z))) (.s (.s .z (.s (.s .z (.v [.nilc 2 0 8,.nilc 2 1 5,.nilc 2 2 1])) .z)) (.s (.s .z (.s (.s .z (.v [.nilc 2 0 8,.nilc 2 1 5,.nilc 2 2 1])) .z)) (.s (.s (.r [(5,.c qs7.b)] []) (.s (.s .z (.v [.nilc 2 0 8,.nilc 2 1 5,.nilc 2 2 1])) .z)) (.s (.s (.r [(5,.c qwf.b)] []) (.s (.s .z (.v [.nilc 2 0 8,.nilc 2 1 5,.nilc 2 2 1])) .z)) (.s (.d [] [(6,.c q3a.b)] [] []) .z)))))) .z)) (.s (.s .z (.s (.s .z (.v [.nilc 2 0 8,.nilc 2 1 5,.nilc 2 2 1])) .z)) (.s (.r [(3,.k qbhm.b)] []) (.s .z (.s (.s (.sub [.sel [2,3,4,6,7,9] [0,1,2,3]] qbb5 []) (.s (.s .z (.v [.nilc 2 0 8,.nilc 2 1 5,.nilc 2 2 1])) .z)) (.s (.s (.r [(7,.c q41.b)] []) (.s (.s .z (.v [.nilc 2 0 8,.nilc 2 1 5,.nilc 2 2 1])) .z)) (.s (.s (.r [(4,.c qwf.b)] []) (.s (.s .z (.v [.nilc 2 0 8,.nilc 2 1 5,.nilc 2 2 1])) .z)) (.s (.d [] [(8,.e 117 qj)] [] []) (.s (.d [] [(4,.c q3a.b)] [] []) .z)))))))))))) S90_ qp3 (fun f v=>f (v.l 1 0) (v.l 1 1) (v.l 1 2) (v.i 5 0) (v.b 5 1) (v.i 5 2) (v.i 5 3) (v.i 5 4) (v.i 5 5) (v.s 5 6) (v.s 5 7) (v.i 5 8) (v.i 5 9) (v.i 5 10) (v.s 5 11) (v.b 5 12) (v.i 5 13) (v.i 5 14) (v.i 5 15) (v.s 5 16))
def S134_:Shp:=⟨[(2,.one (.ptr 0 0)),(3,.one (.ptr 1 0)),(4,.one (.ptr 2 0)),(6,.one (.ptr 3 0))],[.box true (lk qbl),.box true (lk qbh),.box true [(.l .nil),(.l .nil),(.l .nil)],.box true [(.l .nil),(.l .nil),(.l .nil)]]⟩
def S135_:Shp:=⟨[(2,.one (.ptr 0 0)),(4,.one (.ptr 1 0)),(6,.one (.ptr 2 0)),(9,.one (.l (.sl 8))),(11,.one (.l (.i .i64)))],[.box true (lk qbl),.box true [(.l .nil),(.l .nil),(.l .nil)],.box true [(.l .nil),(.l .nil),(.l .nil)]]⟩
def qtd:AV->Option (AV×Int):=decN [(.st [(.sl 8),(.sl 5),(.sl 1)]),(.one (.i .i64))] fun z=>((gC (tpL z) 0),aI (gC (tpL z) 1))
def qbb6 (Av Aw Ax:LA)(Ad:Int)(Ae:Bool)(Af Ag Ah Ai:Int)(Aj Ak:LU)(Al Am An:Int)(Ao:LU)(Ap:Bool)(Aq Ar As:Int)(At:LU)(K:Ex->Env->Mem->Option (AV×Int)):=(fun z_v28=>K .norm (qk [(2,(.ptr 0 0)),(3,(.ptr 1 0)),(4,(.ptr 2 0)),(6,(.ptr 3 0)),(28,(.bool z_v28))]) (qh [(some (.box true (qbr Av Aw Ax))),(some (.box true (qjg Ad Ae Af Ag Ah Ai Aj Ak Al Am An Ao Ap Aq Ar As At))),(some (.box true [.nils,.nils,.nils])),(some (.box true [.nils,.nils,.nils]))]))
def ql0 (Av Aw Ax:LA)(Ad:Int)(Ae:Bool)(Af Ag Ah Ai:Int)(Aj Ak:LU)(Al Am An:Int)(Ao:LU)(Ap:Bool)(Aq Ar As:Int)(At:LU)(kn:Bool->Option (AV×Int)):Option (AV×Int):=
 (bif(decide (Ad<1))then(kn true)else(bif(decide (Ad>6))then(kn true)else(oB (q2h Ad Ae Af Ag Ah Ai Aj Ak Al Am An Ao Ap Aq Ar As At) fun r1=>(kn (!(((gI r1.cells 0)==Ad)&&(((gB r1.cells 1)==Ae)&&(((gI r1.cells 2)==Af)&&(((gI r1.cells 3)==Ag)&&(((gI r1.cells 4)==Ah)&&(((gI r1.cells 5)==Ai)&&(((gS r1.cells 6)==Aj)&&(((gS r1.cells 7)==Ak)&&(((gI r1.cells 8)==Al)&&(((gI r1.cells 9)==Am)&&(((gI r1.cells 10)==An)&&(((gS r1.cells 11)==Ao)&&(((gB r1.cells 12)==Ap)&&(((gI r1.cells 13)==Aq)&&(((gI r1.cells 14)==Ar)&&(((gI r1.cells 15)==As)&&(((gS r1.cells 16)==At)&&true))))))))))))))))))))))
def qu3:=hull (ql0)
theorem qbb7:qu3=ql0:=qa _
def qbfm:SubB Tryz.prog (TIof Tryz.prog) 128 0 (kret [(.cell 4 true 3),.t 5] qtd):=jnB tabOk follows Tryz.f15 19 (.d [] [(10,.c qboq.b)] [] [.sel [2,3,4,6,28] [0,1,2,3]]) S134_ (ql0) (fun f v K=>f (v.l 3 0) (v.l 3 1) (v.l 3 2) (v.i 7 0) (v.b 7 1) (v.i 7 2) (v.i 7 3) (v.i 7 4) (v.i 7 5) (v.s 7 6) (v.s 7 7) (v.i 7 8) (v.i 7 9) (v.i 7 10) (v.s 7 11) (v.b 7 12) (v.i 7 13) (v.i 7 14) (v.i 7 15) (v.s 7 16) (qbb6 (v.l 3 0) (v.l 3 1) (v.l 3 2) (v.i 7 0) (v.b 7 1) (v.i 7 2) (v.i 7 3) (v.i 7 4) (v.i 7 5) (v.s 7 6) (v.s 7 7) (v.i 7 8) (v.i 7 9) (v.i 7 10) (v.s 7 11) (v.b 7 12) (v.i 7 13) (v.i 7 14) (v.i 7 15) (v.s 7 16) K))
def qvh (v9 Av Aw Ax:LA)(K:Ex->Env->Mem->Option (AV×Int)):=(fun(_:Unit)=>K (.exit 0) (qk [(2,(.ptr 0 0)),(4,(.ptr 1 0)),(9,(.sl 8 v9))]) (qh [(some (.box true (qbr Av Aw Ax))),(some (.box true [.nils,.nils,.nils]))]))
def qg6 (v9:LA)(v11:Int)(Av Aw Ax:LA)(next:Int->Option (AV×Int))(kx0:Unit->Option (AV×Int)):Option (AV×Int):=
 (bif(decide (v11<(Aw.length:Int)))then(oB (ixB Aw v11) fun y1=>(bif fitC qj y1.cells then(oB (qle v9 (gB y1.cells 1) (gI y1.cells 2) (gI y1.cells 3)) fun r2=>(bif(!r2)then(some ((.agg [(.sl 8 ([]:List AV)),(.sl 5 ([]:List AV)),(.sl 1 ([]:List AV))]),(25:Int)))else(next (IntKind.i64.wrap (v11+1)))))else none))else(kx0 ()))
def qg7 (v9 Av Aw Ax:LA)(kx0:Unit->Option (AV×Int)):Nat->Int->Option (AV×Int)
 |0=>(fun _=>none)
 |n+1=>(fun v11=>qg6 v9 v11 Av Aw Ax (qg7 v9 Av Aw Ax kx0 n) kx0)
def qte:=hull (qg7)
theorem q90:qte=qg7:=qa _
def qbb8:SubB Tryz.prog (TIof Tryz.prog) 128 0 (kret [(.cell 4 true 3),.t 5] qtd):=lpB tabOk follows Tryz.f15 9647 (.s (.s .z (.s .z (.v [.sel [2,4,9] [0,1]]))) (.s (.b (.s (.r [(4,.p (.etac 78 qj)),(7,.c qs7.b)] []) (.s (.s .z (.v [.nilc 1 0 8,.nilc 1 1 5,.nilc 1 2 1])) .z))) (.v [.sel [2,4,6,9,11] [0,1,2]]))) S135_ (qg7) (fun f v K n=>f (v.l 36 0) (v.l 3 0) (v.l 3 1) (v.l 3 2) (qvh (v.l 36 0) (v.l 3 0) (v.l 3 1) (v.l 3 2) K) n) (fun v f K=>qg6 (v.l 36 0) (v.i 44 0) (v.l 3 0) (v.l 3 1) (v.l 3 2) f (qvh (v.l 36 0) (v.l 3 0) (v.l 3 1) (v.l 3 2) K)) (fun f v=>f (v.i 44 0)) (fun k v=>(fun z0=>k (v.ui 44 0 z0)))
def qp4 (Aa Ab Ac:LA)(B7:Int)(B8:Bool)(B9 Ca Cb Cc:Int)(Cd Ce:LU)(C0 C1 C2:Int)(C3:LU)(C4:Bool)(C5 C6 C7:Int)(C8:LU):Option (AV×Int):=
 (qu3 Aa Ab Ac B7 B8 B9 Ca Cb Cc Cd Ce C0 C1 C2 C3 C4 C5 C6 C7 C8 (fun v28q1=>(bif v28q1 then(some ((.agg [(.sl 8 ([]:List AV)),(.sl 5 ([]:List AV)),(.sl 1 ([]:List AV))]),(1:Int)))else(bif(B7==1)then(oB (qx9 Aa B8 B9 Ca Cb Cc Cd Ce C0) fun r2=>(bif(r2.2 != (0:Int))then(some ((.agg [(.sl 8 ([]:List AV)),(.sl 5 ([]:List AV)),(.sl 1 ([]:List AV))]),r2.2))else(some ((.agg [(.sl 8 r2.1),(.sl 5 Ab),(.sl 1 Ac)]),(0:Int)))))else(bif(B7==2)then(oB (qya Aa B8 B9 Ca Cb) fun r3=>(bif(r3.2 != (0:Int))then(some ((.agg [(.sl 8 ([]:List AV)),(.sl 5 ([]:List AV)),(.sl 1 ([]:List AV))]),r3.2))else(qte r3.1 Aa Ab Ac (fun(_:Unit)=>(some ((.agg [(.sl 8 r3.1),(.sl 5 Ab),(.sl 1 Ac)]),(0:Int)))) FU (0:Int))))else(bif(B7==3)then(oB (qod Aa B8 B9 Ca Cb C1 C2 Cd Ce) fun r4=>(bif(r4.2.2 != (0:Int))then(some ((.agg [(.sl 8 ([]:List AV)),(.sl 5 ([]:List AV)),(.sl 1 ([]:List AV))]),r4.2.2))else(some ((.agg [(.sl 8 r4.1),(.sl 5 Ab),(.sl 1 Ac)]),(0:Int)))))else(oB (qzv Aa Ab Ac B7 B8 B9 Ca Cb Cc Cd Ce C0 C1 C2 C3 C4 C5 C6 C7 C8) fun r5=>(some ((.agg [(.sl 8 (gL r5.1.cells 0)),(.sl 5 (gL r5.1.cells 1)),(.sl 1 (gL r5.1.cells 2))]),r5.2)))))))))
def qil:=hull qp4
theorem qblb:qil=qp4:=qa _
def qwn {R:Type}:EntF Tryz.prog R:=entB (nt:=128) (dec:=qtd) (enc:=(fun r=>.tup [qcl (.st [(.sl 8),(.sl 5),(.sl 1)]) r.1,.int .i64 r.2])) tabOk follows Tryz.func15 [(.cell 4 true 3),.t 5] (hdeN fun _=>rfl) (.s .z (.s .z (.s (.s (.sub [.sel [2,3,4,6] [0,1,2,3]] qbfm []) (.s (.s .z (.v [.nilc 2 0 8,.nilc 2 1 5,.nilc 2 2 1])) .z)) (.s (.s .z (.s (.s (.r [(4,.k q9k.b)] []) (.s (.s .z (.s (.s .z (.v [.nilc 2 0 8,.nilc 2 1 5,.nilc 2 2 1])) .z)) .z)) .z)) (.s (.s .z (.s (.s (.r [(5,.k qbk4.b)] []) (.s (.s .z (.s (.s .z (.v [.nilc 2 0 8,.nilc 2 1 5,.nilc 2 2 1])) .z)) (.s (.s .z (.b (.sub [.sel [2,4,6,9,11] [0,2,3]] qbb8 []))) .z))) .z)) (.s (.s .z (.s (.s (.r [(15,.k qzc.b)] []) (.s (.s .z (.s (.s .z (.v [.nilc 2 0 8,.nilc 2 1 5,.nilc 2 2 1])) .z)) .z)) .z)) (.s (.r [(2,.k qbnb.b)] []) .z))))))) S90_ qp4 (fun f v=>f (v.l 1 0) (v.l 1 1) (v.l 1 2) (v.i 5 0) (v.b 5 1) (v.i 5 2) (v.i 5 3) (v.i 5 4) (v.i 5 5) (v.s 5 6) (v.s 5 7) (v.i 5 8) (v.i 5 9) (v.i 5 10) (v.s 5 11) (v.b 5 12) (v.i 5 13) (v.i 5 14) (v.i 5 15) (v.s 5 16))
def qbfn:AV->Option (AV×Int):=decN [(.st [(.i .i64),.b,(.i .u64),(.i .u64),(.i .i64),(.i .i64),.s,.s,(.i .i64),(.i .i64),(.i .i64),.s,.b,(.i .u64),(.i .u64),(.i .i64),.s]),(.one (.i .i64))] fun z=>((gC (tpL z) 0),aI (gC (tpL z) 1))
def qof (Aa Ab Ac:LA)(B7:Int)(B8:Bool)(B9 Ca Cb Cc:Int)(Cd Ce:LU)(C0 C1 C2:Int)(C3:LU)(C4:Bool)(C5 C6 C7:Int)(C8:LU):Option (AV×Int):=
 (oB (qil Aa Ab Ac B7 B8 B9 Ca Cb Cc Cd Ce C0 C1 C2 C3 C4 C5 C6 C7 C8) fun r1=>(bif(r1.2 != (0:Int))then(some ((.agg [(.int .i64 (0:Int)),(.bool false),(.int .u64 (0:Int)),(.int .u64 (0:Int)),(.int .i64 (0:Int)),(.int .i64 (0:Int)),(.str ([]:List UInt8)),(.str ([]:List UInt8)),(.int .i64 (0:Int)),(.int .i64 (0:Int)),(.int .i64 (0:Int)),(.str ([]:List UInt8)),(.bool false),(.int .u64 (0:Int)),(.int .u64 (0:Int)),(.int .i64 (0:Int)),(.str ([]:List UInt8))]),r1.2))else(bif(B7 != (3:Int))then(some ((.agg [(.int .i64 B7),(.bool B8),(.int .u64 B9),(.int .u64 Ca),(.int .i64 Cb),(.int .i64 Cc),(.str Cd),(.str Ce),(.int .i64 C0),(.int .i64 C1),(.int .i64 C2),(.str C3),(.bool C4),(.int .u64 C5),(.int .u64 C6),(.int .i64 C7),(.str C8)]),(0:Int)))else(oB (qod Aa B8 B9 Ca Cb C1 C2 Cd Ce) fun r2=>(some ((.agg [(.int .i64 (1:Int)),(.bool (gB r2.2.1.cells 0)),(.int .u64 (gI r2.2.1.cells 1)),(.int .u64 (gI r2.2.1.cells 2)),(.int .i64 (gI r2.2.1.cells 3)),(.int .i64 (2:Int)),(.str Cd),(.str Ce),(.int .i64 (0:Int)),(.int .i64 (0:Int)),(.int .i64 (0:Int)),(.str ([]:List UInt8)),(.bool false),(.int .u64 (0:Int)),(.int .u64 (0:Int)),(.int .i64 (0:Int)),(.str ([]:List UInt8))]),(0:Int)))))))
def qju:=hull qof
theorem qbhn:qju=qof:=qa _
def q3b {R:Type}:EntF Tryz.prog R:=entB (nt:=54) (dec:=qbfn) (enc:=(fun r=>.tup [qcl (.st [(.i .i64),.b,(.i .u64),(.i .u64),(.i .i64),(.i .i64),.s,.s,(.i .i64),(.i .i64),(.i .i64),.s,.b,(.i .u64),(.i .u64),(.i .i64),.s]) r.1,.int .i64 r.2])) tabOk follows Tryz.func53 [(.cell 4 true 17),.t 5] (hdeN fun _=>rfl) (.s .z (.s (.s (.r [(2,.k qwn.b)] []) .z) (.s .z (.s (.r [(15,.k qzc.b)] []) .z)))) S90_ qof (fun f v=>f (v.l 1 0) (v.l 1 1) (v.l 1 2) (v.i 5 0) (v.b 5 1) (v.i 5 2) (v.i 5 3) (v.i 5 4) (v.i 5 5) (v.s 5 6) (v.s 5 7) (v.i 5 8) (v.i 5 9) (v.i 5 10) (v.s 5 11) (v.b 5 12) (v.i 5 13) (v.i 5 14) (v.i 5 15) (v.s 5 16))
def S141_:Shp:=⟨[(1,.one (.l (.sl 17))),(2,.one (.ptr 0 0)),(4,.one (.ptr 1 0)),(17,.one (.l (.sl 17))),(18,.one (.l (.i .i64))),(19,.one (.l (.i .i64)))],[.box true (lk qbl),.box true [(.l .nil),(.l .nil),(.l .nil)]]⟩
def q91:AV->Option (AV×Int×Int):=decN [(.st [(.sl 8),(.sl 5),(.sl 1)]),(.one (.i .i64)),(.one (.i .i64))] fun z=>((gC (tpL z) 0),aI (gC (tpL z) 1),aI (gC (tpL z) 2))
def q1j (v1:LA)(K:Ex->Env->Mem->Option (AV×Int×Int)):=(fun z_b0_0 z_b0_1 z_b0_2=>K (.exit 0) (qk [(1,(.sl 17 v1)),(2,(.ptr 0 0)),(4,(.ptr 1 0))]) (qh [(some (.box true (qbr z_b0_0 z_b0_1 z_b0_2))),(some (.box true [.nils,.nils,.nils]))]))
def qlg (v1 v17:LA)(v18 v19:Int)(Av Aw Ax:LA)(next:Int->(List AV)->(List AV)->(List AV)->Option (AV×Int×Int))(kx0:(List AV)->(List AV)->(List AV)->Option (AV×Int×Int)):Option (AV×Int×Int):=
 (bif(decide (v19<v18))then(oB (ixB v17 v19) fun y1=>(bif fitC qbh y1.cells then(oB (qcw Av Aw Ax (gI y1.cells 0) (gB y1.cells 1) (gI y1.cells 2) (gI y1.cells 3) (gI y1.cells 4) (gI y1.cells 5) (gS y1.cells 6) (gS y1.cells 7) (gI y1.cells 8) (gI y1.cells 9) (gI y1.cells 10) (gS y1.cells 11) (gB y1.cells 12) (gI y1.cells 13) (gI y1.cells 14) (gI y1.cells 15) (gS y1.cells 16)) fun r2=>(bif(r2.2 != (0:Int))then(some ((.agg [(.sl 8 ([]:List AV)),(.sl 5 ([]:List AV)),(.sl 1 ([]:List AV))]),v19,r2.2))else(next (IntKind.i64.wrap (v19+1)) (gL r2.1.cells 0) (gL r2.1.cells 1) (gL r2.1.cells 2))))else none))else(kx0 Av Aw Ax))
def qlh (v1 v17:LA)(v18:Int)(kx0:(List AV)->(List AV)->(List AV)->Option (AV×Int×Int)):Nat->Int->(List AV)->(List AV)->(List AV)->Option (AV×Int×Int)
 |0=>(fun _ _ _ _=>none)
 |n+1=>(fun v19 Av Aw Ax=>qlg v1 v17 v18 v19 Av Aw Ax (qlh v1 v17 v18 kx0 n) kx0)
def q92:=hull (qlh)
theorem qblc:q92=qlh:=qa _
def qbnc:SubB Tryz.prog (TIof Tryz.prog) 40 0 (kret [(.cell 4 true 3),.t 5,.t 6] q91):=lpB tabOk follows Tryz.f19 151 (.s .z (.s (.s .z (.v [.sel [1,2,4] [0,1]])) (.s (.b (.s (.r [(1,.p (.etac 22 qbh))] []) (.s (.r [(2,.k qk9.b)] []) (.s (.s .z (.s (.s .z (.v [.nilc 1 0 8,.nilc 1 1 5,.nilc 1 2 1])) .z)) .z)))) (.v [.sel [1,2,4,17,18,19] [0,1]])))) S141_ (qlh) (fun f v K n=>f (v.l 4 0) (v.l 68 0) (v.i 72 0) (q1j (v.l 4 0) K) n) (fun v f K=>qlg (v.l 4 0) (v.l 68 0) (v.i 72 0) (v.i 76 0) (v.l 3 0) (v.l 3 1) (v.l 3 2) f (q1j (v.l 4 0) K)) (fun f v=>f (v.i 76 0) (v.l 3 0) (v.l 3 1) (v.l 3 2)) (fun k v=>(fun z0 z1 z2 z3=>k ((((v.ui 76 0 z0).ul 3 0 z1).ul 3 1 z2).ul 3 2 z3)))
def qyf (Aa Ab Ac v1:LA):Option (AV×Int×Int):=
 (bif(decide ((v1.length:Int)>64))then(some ((.agg [(.sl 8 ([]:List AV)),(.sl 5 ([]:List AV)),(.sl 1 ([]:List AV))]),(0:Int),(9:Int)))else(oB (qtn Aa Ab Ac) fun r1=>(q92 v1 v1 (v1.length:Int) (fun b0_0q2 b0_1q3 b0_2q4=>(some ((.agg [(.sl 8 b0_0q2),(.sl 5 b0_1q3),(.sl 1 b0_2q4)]),(v1.length:Int),(0:Int)))) FU (0:Int) (gL r1.cells 0) (gL r1.cells 1) (gL r1.cells 2))))
def qbb9:=hull qyf
theorem qbum:qbb9=qyf:=qa _
def qbva {R:Type}:EntF Tryz.prog R:=entB (nt:=40) (dec:=q91) (enc:=(fun r=>.tup [qcl (.st [(.sl 8),(.sl 5),(.sl 1)]) r.1,.int .i64 r.2.1,.int .i64 r.2.2])) tabOk follows Tryz.func19 [(.cell 4 true 3),.t 5,.t 6] (hdeN fun _=>rfl) (.s .z (.s (.s .z (.s (.s .z (.v [.nilc 1 0 8,.nilc 1 1 5,.nilc 1 2 1])) .z)) (.s (.r [(1,.k qxi.b)] []) (.s (.s .z (.b (.sub [.sel [1,2,4,17,18,19] [0,1]] qbnc []))) .z)))) S0_ qyf (fun f v=>f (v.l 1 0) (v.l 1 1) (v.l 1 2) (v.l 4 0))
def qsh (Aa Ab Ac:LA)(B7:Int)(B8:Bool)(B9 Ca Cb Cc:Int)(Cd Ce:LU)(C0 C1 C2:Int)(C3:LU)(C4:Bool)(C5 C6 C7:Int)(C8:LU):Option AV:=
 (bif(B7==3)then(oB (qph Aa Ab Ac B7 B8 B9 Ca Cb Cc Cd Ce C0 C1 C2 C3 C4 C5 C6 C7 C8) fun r1=>(some (.agg [(.int .i64 (1:Int)),(.bool (gB r1.cells 0)),(.int .u64 (gI r1.cells 1)),(.int .u64 (gI r1.cells 2)),(.int .i64 (gI r1.cells 3)),(.int .i64 (gI r1.cells 4)),(.str (gS r1.cells 5)),(.str (gS r1.cells 6)),(.int .i64 (gI r1.cells 7)),(.int .i64 (0:Int)),(.int .i64 (0:Int)),(.str ([]:List UInt8)),(.bool false),(.int .u64 (0:Int)),(.int .u64 (0:Int)),(.int .i64 (0:Int)),(.str ([]:List UInt8))])))else(some (.agg [(.int .i64 B7),(.bool B8),(.int .u64 B9),(.int .u64 Ca),(.int .i64 Cb),(.int .i64 Cc),(.str Cd),(.str Ce),(.int .i64 C0),(.int .i64 C1),(.int .i64 C2),(.str C3),(.bool C4),(.int .u64 C5),(.int .u64 C6),(.int .i64 C7),(.str C8)])))
def ql9:=hull qsh
theorem qbnd:ql9=qsh:=qa _
def q6m {R:Type}:EntF Tryz.prog R:=entB (nt:=13) (dec:=(decT [(.i .i64),.b,(.i .u64),(.i .u64),(.i .i64),(.i .i64),.s,.s,(.i .i64),(.i .i64),(.i .i64),.s,.b,(.i .u64),(.i .u64),(.i .i64),.s])) (enc:=(qcl (.st [(.i .i64),.b,(.i .u64),(.i .u64),(.i .i64),(.i .i64),.s,.s,(.i .i64),(.i .i64),(.i .i64),.s,.b,(.i .u64),(.i .u64),(.i .i64),.s]))) tabOk follows Tryz.func56 [(.cell 4 true 17)] hdeT (.s .z (.s (.s .z (.s (.s (.r [(2,.c q01.b)] []) .z) .z)) .z)) S90_ qsh (fun f v=>f (v.l 1 0) (v.l 1 1) (v.l 1 2) (v.i 5 0) (v.b 5 1) (v.i 5 2) (v.i 5 3) (v.i 5 4) (v.i 5 5) (v.s 5 6) (v.s 5 7) (v.i 5 8) (v.i 5 9) (v.i 5 10) (v.s 5 11) (v.b 5 12) (v.i 5 13) (v.i 5 14) (v.i 5 15) (v.s 5 16))
def S144_:Shp:=⟨[(3,.one (.ptr 0 0)),(4,.one (.ptr 1 0)),(8,.one (.ptr 2 0)),(9,.one (.ptr 3 0)),(10,.one (.l (.i .i64))),(11,.one (.ptr 4 0)),(12,.one (.l (.i .i64))),(16,.one (.l (.sl 17))),(17,.one (.l (.i .i64))),(18,.one (.l (.i .i64)))],[.box true (lk qbl),.box true (lk qbl),.box true (lk qbh),.box true (lk qbl),.box true (lk qbl)]⟩
def S145_:Shp:=⟨[(3,.one (.ptr 0 0)),(4,.one (.ptr 1 0)),(16,.one (.l (.sl 17))),(17,.one (.l (.i .i64))),(18,.one (.l (.i .i64)))],[.box true (lk qbl),.box true (lk qbl)]⟩
def S146_:Shp:=⟨[(0,.st (lk qbl)),(1,.st (lk qbl)),(2,.one (.l (.sl 17)))],[]⟩
def qbca (v16:LA)(v17 v18:Int)(Av Aw Ax Ad Ae Af Cf Cg Ch Cn Co Cp:LA)(K:Ex->Env->Mem->Option Bool):=(fun z_v48=>K .norm (qk [(3,(.ptr 0 0)),(4,(.ptr 1 0)),(9,(.ptr 2 0)),(11,(.ptr 3 0)),(16,(.sl 17 v16)),(17,(.int .i64 v17)),(18,(.int .i64 v18)),(48,(.bool z_v48))]) (qh [(some (.box true (qbr Av Aw Ax))),(some (.box true (qbr Ad Ae Af))),(some (.box true (qbr Cf Cg Ch))),(some (.box true (qbr Cn Co Cp)))]))
def ql1 (v10 v12:Int)(v16:LA)(v17 v18:Int)(Av Aw Ax Ad Ae Af:LA)(Au:Int)(Bc:Bool)(Bd Be Bf Bg:Int)(Bh Bi:LU)(Bj Bl Bm:Int)(Bn:LU)(Bo:Bool)(Bp Bq Br:Int)(Bs:LU)(Cf Cg Ch Cn Co Cp:LA)(kn:Bool->Option Bool):Option Bool:=
 (bif(v10 != (0:Int))then(kn true)else(bif(v12 != (0:Int))then(kn true)else(oB (ql9 Av Aw Ax Au Bc Bd Be Bf Bg Bh Bi Bj Bl Bm Bn Bo Bp Bq Br Bs) fun r1=>(oB (ql9 Ad Ae Af Au Bc Bd Be Bf Bg Bh Bi Bj Bl Bm Bn Bo Bp Bq Br Bs) fun r2=>(kn (!(((gI r1.cells 0)==(gI r2.cells 0))&&(((gB r1.cells 1)==(gB r2.cells 1))&&(((gI r1.cells 2)==(gI r2.cells 2))&&(((gI r1.cells 3)==(gI r2.cells 3))&&(((gI r1.cells 4)==(gI r2.cells 4))&&(((gI r1.cells 5)==(gI r2.cells 5))&&(((gS r1.cells 6)==(gS r2.cells 6))&&(((gS r1.cells 7)==(gS r2.cells 7))&&(((gI r1.cells 8)==(gI r2.cells 8))&&(((gI r1.cells 9)==(gI r2.cells 9))&&(((gI r1.cells 10)==(gI r2.cells 10))&&(((gS r1.cells 11)==(gS r2.cells 11))&&(((gB r1.cells 12)==(gB r2.cells 12))&&(((gI r1.cells 13)==(gI r2.cells 13))&&(((gI r1.cells 14)==(gI r2.cells 14))&&(((gI r1.cells 15)==(gI r2.cells 15))&&(((gS r1.cells 16)==(gS r2.cells 16))&&true)))))))))))))))))))))))
def q3c:=hull (ql1)
theorem qbcb:q3c=ql1:=qa _
def qbfo:SubB Tryz.prog (TIof Tryz.prog) 52 0 (kret [.t 6] decB):=jnB tabOk follows Tryz.f21 40139 (.d [] [(9,.c q6m.b)] [(0,.c q6m.b)] [.sel [3,4,9,11,16,17,18,48] [0,1,3,4]]) S144_ (ql1) (fun f v K=>f (v.i 40 0) (v.i 48 0) (v.l 64 0) (v.i 68 0) (v.i 72 0) (v.l 3 0) (v.l 3 1) (v.l 3 2) (v.l 7 0) (v.l 7 1) (v.l 7 2) (v.i 11 0) (v.b 11 1) (v.i 11 2) (v.i 11 3) (v.i 11 4) (v.i 11 5) (v.s 11 6) (v.s 11 7) (v.i 11 8) (v.i 11 9) (v.i 11 10) (v.s 11 11) (v.b 11 12) (v.i 11 13) (v.i 11 14) (v.i 11 15) (v.s 11 16) (v.l 15 0) (v.l 15 1) (v.l 15 2) (v.l 19 0) (v.l 19 1) (v.l 19 2) (qbca (v.l 64 0) (v.i 68 0) (v.i 72 0) (v.l 3 0) (v.l 3 1) (v.l 3 2) (v.l 7 0) (v.l 7 1) (v.l 7 2) (v.l 15 0) (v.l 15 1) (v.l 15 2) (v.l 19 0) (v.l 19 1) (v.l 19 2) K))
def qw1 (K:Ex->Env->Mem->Option Bool):=(fun(_:Unit)=>K (.exit 0) (qk []) (qh []))
def qh9 (v16:LA)(v17 v18:Int)(Av Aw Ax Ad Ae Af:LA)(next:Int->(List AV)->(List AV)->(List AV)->(List AV)->(List AV)->(List AV)->Option Bool)(kx0:Unit->Option Bool):Option Bool:=
 (bif(decide (v18<v17))then(oB (ixB v16 v18) fun y1=>(bif fitC qbh y1.cells then(oB (qcw Av Aw Ax (gI y1.cells 0) (gB y1.cells 1) (gI y1.cells 2) (gI y1.cells 3) (gI y1.cells 4) (gI y1.cells 5) (gS y1.cells 6) (gS y1.cells 7) (gI y1.cells 8) (gI y1.cells 9) (gI y1.cells 10) (gS y1.cells 11) (gB y1.cells 12) (gI y1.cells 13) (gI y1.cells 14) (gI y1.cells 15) (gS y1.cells 16)) fun r2=>(oB (qcw Ad Ae Af (gI y1.cells 0) (gB y1.cells 1) (gI y1.cells 2) (gI y1.cells 3) (gI y1.cells 4) (gI y1.cells 5) (gS y1.cells 6) (gS y1.cells 7) (gI y1.cells 8) (gI y1.cells 9) (gI y1.cells 10) (gS y1.cells 11) (gB y1.cells 12) (gI y1.cells 13) (gI y1.cells 14) (gI y1.cells 15) (gS y1.cells 16)) fun r3=>(q3c r2.2 r3.2 v16 v17 v18 Av Aw Ax Ad Ae Af (gI y1.cells 0) (gB y1.cells 1) (gI y1.cells 2) (gI y1.cells 3) (gI y1.cells 4) (gI y1.cells 5) (gS y1.cells 6) (gS y1.cells 7) (gI y1.cells 8) (gI y1.cells 9) (gI y1.cells 10) (gS y1.cells 11) (gB y1.cells 12) (gI y1.cells 13) (gI y1.cells 14) (gI y1.cells 15) (gS y1.cells 16) (gL r2.1.cells 0) (gL r2.1.cells 1) (gL r2.1.cells 2) (gL r3.1.cells 0) (gL r3.1.cells 1) (gL r3.1.cells 2) (fun v48q4=>(bif v48q4 then(some false)else(next (IntKind.i64.wrap (v18+1)) (gL r2.1.cells 0) (gL r2.1.cells 1) (gL r2.1.cells 2) (gL r3.1.cells 0) (gL r3.1.cells 1) (gL r3.1.cells 2)))))))else none))else(kx0 ()))
def qia (v16:LA)(v17:Int)(kx0:Unit->Option Bool):Nat->Int->(List AV)->(List AV)->(List AV)->(List AV)->(List AV)->(List AV)->Option Bool
 |0=>(fun _ _ _ _ _ _ _=>none)
 |n+1=>(fun v18 Av Aw Ax Ad Ae Af=>qh9 v16 v17 v18 Av Aw Ax Ad Ae Af (qia v16 v17 kx0 n) kx0)
def q3d:=hull (qia)
theorem qbcc:q3d=qia:=qa _
def qbfp:SubB Tryz.prog (TIof Tryz.prog) 52 0 (kret [.t 6] decB):=lpB tabOk follows Tryz.f21 75 (.s .z (.s (.s .z (.v [.sel [] []])) (.s (.b (.s (.r [(0,.p (.etac 20 qbh))] []) (.s (.r [(2,.k qk9.b)] []) (.s (.r [(2,.k qk9.b)] []) (.s (.s (.sub [.sel [3,4,8,9,10,11,12,16,17,18] [0,1,2,3,4]] qbfo []) .z) .z))))) (.v [.sel [3,4,16,17,18] [0,1]])))) S145_ (qia) (fun f v K n=>f (v.l 64 0) (v.i 68 0) (qw1 K) n) (fun v f K=>qh9 (v.l 64 0) (v.i 68 0) (v.i 72 0) (v.l 3 0) (v.l 3 1) (v.l 3 2) (v.l 7 0) (v.l 7 1) (v.l 7 2) f (qw1 K)) (fun f v=>f (v.i 72 0) (v.l 3 0) (v.l 3 1) (v.l 3 2) (v.l 7 0) (v.l 7 1) (v.l 7 2)) (fun k v=>(fun z0 z1 z2 z3 z4 z5 z6=>k (((((((v.ui 72 0 z0).ul 3 0 z1).ul 3 1 z2).ul 3 2 z3).ul 7 0 z4).ul 7 1 z5).ul 7 2 z6)))
def qsi (Aa Ab Ac B7 B8 B9 v2:LA):Option Bool:=
 (bif(decide ((v2.length:Int)>64))then(some false)else(q3d v2 (v2.length:Int) (fun(_:Unit)=>(some true)) FU (0:Int) Aa Ab Ac B7 B8 B9))
def qv4:=hull qsi
theorem qbne:qv4=qsi:=qa _
def q6n {R:Type}:EntF Tryz.prog R:=entB (nt:=52) (dec:=decB) (enc:=AV.bool) tabOk follows Tryz.func21 [.t 6] hdeB (.s .z (.s .z (.s (.s .z (.b (.sub [.sel [3,4,16,17,18] [0,1]] qbfp []))) .z))) S146_ qsi (fun f v=>f (v.l 1 0) (v.l 1 1) (v.l 1 2) (v.l 5 0) (v.l 5 1) (v.l 5 2) (v.l 8 0))
def S147_:Shp:=⟨[(2,.one (.l (.sl 17))),(7,.one (.ptr 0 0)),(8,.one (.ptr 1 0)),(9,.one (.l (.i .i64)))],[.box true (lk qbl),.box true (lk qbl)]⟩
def qus (K:Ex->Env->Mem->Option Bool):=(fun(_:Unit)=>K (.exit 0) (qk []) (qh []))
def qf6 (v2:LA)(v9:Int)(Av Aw Ax Ad Ae Af:LA)(next:Int->(List AV)->(List AV)->(List AV)->(List AV)->(List AV)->(List AV)->Option Bool)(kx0:Unit->Option Bool):Option Bool:=
 (bif(decide (v9<(v2.length:Int)))then(oB (ixB v2 v9) fun y1=>(bif fitC qbh y1.cells then(oB (qju Av Aw Ax (gI y1.cells 0) (gB y1.cells 1) (gI y1.cells 2) (gI y1.cells 3) (gI y1.cells 4) (gI y1.cells 5) (gS y1.cells 6) (gS y1.cells 7) (gI y1.cells 8) (gI y1.cells 9) (gI y1.cells 10) (gS y1.cells 11) (gB y1.cells 12) (gI y1.cells 13) (gI y1.cells 14) (gI y1.cells 15) (gS y1.cells 16)) fun r2=>(oB (ixB v2 v9) fun y3=>(bif fitC qbh y3.cells then(oB (qju Ad Ae Af (gI y3.cells 0) (gB y3.cells 1) (gI y3.cells 2) (gI y3.cells 3) (gI y3.cells 4) (gI y3.cells 5) (gS y3.cells 6) (gS y3.cells 7) (gI y3.cells 8) (gI y3.cells 9) (gI y3.cells 10) (gS y3.cells 11) (gB y3.cells 12) (gI y3.cells 13) (gI y3.cells 14) (gI y3.cells 15) (gS y3.cells 16)) fun r4=>(bif(((r2.2 != (0:Int))||(r4.2 != (0:Int)))||(!(((gI r2.1.cells 0)==(gI r4.1.cells 0))&&(((gB r2.1.cells 1)==(gB r4.1.cells 1))&&(((gI r2.1.cells 2)==(gI r4.1.cells 2))&&(((gI r2.1.cells 3)==(gI r4.1.cells 3))&&(((gI r2.1.cells 4)==(gI r4.1.cells 4))&&(((gI r2.1.cells 5)==(gI r4.1.cells 5))&&(((gS r2.1.cells 6)==(gS r4.1.cells 6))&&(((gS r2.1.cells 7)==(gS r4.1.cells 7))&&(((gI r2.1.cells 8)==(gI r4.1.cells 8))&&(((gI r2.1.cells 9)==(gI r4.1.cells 9))&&(((gI r2.1.cells 10)==(gI r4.1.cells 10))&&(((gS r2.1.cells 11)==(gS r4.1.cells 11))&&(((gB r2.1.cells 12)==(gB r4.1.cells 12))&&(((gI r2.1.cells 13)==(gI r4.1.cells 13))&&(((gI r2.1.cells 14)==(gI r4.1.cells 14))&&(((gI r2.1.cells 15)==(gI r4.1.cells 15))&&(((gS r2.1.cells 16)==(gS r4.1.cells 16))&&true)))))))))))))))))))then(some false)else(oB (ixB v2 v9) fun y5=>(bif fitC qbh y5.cells then(oB (qil Av Aw Ax (gI y5.cells 0) (gB y5.cells 1) (gI y5.cells 2) (gI y5.cells 3) (gI y5.cells 4) (gI y5.cells 5) (gS y5.cells 6) (gS y5.cells 7) (gI y5.cells 8) (gI y5.cells 9) (gI y5.cells 10) (gS y5.cells 11) (gB y5.cells 12) (gI y5.cells 13) (gI y5.cells 14) (gI y5.cells 15) (gS y5.cells 16)) fun r6=>(oB (ixB v2 v9) fun y7=>(bif fitC qbh y7.cells then(oB (qil Ad Ae Af (gI y7.cells 0) (gB y7.cells 1) (gI y7.cells 2) (gI y7.cells 3) (gI y7.cells 4) (gI y7.cells 5) (gS y7.cells 6) (gS y7.cells 7) (gI y7.cells 8) (gI y7.cells 9) (gI y7.cells 10) (gS y7.cells 11) (gB y7.cells 12) (gI y7.cells 13) (gI y7.cells 14) (gI y7.cells 15) (gS y7.cells 16)) fun r8=>(next (IntKind.i64.wrap (v9+1)) (gL r6.1.cells 0) (gL r6.1.cells 1) (gL r6.1.cells 2) (gL r8.1.cells 0) (gL r8.1.cells 1) (gL r8.1.cells 2)))else none)))else none))))else none)))else none))else(kx0 ()))
def qf7 (v2:LA)(kx0:Unit->Option Bool):Nat->Int->(List AV)->(List AV)->(List AV)->(List AV)->(List AV)->(List AV)->Option Bool
 |0=>(fun _ _ _ _ _ _ _=>none)
 |n+1=>(fun v9 Av Aw Ax Ad Ae Af=>qf6 v2 v9 Av Aw Ax Ad Ae Af (qf7 v2 kx0 n) kx0)
def qzh:=hull (qf7)
theorem q74:qzh=qf7:=qa _
def q93:SubB Tryz.prog (TIof Tryz.prog) 72 0 (kret [.t 6] decB):=lpB tabOk follows Tryz.f22 151 (.s (.s .z (.s .z (.v [.sel [] []]))) (.s (.b (.s (.d [] [(3,.e 29 qbh),(5,.c q3b.b)] [] []) (.s (.d [] [(3,.e 38 qbh),(5,.c q3b.b)] [] []) (.s (.s (.r [(3,.g 2),(7,.g 3)] []) .z) (.s (.d [] [(3,.e 58 qbh),(5,.c qwn.b)] [] []) (.d [] [(3,.e 67 qbh),(5,.c qwn.b)] [] [])))))) (.v [.sel [2,7,8,9] [0,1]]))) S147_ (qf7) (fun f v K n=>f (v.l 8 0) (qus K) n) (fun v f K=>qf6 (v.l 8 0) (v.i 36 0) (v.l 3 0) (v.l 3 1) (v.l 3 2) (v.l 7 0) (v.l 7 1) (v.l 7 2) f (qus K)) (fun f v=>f (v.i 36 0) (v.l 3 0) (v.l 3 1) (v.l 3 2) (v.l 7 0) (v.l 7 1) (v.l 7 2)) (fun k v=>(fun z0 z1 z2 z3 z4 z5 z6=>k (((((((v.ui 36 0 z0).ul 3 0 z1).ul 3 1 z2).ul 3 2 z3).ul 7 0 z4).ul 7 1 z5).ul 7 2 z6)))
def qog (Aa Ab Ac B7 B8 B9 v2:LA):Option Bool:=
 (bif(decide ((v2.length:Int)>64))then(some false)else(qzh v2 (fun(_:Unit)=>(some true)) FU (0:Int) Aa Ab Ac B7 B8 B9))
def qyg:=hull qog
theorem qbho:qyg=qog:=qa _
def qbld {R:Type}:EntF Tryz.prog R:=entB (nt:=72) (dec:=decB) (enc:=AV.bool) tabOk follows Tryz.func22 [.t 6] hdeB (.s .z (.s .z (.s .z (.s (.s .z (.b (.sub [.sel [2,7,8,9] [2,3]] q93 []))) .z)))) S146_ qog (fun f v=>f (v.l 1 0) (v.l 1 1) (v.l 1 2) (v.l 5 0) (v.l 5 1) (v.l 5 2) (v.l 8 0))
def S148_:Shp:=⟨[(2,.one (.l (.sl 17))),(3,.one (.ptr 0 0)),(4,.one (.ptr 1 0))],[.box true (lk qbl),.box true (lk qbl)]⟩
end
end Go.Proofs.YtoaaphlopbabeaaGreatDoor.Dn
