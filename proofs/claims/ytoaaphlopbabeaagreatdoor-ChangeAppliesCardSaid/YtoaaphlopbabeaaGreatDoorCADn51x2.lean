import Derived.Test.YtoaaphlopbabeaaGreatDoorProg
import Derived.Test.YtoaaphlopbabeaaGreatDoorCALibD
import Derived.Test.YtoaaphlopbabeaaGreatDoorCADn51x1
set_option linter.all false
namespace Go.Proofs.YtoaaphlopbabeaaGreatDoor.Dn
open Go Go.Pev
set_option maxRecDepth 100000
set_option maxHeartbeats 4000000
noncomputable section
def qo0:Option Bool:=
 (oB (qwy (8:Int)) fun r1=>(oB (qwy (8:Int)) fun r2=>(oB (qfb ([]:List AV) ([]:List AV) ([]:List AV) (1:Int) (gB r1.cells 0) (gI r1.cells 1) (gI r1.cells 2) (gI r1.cells 3) (1:Int) ([110,101,116]:List UInt8) ([]:List UInt8) (0:Int) (0:Int) (0:Int) ([]:List UInt8) false (0:Int) (0:Int) (0:Int) ([]:List UInt8)) fun r3=>(oB (qfb ([]:List AV) ([]:List AV) ([]:List AV) (2:Int) (gB r2.cells 0) (gI r2.cells 1) (gI r2.cells 2) (gI r2.cells 3) (0:Int) ([]:List UInt8) ([]:List UInt8) (0:Int) (0:Int) (0:Int) ([]:List UInt8) false (0:Int) (0:Int) (0:Int) ([]:List UInt8)) fun r4=>(oB (qti ([]:List AV) ([]:List AV) ([]:List AV) (1:Int) (gB r1.cells 0) (gI r1.cells 1) (gI r1.cells 2) (gI r1.cells 3) (1:Int) ([110,101,116]:List UInt8) ([]:List UInt8) (0:Int) (0:Int) (0:Int) ([]:List UInt8) false (0:Int) (0:Int) (0:Int) ([]:List UInt8)) fun r5=>(bif(r3.2==0)then(bif(((gL r3.1.cells 0).length:Int)==1)then(oB (ixB (gL r3.1.cells 0) (0:Int)) fun y6=>(bif fitC qb y6.cells then(bif(((gB y6.cells 0)==(gB r1.cells 0))&&(((gI y6.cells 1)==(gI r1.cells 1))&&(((gI y6.cells 2)==(gI r1.cells 2))&&(((gI y6.cells 3)==(gI r1.cells 3))&&(((gI y6.cells 4)==1)&&(((gS y6.cells 5)==([110,101,116]:List UInt8))&&(((gS y6.cells 6)==([]:List UInt8))&&(((gI y6.cells 7)==0)&&true))))))))then(bif(r4.2==11)then(bif(r5.2==0)then(some (((gI r5.1.cells 0)==2)&&(((gB r5.1.cells 1)==(gB r2.cells 0))&&(((gI r5.1.cells 2)==(gI r2.cells 1))&&(((gI r5.1.cells 3)==(gI r2.cells 2))&&(((gI r5.1.cells 4)==(gI r2.cells 3))&&(((gI r5.1.cells 5)==0)&&(((gS r5.1.cells 6)==([]:List UInt8))&&(((gS r5.1.cells 7)==([]:List UInt8))&&(((gI r5.1.cells 8)==0)&&(((gI r5.1.cells 9)==0)&&(((gI r5.1.cells 10)==0)&&(((gS r5.1.cells 11)==([]:List UInt8))&&(((gB r5.1.cells 12)==false)&&(((gI r5.1.cells 13)==0)&&(((gI r5.1.cells 14)==0)&&(((gI r5.1.cells 15)==0)&&(((gS r5.1.cells 16)==([]:List UInt8))&&true))))))))))))))))))else(some false))else(some false))else(some false))else none))else(some false))else(some false)))))))
def qtj:=hull qo0
theorem qbjd:qtj=qo0:=qa _
def q3p {R:Type}:EntF Tryz.prog R:=entB (nt:=64) (dec:=decB) (enc:=AV.bool) tabOk follows Tryz.func13 [.t 0] hdeB (.s .z (.s .z (.s (.r [(0,.c q7d.b)] []) (.s (.r [(0,.c q7d.b)] []) (.s (.r [(2,.k qth.b)] []) (.s (.r [(2,.k qth.b)] []) (.s (.r [(2,.c qbli.b)] []) (.s (.d [] [(11,.e 45 qb)] [] []) .z)))))))) (⟨[],[]⟩:Shp) qo0 (fun f v=>f)
def S93_:Shp:=⟨[(0,.one (.l (.sl 8)))],[]⟩
def qo1 (Aa:Bool)(Ab Ac:Int):Option Bool:=
 (bif Aa then(some true)else(bif(Ab==0)then(some (decide (Ac<4294967296)))else(some false)))
def qk4:=hull qo1
theorem qbje:qk4=qo1:=qa _
def qo2 {R:Type}:EntF Tryz.prog R:=entB (nt:=15) (dec:=decB) (enc:=AV.bool) tabOk follows Tryz.func80 [.t 2] hdeB (.z) S5_ qo1 (fun f v=>f (v.b 1 0) (v.i 1 1) (v.i 1 2))
def S97_:Shp:=⟨[(0,.one (.l .b))],[]⟩
def qrh (v0:Bool):Option Int:=
 (bif v0 then(some (128:Int))else(some (32:Int)))
def qhh:=hull qrh
theorem qblj:qhh=qrh:=qa _
def qjm {R:Type}:EntF Tryz.prog R:=entB (nt:=4) (dec:=(decI .i64)) (enc:=(AV.int .i64)) tabOk follows Tryz.func130 [.t 2] hdeI (.z) S97_ qrh (fun f v=>f (v.b 0 0))
def S98_:Shp:=⟨[(0,.one (.l (.i .i64))),(4,.one (.l (.i .u64))),(5,.one (.l (.i .u64))),(6,.one (.l (.i .i64)))],[]⟩
def q13:AV->Option (Int×Int):=decN [(.one (.i .u64)),(.one (.i .u64))] fun z=>(aI (gC (tpL z) 0),aI (gC (tpL z) 1))
def qxh (K:Ex->Env->Mem->Option (Int×Int)):=(fun z_v4 z_v5=>K (.exit 0) (qk [(4,(.int .u64 z_v4)),(5,(.int .u64 z_v5))]) (qh []))
def qme (v0 v4 v5 v6:Int)(next:Int->Int->Int->Option (Int×Int))(kx0:Int->Int->Option (Int×Int)):Option (Int×Int):=
 (bif((decide (v6<v0))&&(decide (v6<128)))then(next (IntKind.u64.wrap ((IntKind.u64.wrap (v4*2))+(IntKind.u64.wrap (v5.tdiv (9223372036854775808:Int))))) (IntKind.u64.wrap ((IntKind.u64.wrap (v5*2))+1)) (IntKind.i64.wrap (v6+1)))else(kx0 v4 v5))
def qi6 (v0:Int)(kx0:Int->Int->Option (Int×Int)):Nat->Int->Int->Int->Option (Int×Int)
 |0=>(fun _ _ _=>none)
 |n+1=>(fun v4 v5 v6=>qme v0 v4 v5 v6 (qi6 v0 kx0 n) kx0)
def q3q:=hull (qi6)
theorem qbdf:q3q=qi6:=qa _
def qbfn:SubB Tryz.prog (TIof Tryz.prog) 26 0 (kret [.t 2,.t 3] q13):=lpB tabOk follows Tryz.f131 75 (.s (.s (.r [(4,.g 2)] []) (.s .z (.v [.sel [4,5] []]))) (.s .z (.v [.sel [0,4,5,6] []]))) S98_ (qi6) (fun f v K n=>f (v.i 0 0) (qxh K) n) (fun v f K=>qme (v.i 0 0) (v.i 16 0) (v.i 20 0) (v.i 24 0) f (qxh K)) (fun f v=>f (v.i 16 0) (v.i 20 0) (v.i 24 0)) (fun k v=>(fun z0 z1 z2=>k (((v.ui 16 0 z0).ui 20 0 z1).ui 24 0 z2)))
def qri (v0:Int):Option (Int×Int):=
 (q3q v0 (fun v4q1 v5q2=>(some (v4q1,v5q2))) FU (0:Int) (0:Int) (0:Int))
def qp2:=hull qri
theorem qblk:qp2=qri:=qa _
def qxi {R:Type}:EntF Tryz.prog R:=entB (nt:=26) (dec:=q13) (enc:=(fun r=>.tup [.int .u64 r.1,.int .u64 r.2])) tabOk follows Tryz.func131 [.t 2,.t 3] (hdeN fun _=>rfl) (.s .z (.s .z (.s (.s .z (.b (.sub [.sel [0,4,5,6] []] qbfn []))) .z))) S1_ qri (fun f v=>f (v.i 0 0))
def q99 (Av:Bool)(Aw Ax Ay:Int)(K:Ex->Env->Mem->Option Bool):=(fun z_v22=>K .norm (qk [(1,(.ptr 0 0)),(22,(.bool z_v22))]) (qh [(some (.box true (qc Av Aw Ax Ay)))]))
def qll (Av:Bool)(Aw Ax Ay:Int)(kn:Bool->Option Bool):Option Bool:=
 (oB (qk4 Av Aw Ax) fun r1=>(bif(!r1)then(kn true)else(bif(decide (Ay<0))then(kn true)else(oB (qhh Av) fun r2=>(kn (decide (Ay>r2)))))))
def q14:=hull (qll)
theorem qbaa:q14=qll:=qa _
def qbdg:SubB Tryz.prog (TIof Tryz.prog) 48 0 (kret [.t 2] decB):=jnB tabOk follows Tryz.f75 9 (.d [] [(2,.c qo2.b),(15,.c qjm.b)] [] [.sel [1,22] [0]]) S7_ (qll) (fun f v K=>f (v.b 3 0) (v.i 3 1) (v.i 3 2) (v.i 3 3) (q99 (v.b 3 0) (v.i 3 1) (v.i 3 2) (v.i 3 3) K))
def qo3 (Aa:Bool)(Ab Ac Bt:Int):Option Bool:=
 (q14 Aa Ab Ac Bt (fun v22q1=>(bif v22q1 then(some false)else(oB (qhh Aa) fun r2=>(oB (qp2 (IntKind.i64.wrap (r2-Bt))) fun r3=>(some (((qbi .and .u64 Ab r3.1)==0)&&((qbi .and .u64 Ac r3.2)==0))))))))
def qfr:=hull qo3
theorem qbjf:qfr=qo3:=qa _
def qii {R:Type}:EntF Tryz.prog R:=entB (nt:=48) (dec:=decB) (enc:=AV.bool) tabOk follows Tryz.func75 [.t 2] hdeB (.s .z (.s (.s (.sub [.sel [1] [0]] qbdg []) .z) (.s (.d [] [(3,.c qjm.b),(7,.c qxi.b)] [] []) (.s (.r [(7,.g 6)] []) .z)))) S8_ qo3 (fun f v=>f (v.b 1 0) (v.i 1 1) (v.i 1 2) (v.i 1 3))
def qo4 (Aa:Bool)(Ab Ac Bt:Int):Option Int:=
 (bif Aa then(some (128:Int))else(some (32:Int)))
def qy3:=hull qo4
theorem qbjg:qy3=qo4:=qa _
def qbll {R:Type}:EntF Tryz.prog R:=entB (nt:=6) (dec:=(decI .i64)) (enc:=(AV.int .i64)) tabOk follows Tryz.func132 [.t 2] hdeI (.z) S8_ qo4 (fun f v=>f (v.b 1 0) (v.i 1 1) (v.i 1 2) (v.i 1 3))
def S99_:Shp:=⟨[(0,.one (.l .s)),(3,.one (.l (.i .i64)))],[]⟩
def qrj (K:Ex->Env->Mem->Option Bool):=(fun(_:Unit)=>K (.exit 0) (qk []) (qh []))
def qex (v0:LU)(v3:Int)(next:Int->Option Bool)(kx0:Unit->Option Bool):Option Bool:=
 (bif(decide (v3<(v0.length:Int)))then(oB (ixB v0 v3) fun c1=>(bif(decide ((c1.toNat:Int)<33))then(some false)else(oB (ixB v0 v3) fun c2=>(bif(decide ((c2.toNat:Int)>126))then(some false)else(next (IntKind.i64.wrap (v3+1)))))))else(kx0 ()))
def qey (v0:LU)(kx0:Unit->Option Bool):Nat->Int->Option Bool
 |0=>(fun _=>none)
 |n+1=>(fun v3=>qex v0 v3 (qey v0 kx0 n) kx0)
def qwc:=hull (qey)
theorem q3r:qwc=qey:=qa _
def q44:SubB Tryz.prog (TIof Tryz.prog) 20 0 (kret [.t 2] decB):=lpB tabOk follows Tryz.f133 37 (.s (.s .z (.s .z (.v [.sel [] []]))) (.s .z (.v [.sel [0,3] []]))) S99_ (qey) (fun f v K n=>f (v.s 0 0) (qrj K) n) (fun v f K=>qex (v.s 0 0) (v.i 12 0) f (qrj K)) (fun f v=>f (v.i 12 0)) (fun k v=>(fun z0=>k (v.ui 12 0 z0)))
def qkh (v0:LU):Option Bool:=
 (qwc v0 (fun(_:Unit)=>(some true)) FU (0:Int))
def qmf:=hull qkh
theorem q7x:qmf=qkh:=qa _
def qxj {R:Type}:EntF Tryz.prog R:=entB (nt:=20) (dec:=decB) (enc:=AV.bool) tabOk follows Tryz.func133 [.t 2] hdeB (.s .z (.s (.s .z (.b (.sub [.sel [0,3] []] q44 []))) .z)) S69_ qkh (fun f v=>f (v.s 0 0))
def qbfo (Av:Bool)(Aw Ax Ay Az:Int)(A0 A1:LU)(A2:Int)(K:Ex->Env->Mem->Option Bool):=(fun z_v24=>K .norm (qk [(1,(.ptr 0 0)),(24,(.bool z_v24))]) (qh [(some (.box true (qn Av Aw Ax Ay Az A0 A1 A2)))]))
def qno (Av:Bool)(Aw Ax Ay Az:Int)(A0 A1:LU)(A2:Int)(kn:Bool->Option Bool):Option Bool:=
 (bif(decide (Az<1))then(kn true)else(bif(decide (Az>3))then(kn true)else(bif(Az==3)then(oB (qy3 Av Aw Ax Ay) fun r1=>(kn (Ay != r1)))else(kn false))))
def q5n:=hull (qno)
theorem qbfp:q5n=qno:=qa _
def qbjh:SubB Tryz.prog (TIof Tryz.prog) 61 0 (kret [.t 2] decB):=jnB tabOk follows Tryz.f76 9 (.d [] [(18,.c qbll.b)] [] [.sel [1,24] [0]]) S11_ (qno) (fun f v K=>f (v.b 3 0) (v.i 3 1) (v.i 3 2) (v.i 3 3) (v.i 3 4) (v.s 3 5) (v.s 3 6) (v.i 3 7) (qbfo (v.b 3 0) (v.i 3 1) (v.i 3 2) (v.i 3 3) (v.i 3 4) (v.s 3 5) (v.s 3 6) (v.i 3 7) K))
def qtk (Aa:Bool)(Ab Ac Bt Bu:Int)(Bv Bw:LU)(Bx:Int):Option Bool:=
 (q5n Aa Ab Ac Bt Bu Bv Bw Bx (fun v24q1=>(bif v24q1 then(some false)else(bif((decide ((Bv.length:Int)>=1))&&(decide ((Bv.length:Int)<=63)))then(oB (qmf Bv) fun r2=>(bif(r2&&(decide ((Bw.length:Int)<=32)))then(oB (qmf Bw) fun r3=>(some ((r3&&(decide (Bx>=0)))&&(decide (Bx<=4294967295)))))else(some false)))else(some false)))))
def qsf:=hull qtk
theorem qbnd:qsf=qtk:=qa _
def q7y {R:Type}:EntF Tryz.prog R:=entB (nt:=61) (dec:=decB) (enc:=AV.bool) tabOk follows Tryz.func76 [.t 2] hdeB (.s .z (.s (.s (.sub [.sel [1] [0]] qbjh []) .z) (.s (.r [(5,.g 4),(13,.c qxj.b),(16,.g 4),(24,.c qxj.b),(27,.g 3),(32,.g 3)] []) .z))) S12_ qtk (fun f v=>f (v.b 1 0) (v.i 1 1) (v.i 1 2) (v.i 1 3) (v.i 1 4) (v.s 1 5) (v.s 1 6) (v.i 1 7))
def qmg (Aa:Bool)(Ab Ac:Int)(B7:Bool)(B8 B9:Int):Option Int:=
 (bif(!((Aa==B7)&&true))then(bif B7 then(some (-1:Int))else(some (1:Int)))else(bif(Ab != B8)then(bif(decide (Ab<B8))then(some (-1:Int))else(some (1:Int)))else(bif(decide (Ac<B9))then(some (-1:Int))else(bif(decide (Ac>B9))then(some (1:Int))else(some (0:Int))))))
def qo5:=hull qmg
theorem qbdh:qo5=qmg:=qa _
def q0d {R:Type}:EntF Tryz.prog R:=entB (nt:=32) (dec:=(decI .i64)) (enc:=(AV.int .i64)) tabOk follows Tryz.func134 [.t 4] hdeI (.z) S29_ qmg (fun f v=>f (v.b 1 0) (v.i 1 1) (v.i 1 2) (v.b 5 0) (v.i 5 1) (v.i 5 2))
def qmh (Aa:Bool)(Ab Ac Bt:Int)(B7:Bool)(B8 B9 Ca:Int):Option Int:=
 (oB (qo5 Aa Ab Ac B7 B8 B9) fun r1=>(bif(r1 != (0:Int))then(some r1)else(bif(decide (Bt<Ca))then(some (-1:Int))else(bif(decide (Bt>Ca))then(some (1:Int))else(some (0:Int))))))
def qo6:=hull qmh
theorem qbdi:qo6=qmh:=qa _
def q0e {R:Type}:EntF Tryz.prog R:=entB (nt:=24) (dec:=(decI .i64)) (enc:=(AV.int .i64)) tabOk follows Tryz.func77 [.t 4] hdeI (.s .z (.s (.r [(4,.c q0d.b)] []) .z)) S20_ qmh (fun f v=>f (v.b 1 0) (v.i 1 1) (v.i 1 2) (v.i 1 3) (v.b 5 0) (v.i 5 1) (v.i 5 2) (v.i 5 3))
def q5o:AV->Option (AV×Bool):=decN [(.st [.b,(.i .u64),(.i .u64),(.i .i64)]),(.one .b)] fun z=>((gC (tpL z) 0),aB (gC (tpL z) 1))
def qbji (v1:Int)(Av:Bool)(Aw Ax:Int)(Ad:Bool)(Ae Af Ag:Int)(K:Ex->Env->Mem->Option (AV×Bool)):=(fun z_v22=>K .norm (qk [(1,(.int .i64 v1)),(2,(.ptr 0 0)),(4,(.ptr 1 0)),(22,(.bool z_v22))]) (qh [(some (.box true (qhc Av Aw Ax))),(some (.box true (qc Ad Ae Af Ag)))]))
def qo7 (v1:Int)(Av:Bool)(Aw Ax:Int)(Ad:Bool)(Ae Af Ag:Int)(kn:Bool->Option (AV×Bool)):Option (AV×Bool):=
 (oB (qk4 Av Aw Ax) fun r1=>(bif((!r1)||(decide (v1<0)))then(kn true)else(oB (qhh Av) fun r2=>(kn (decide (v1>r2))))))
def q7z:=hull (qo7)
theorem qbjj:q7z=qo7:=qa _
def qblm:SubB Tryz.prog (TIof Tryz.prog) 53 0 (kret [(.cell 4 true 4),.t 5] q5o):=jnB tabOk follows Tryz.f176 9 (.r [(1,.c qo2.b),(4,.g 2),(11,.c qjm.b)] [.sel [1,2,4,22] [0,1]]) S17_ (qo7) (fun f v K=>f (v.i 4 0) (v.b 3 0) (v.i 3 1) (v.i 3 2) (v.b 7 0) (v.i 7 1) (v.i 7 2) (v.i 7 3) (qbji (v.i 4 0) (v.b 3 0) (v.i 3 1) (v.i 3 2) (v.b 7 0) (v.i 7 1) (v.i 7 2) (v.i 7 3) K))
def qvg (Aa:Bool)(Ab Ac v1:Int):Option (AV×Bool):=
 (q7z v1 Aa Ab Ac false (0:Int) (0:Int) (0:Int) (fun v22q1=>(bif v22q1 then(some ((.agg [(.bool false),(.int .u64 (0:Int)),(.int .u64 (0:Int)),(.int .i64 (0:Int))]),false))else(oB (qhh Aa) fun r2=>(oB (qp2 (IntKind.i64.wrap (r2-v1))) fun r3=>(some ((.agg [(.bool Aa),(.int .u64 (IntKind.u64.wrap (Ab-(qbi .and .u64 Ab r3.1)))),(.int .u64 (IntKind.u64.wrap (Ac-(qbi .and .u64 Ac r3.2)))),(.int .i64 v1)]),true)))))))
def q6p:=hull qvg
theorem qbp2:q6p=qvg:=qa _
def qbs6 {R:Type}:EntF Tryz.prog R:=entB (nt:=53) (dec:=q5o) (enc:=(fun r=>.tup [qcp (.st [.b,(.i .u64),(.i .u64),(.i .i64)]) r.1,.bool r.2])) tabOk follows Tryz.func176 [(.cell 4 true 4),.t 5] (hdeN fun _=>rfl) (.s .z (.s (.s (.sub [.sel [1,2,4] [0,1]] qblm []) .z) (.s (.r [(2,.c qjm.b),(5,.c qxi.b)] []) .z))) S18_ qvg (fun f v=>f (v.b 1 0) (v.i 1 1) (v.i 1 2) (v.i 4 0))
def S100_:Shp:=⟨[(2,.one (.ptr 0 0)),(3,.one (.ptr 1 0))],[.box true (lk qe),.box true (lk qdz)]⟩
def q45 (Av:Bool)(Aw Ax Ay:Int)(Ad:Bool)(Ae Af:Int)(K:Ex->Env->Mem->Option Bool):=(fun z_v22=>K .norm (qk [(2,(.ptr 0 0)),(3,(.ptr 1 0)),(22,(.bool z_v22))]) (qh [(some (.box true (qc Av Aw Ax Ay))),(some (.box true (qhc Ad Ae Af)))]))
def qir (Av:Bool)(Aw Ax Ay:Int)(Ad:Bool)(Ae Af:Int)(kn:Bool->Option Bool):Option Bool:=
 (oB (qfr Av Aw Ax Ay) fun r1=>(bif(!r1)then(kn true)else(oB (qk4 Ad Ae Af) fun r2=>(kn ((!r2)||(!((Av==Ad)&&true)))))))
def qxk:=hull (qir)
theorem q46:qxk=qir:=qa _
def q6q:SubB Tryz.prog (TIof Tryz.prog) 33 0 (kret [.t 4] decB):=jnB tabOk follows Tryz.f129 9 (.r [(1,.c qii.b),(5,.c qo2.b),(9,.g 6)] [.sel [2,3,22] [0,1]]) S100_ (qir) (fun f v K=>f (v.b 3 0) (v.i 3 1) (v.i 3 2) (v.i 3 3) (v.b 7 0) (v.i 7 1) (v.i 7 2) (q45 (v.b 3 0) (v.i 3 1) (v.i 3 2) (v.i 3 3) (v.b 7 0) (v.i 7 1) (v.i 7 2) K))
def qlm (Aa:Bool)(Ab Ac Bt:Int)(B7:Bool)(B8 B9:Int):Option Bool:=
 (qxk Aa Ab Ac Bt B7 B8 B9 (fun v22q1=>(bif v22q1 then(some false)else(oB (q6p B7 B8 B9 Bt) fun r2=>(some (((gB r2.1.cells 0)==Aa)&&(((gI r2.1.cells 1)==Ab)&&(((gI r2.1.cells 2)==Ac)&&(((gI r2.1.cells 3)==Bt)&&true)))))))))
def qnp:=hull qlm
theorem qbab:qnp=qlm:=qa _
def qyj {R:Type}:EntF Tryz.prog R:=entB (nt:=33) (dec:=decB) (enc:=AV.bool) tabOk follows Tryz.func129 [.t 4] hdeB (.s .z (.s (.s (.sub [.sel [2,3] [0,1]] q6q []) .z) (.s (.r [(3,.c qbs6.b)] []) .z))) S19_ qlm (fun f v=>f (v.b 1 0) (v.i 1 1) (v.i 1 2) (v.i 1 3) (v.b 5 0) (v.i 5 1) (v.i 5 2))
def qnq (Aa:Bool)(Ab Ac Bt:Int)(B7:Bool)(B8 B9 Ca:Int):Option Bool:=
 (oB (qfr Aa Ab Ac Bt) fun r1=>(bif(r1&&(decide (Bt>=Ca)))then(oB (qnp B7 B8 B9 Ca Aa Ab Ac) fun r2=>(some r2))else(some false)))
def qjn:=hull qnq
theorem qbfq:qjn=qnq:=qa _
def qka {R:Type}:EntF Tryz.prog R:=entB (nt:=20) (dec:=decB) (enc:=AV.bool) tabOk follows Tryz.func128 [.t 4] hdeB (.s .z (.s (.r [(1,.c qii.b),(3,.g 5),(13,.c qyj.b)] []) .z)) S20_ qnq (fun f v=>f (v.b 1 0) (v.i 1 1) (v.i 1 2) (v.i 1 3) (v.b 5 0) (v.i 5 1) (v.i 5 2) (v.i 5 3))
def qp3 (Aa:Bool)(Ab Ac Bt:Int)(B7:Bool)(B8 B9 Ca:Int):Option Bool:=
 (oB (qjn Aa Ab Ac Bt B7 B8 B9 Ca) fun r1=>(some (r1&&(decide (Bt>Ca)))))
def qky:=hull qp3
theorem q70:qky=qp3:=qa _
def qlz {R:Type}:EntF Tryz.prog R:=entB (nt:=15) (dec:=decB) (enc:=AV.bool) tabOk follows Tryz.func103 [.t 4] hdeB (.s .z (.s (.r [(2,.c qka.b),(4,.g 5)] []) .z)) S20_ qp3 (fun f v=>f (v.b 1 0) (v.i 1 1) (v.i 1 2) (v.i 1 3) (v.b 5 0) (v.i 5 1) (v.i 5 2) (v.i 5 3))
def qnr (Aa:Bool)(Ab Ac Bt Bu:Int)(Bv Bw:LU)(Bx:Int)(B7:Bool)(B8 B9 Ca Cb:Int)(Cc Cd:LU)(Ce:Int):Option Bool:=
 (oB (qky Aa Ab Ac Bt B7 B8 B9 Ca) fun r1=>(bif r1 then(bif(Cb==3)then(some true)else(bif(Cb==2)then(some (Bu != (3:Int)))else(some false)))else(some false)))
def qmi:=hull qnr
theorem qbfr:qmi=qnr:=qa _
def q15 {R:Type}:EntF Tryz.prog R:=entB (nt:=25) (dec:=decB) (enc:=AV.bool) tabOk follows Tryz.func78 [.t 4] hdeB (.s .z (.s (.r [(4,.c qlz.b)] []) .z)) S21_ qnr (fun f v=>f (v.b 1 0) (v.i 1 1) (v.i 1 2) (v.i 1 3) (v.i 1 4) (v.s 1 5) (v.s 1 6) (v.i 1 7) (v.b 5 0) (v.i 5 1) (v.i 5 2) (v.i 5 3) (v.i 5 4) (v.s 5 5) (v.s 5 6) (v.i 5 7))
def S101_:Shp:=⟨[(0,.one (.l (.sl 8))),(3,.one (.l (.i .i64)))],[]⟩
def S102_:Shp:=⟨[(0,.one (.l (.sl 8))),(3,.one (.l (.i .i64))),(4,.one (.l (.i .i64)))],[]⟩
def q71 (v0:LA)(v3:Int)(K:Ex->Env->Mem->Option Int):=(fun z_v43=>K .norm (qk [(0,(.sl 8 v0)),(3,(.int .i64 v3)),(43,(.bool z_v43))]) (qh []))
def qki (v0:LA)(v3:Int)(kn:Bool->Option Int):Option Int:=
 (bif(decide (v3>0))then(oB (ixB v0 (IntKind.i64.wrap (v3-1))) fun y1=>(bif fitC qb y1.cells then(oB (ixB v0 v3) fun y2=>(bif fitC qb y2.cells then(oB (qo6 (gB y1.cells 0) (gI y1.cells 1) (gI y1.cells 2) (gI y1.cells 3) (gB y2.cells 0) (gI y2.cells 1) (gI y2.cells 2) (gI y2.cells 3)) fun r3=>(kn (decide (r3>0))))else none))else none))else(kn false))
def q0f:=hull (qki)
theorem q72:q0f=qki:=qa _
def qbac:SubB Tryz.prog (TIof Tryz.prog) 74 0 (kret [.t 2] (decI .i64)):=jnB tabOk follows Tryz.f28 9803 (.d [] [(6,.e 33 qb),(11,.e 38 qb)] [(0,.c q0e.b)] [.sel [0,3,43] []]) S101_ (qki) (fun f v K=>f (v.l 0 0) (v.i 12 0) (q71 (v.l 0 0) (v.i 12 0) K))
def q73 (v0:LA)(v3:Int)(K:Ex->Env->Mem->Option Int):=(fun z_v59=>K .norm (qk [(0,(.sl 8 v0)),(3,(.int .i64 v3)),(59,(.bool z_v59))]) (qh []))
def qkj (v0:LA)(v3:Int)(kn:Bool->Option Int):Option Int:=
 (bif(decide (v3>0))then(oB (ixB v0 (IntKind.i64.wrap (v3-1))) fun y1=>(bif fitC qb y1.cells then(oB (ixB v0 v3) fun y2=>(bif fitC qb y2.cells then(kn (((gB y1.cells 0)==(gB y2.cells 0))&&(((gI y1.cells 1)==(gI y2.cells 1))&&(((gI y1.cells 2)==(gI y2.cells 2))&&(((gI y1.cells 3)==(gI y2.cells 3))&&true)))))else none))else none))else(kn false))
def q0g:=hull (qkj)
theorem q74:q0g=qkj:=qa _
def qbad:SubB Tryz.prog (TIof Tryz.prog) 74 0 (kret [.t 2] (decI .i64)):=jnB tabOk follows Tryz.f28 20043 (.d [] [(6,.e 50 qb),(11,.e 55 qb)] [] [.sel [0,3,59] []]) S101_ (qkj) (fun f v K=>f (v.l 0 0) (v.i 12 0) (q73 (v.l 0 0) (v.i 12 0) K))
def qum (v0:LA)(v3:Int)(K:Ex->Env->Mem->Option Int):=(fun(_:Unit)=>K (.exit 2) (qk [(0,(.sl 8 v0)),(3,(.int .i64 v3))]) (qh []))
def qgk (v0:LA)(v3 v4:Int)(next:Int->Option Int)(kx2:Unit->Option Int):Option Int:=
 (bif(decide (v4<v3))then(oB (ixB v0 v3) fun y1=>(bif fitC qb y1.cells then(oB (ixB v0 v4) fun y2=>(bif fitC qb y2.cells then(oB (qmi (gB y1.cells 0) (gI y1.cells 1) (gI y1.cells 2) (gI y1.cells 3) (gI y1.cells 4) (gS y1.cells 5) (gS y1.cells 6) (gI y1.cells 7) (gB y2.cells 0) (gI y2.cells 1) (gI y2.cells 2) (gI y2.cells 3) (gI y2.cells 4) (gS y2.cells 5) (gS y2.cells 6) (gI y2.cells 7)) fun r3=>(bif r3 then(some (24:Int))else(next (IntKind.i64.wrap (v4+1)))))else none))else none))else(kx2 ()))
def qgl (v0:LA)(v3:Int)(kx2:Unit->Option Int):Nat->Int->Option Int
 |0=>(fun _=>none)
 |n+1=>(fun v4=>qgk v0 v3 v4 (qgl v0 v3 kx2 n) kx2)
def qsg:=hull (qgl)
theorem q75:qsg=qgl:=qa _
def qbae:SubB Tryz.prog (TIof Tryz.prog) 74 0 (kret [.t 2] (decI .i64)):=lpB tabOk follows Tryz.f28 81483 (.s (.s .z (.s .z (.v [.sel [0,3] []]))) (.s (.b (.s (.d [] [(2,.e 67 qb),(6,.e 71 qb)] [(0,.c q15.b)] []) .z)) (.v [.sel [0,3,4] []]))) S102_ (qgl) (fun f v K n=>f (v.l 0 0) (v.i 12 0) (qum (v.l 0 0) (v.i 12 0) K) n) (fun v f K=>qgk (v.l 0 0) (v.i 12 0) (v.i 16 0) f (qum (v.l 0 0) (v.i 12 0) K)) (fun f v=>f (v.i 16 0)) (fun k v=>(fun z0=>k (v.ui 16 0 z0)))
def qun (K:Ex->Env->Mem->Option Int):=(fun(_:Unit)=>K (.exit 0) (qk []) (qh []))
def qgm (v0:LA)(v3:Int)(next:Int->Option Int)(kx0:Unit->Option Int):Option Int:=
 (bif(decide (v3<(v0.length:Int)))then(oB (ixB v0 v3) fun y1=>(bif fitC qb y1.cells then(oB (qfr (gB y1.cells 0) (gI y1.cells 1) (gI y1.cells 2) (gI y1.cells 3)) fun r2=>(bif(!r2)then(some (3:Int))else(oB (ixB v0 v3) fun y3=>(bif fitC qb y3.cells then(oB (qsf (gB y3.cells 0) (gI y3.cells 1) (gI y3.cells 2) (gI y3.cells 3) (gI y3.cells 4) (gS y3.cells 5) (gS y3.cells 6) (gI y3.cells 7)) fun r4=>(bif(!r4)then(some (1:Int))else(q0f v0 v3 (fun v43q5=>(bif v43q5 then(some (7:Int))else(q0g v0 v3 (fun v59q6=>(bif v59q6 then(some (12:Int))else(qsg v0 v3 (fun(_:Unit)=>(next (IntKind.i64.wrap (v3+1)))) FU (0:Int))))))))))else none))))else none))else(kx0 ()))
def qgn (v0:LA)(kx0:Unit->Option Int):Nat->Int->Option Int
 |0=>(fun _=>none)
 |n+1=>(fun v3=>qgm v0 v3 (qgn v0 kx0 n) kx0)
def q0h:=hull (qgn)
theorem q76:q0h=qgn:=qa _
def qbaf:SubB Tryz.prog (TIof Tryz.prog) 74 0 (kret [.t 2] (decI .i64)):=lpB tabOk follows Tryz.f28 75 (.s (.s .z (.s .z (.v [.sel [] []]))) (.s (.b (.s (.s (.r [(2,.p (.etac 16 qb)),(5,.c qii.b)] []) .z) (.s (.s (.r [(2,.p (.etac 23 qb)),(4,.c q7y.b)] []) .z) (.s (.s (.sub [.sel [0,3] []] qbac []) .z) (.s (.s (.sub [.sel [0,3] []] qbad []) .z) (.s .z (.b (.sub [.sel [0,3,4] []] qbae [])))))))) (.v [.sel [0,3] []]))) S101_ (qgn) (fun f v K n=>f (v.l 0 0) (qun K) n) (fun v f K=>qgm (v.l 0 0) (v.i 12 0) f (qun K)) (fun f v=>f (v.i 12 0)) (fun k v=>(fun z0=>k (v.ui 12 0 z0)))
def qo8 (v0:LA):Option Int:=
 (bif(decide ((v0.length:Int)>512))then(some (9:Int))else(q0h v0 (fun(_:Unit)=>(some (0:Int))) FU (0:Int)))
def qy4:=hull qo8
theorem qbjk:qy4=qo8:=qa _
def qbln {R:Type}:EntF Tryz.prog R:=entB (nt:=74) (dec:=(decI .i64)) (enc:=(AV.int .i64)) tabOk follows Tryz.func28 [.t 2] hdeI (.s .z (.s .z (.s (.s .z (.b (.sub [.sel [0,3] []] qbaf []))) .z))) S93_ qo8 (fun f v=>f (v.l 0 0))
def S103_:Shp:=⟨[(0,.one (.l .s)),(3,.one (.l (.i .i64))),(4,.one (.l (.i .u8)))],[]⟩
def q47 (v0:LU)(v3:Int)(K:Ex->Env->Mem->Option Bool):=(fun z_v46=>K .norm (qk [(0,(.str v0)),(3,(.int .i64 v3)),(46,(.bool z_v46))]) (qh []))
def qis (v0:LU)(v3 v4:Int)(kn:Bool->Option Bool):Option Bool:=
 (bif((decide (v4>=97))&&(decide (v4<=122)))then(kn false)else(bif(decide (v4>=48))then(kn (!(((decide (v4<=57))||(v4==45))||(v4==95))))else(kn (!((v4==45)||(v4==95))))))
def qo9:=hull (qis)
theorem q48:qo9=qis:=qa _
def q6r:SubB Tryz.prog (TIof Tryz.prog) 47 0 (kret [.t 2] decB):=jnB tabOk follows Tryz.f136 5271 (.r [(3,.g 2),(15,.g 2),(19,.g 2)] [.sel [0,3,46] []]) S103_ (qis) (fun f v K=>f (v.s 0 0) (v.i 12 0) (v.i 16 0) (q47 (v.s 0 0) (v.i 12 0) K))
def qsh (K:Ex->Env->Mem->Option Bool):=(fun(_:Unit)=>K (.exit 0) (qk []) (qh []))
def qfc (v0:LU)(v3:Int)(next:Int->Option Bool)(kx0:Unit->Option Bool):Option Bool:=
 (bif(decide (v3<(v0.length:Int)))then(oB (ixB v0 v3) fun c1=>(qo9 v0 v3 (c1.toNat:Int) (fun v46q2=>(bif v46q2 then(some false)else(next (IntKind.i64.wrap (v3+1)))))))else(kx0 ()))
def qfd (v0:LU)(kx0:Unit->Option Bool):Nat->Int->Option Bool
 |0=>(fun _=>none)
 |n+1=>(fun v3=>qfc v0 v3 (qfd v0 kx0 n) kx0)
def qxl:=hull (qfd)
theorem q49:qxl=qfd:=qa _
def q6s:SubB Tryz.prog (TIof Tryz.prog) 47 0 (kret [.t 2] decB):=lpB tabOk follows Tryz.f136 151 (.s (.s .z (.s .z (.v [.sel [] []]))) (.s (.b (.s .z (.s (.sub [.sel [0,3,4] []] q6r []) .z))) (.v [.sel [0,3] []]))) S99_ (qfd) (fun f v K n=>f (v.s 0 0) (qsh K) n) (fun v f K=>qfc (v.s 0 0) (v.i 12 0) f (qsh K)) (fun f v=>f (v.i 12 0)) (fun k v=>(fun z0=>k (v.ui 12 0 z0)))
def qmj (v0:LU):Option Bool:=
 (bif(v0==([42]:List UInt8))then(some true)else(bif((decide ((v0.length:Int)<1))||(decide ((v0.length:Int)>63)))then(some false)else(qxl v0 (fun(_:Unit)=>(some true)) FU (0:Int))))
def qvt:=hull qmj
theorem qbdj:qvt=qmj:=qa _
def qbfs {R:Type}:EntF Tryz.prog R:=entB (nt:=47) (dec:=decB) (enc:=AV.bool) tabOk follows Tryz.func136 [.t 2] hdeB (.s .z (.s .z (.s (.s (.r [(4,.g 3)] []) .z) (.s (.s .z (.b (.sub [.sel [0,3] []] q6s []))) .z)))) S69_ qmj (fun f v=>f (v.s 0 0))
def S104_:Shp:=⟨[(0,.one (.l .s)),(4,.one (.own 0)),(5,.one (.l (.i .i64))),(6,.one (.l (.i .i64))),(7,.one (.l .s))],[.arr true 1]⟩
def S105_:Shp:=⟨[(0,.one (.l .s)),(4,.one (.own 0)),(5,.one (.l (.i .i64))),(6,.one (.l (.i .i64)))],[.arr true 1]⟩
def qmk:AV->Option ((List AV)×Bool):=decN [(.one (.fr true 1)),(.one .b)] fun z=>(aL (gC (tpL z) 0),aB (gC (tpL z) 1))
def q77 (v0:LU)(K:Ex->Env->Mem->Option ((List AV)×Bool)):=(fun z_v25=>K .norm (qk [(0,(.str v0)),(25,(.bool z_v25))]) (qh []))
def qkk (v0:LU)(kn:Bool->Option ((List AV)×Bool)):Option ((List AV)×Bool):=
 (bif((decide ((v0.length:Int)<2))||(decide ((v0.length:Int)>254)))then(kn true)else(oB (ixB v0 (IntKind.i64.wrap ((v0.length:Int)-1))) fun c1=>(kn ((c1.toNat:Int) != (46:Int)))))
def q0i:=hull (qkk)
theorem q78:q0i=qkk:=qa _
def qbag:SubB Tryz.prog (TIof Tryz.prog) 58 0 (kret [.t 2,.t 3] qmk):=jnB tabOk follows Tryz.f82 19 (.r [(4,.g 3)] [.sel [0,25] []]) S69_ (qkk) (fun f v K=>f (v.s 0 0) (q77 (v.s 0 0) K))
def q79 (v0:LU)(v6:Int)(v7:LU)(a0:LA)(K:Ex->Env->Mem->Option ((List AV)×Bool)):=(fun z_v50=>K .norm (qk [(0,(.str v0)),(4,(.own 0 a0.length)),(6,(.int .i64 v6)),(7,(.str v7)),(50,(.bool z_v50))]) (qh [(some (.arr true 1 a0))]))
def qkl (v0:LU)(v5 v6:Int)(v7:LU)(a0:LA)(kn:Bool->Option ((List AV)×Bool)):Option ((List AV)×Bool):=
 (oB (qvt v7) fun r1=>(bif(!r1)then(kn true)else(bif(v7==([42]:List UInt8))then(kn (decide (v5>0)))else(kn false))))
def q0j:=hull (qkl)
theorem q8a:q0j=qkl:=qa _
def qbah:SubB Tryz.prog (TIof Tryz.prog) 58 0 (kret [.t 2,.t 3] qmk):=jnB tabOk follows Tryz.f82 78431 (.r [(1,.c qbfs.b)] [.sel [0,4,6,7,50] [0]]) S104_ (qkl) (fun f v K=>f (v.s 0 0) (v.i 20 0) (v.i 24 0) (v.s 28 0) (v.r 0) (q79 (v.s 0 0) (v.i 24 0) (v.s 28 0) (v.r 0) K))
def qup (K:Ex->Env->Mem->Option ((List AV)×Bool)):=(fun z_a0=>K (.exit 0) (qk [(4,(.own 0 z_a0.length))]) (qh [(some (.arr true 1 z_a0))]))
def qgo (v0:LU)(v5 v6:Int)(a0:LA)(next:Int->Int->(List AV)->Option ((List AV)×Bool))(kx0:(List AV)->Option ((List AV)×Bool)):Option ((List AV)×Bool):=
 (bif(decide (v6<(v0.length:Int)))then(oB (ixB v0 v6) fun c1=>(bif((c1.toNat:Int) != (46:Int))then(next v5 (IntKind.i64.wrap (v6+1)) a0)else(oB (cutI v0 (some v5) (some v6)) fun s2=>(bif(hd a0 (a0.length)&&true)then(q0j v0 v5 v6 s2 a0 (fun v50q3=>(bif v50q3 then(bif hd ([]:List AV) (([]:List AV).length)then(some (([]:List AV),false))else none)else(bif hd a0 a0.length then(bif hd ([(.str s2)]:List AV) (([(.str s2)]:List AV).length)then(bif decide ((a0.length+([(.str s2)]:List AV).length)*16<=140737488355328)then(next (IntKind.i64.wrap (v6+1)) (IntKind.i64.wrap (v6+1)) (a0++([(.str s2)]:List AV)))else none)else none)else none))))else none))))else(kx0 a0))
def qgp (v0:LU)(kx0:(List AV)->Option ((List AV)×Bool)):Nat->Int->Int->(List AV)->Option ((List AV)×Bool)
 |0=>(fun _ _ _=>none)
 |n+1=>(fun v5 v6 a0=>qgo v0 v5 v6 a0 (qgp v0 kx0 n) kx0)
def qsi:=hull (qgp)
theorem q8b:qsi=qgp:=qa _
def qbai:SubB Tryz.prog (TIof Tryz.prog) 58 0 (kret [.t 2,.t 3] qmk):=lpB tabOk follows Tryz.f82 607 (.s (.s .z (.s .z (.v [.sel [4] [0]]))) (.s (.b (.s .z (.s .z (.s (.s (.sub [.sel [0,4,5,6,7] [0]] qbah []) (.s (.s .z (.v [.own 2 1])) .z)) .z)))) (.v [.sel [0,4,5,6] [0]]))) S105_ (qgp) (fun f v K n=>f (v.s 0 0) (qup K) n) (fun v f K=>qgo (v.s 0 0) (v.i 20 0) (v.i 24 0) (v.r 0) f (qup K)) (fun f v=>f (v.i 20 0) (v.i 24 0) (v.r 0)) (fun k v=>(fun z0 z1 z2=>k (((v.ui 20 0 z0).ui 24 0 z1).ur 0 z2)))
def qpa (v0:LU):Option ((List AV)×Bool):=
 (bif(v0==([46]:List UInt8))then(bif hd ([]:List AV) (([]:List AV).length)then(some (([]:List AV),true))else none)else(q0i v0 (fun v25q1=>(bif v25q1 then(bif hd ([]:List AV) (([]:List AV).length)then(some (([]:List AV),false))else none)else(bif(hd ([]:List AV) (([]:List AV).length)&&true)then(qsi v0 (fun a0q2=>(bif hd a0q2 a0q2.length then(some (a0q2,true))else none)) FU (0:Int) (0:Int) ([]:List AV))else none)))))
def qfs:=hull qpa
theorem qbjl:qfs=qpa:=qa _
def qij {R:Type}:EntF Tryz.prog R:=entB (nt:=58) (dec:=qmk) (enc:=(fun r=>.tup [.fr true 1 r.1,.bool r.2])) tabOk follows Tryz.func82 [.t 2,.t 3] (hdeN fun _=>rfl) (.s .z (.s (.s .z (.s (.s .z (.v [.own 2 1])) .z)) (.s (.s (.sub [.sel [0] []] qbag []) (.s (.s .z (.v [.own 2 1])) .z)) (.s .z (.s .z (.s (.s .z (.b (.sub [.own 4 1,.sel [0,4,5,6] [0]] qbai []))) .z)))))) S69_ qpa (fun f v=>f (v.s 0 0))
def qpb (v0:LU):Option Bool:=
 (oB (qfs v0) fun r1=>(some r1.2))
def qn8:=hull qpb
theorem qbjm:qn8=qpb:=qa _
def qvu {R:Type}:EntF Tryz.prog R:=entB (nt:=11) (dec:=decB) (enc:=AV.bool) tabOk follows Tryz.func30 [.t 2] hdeB (.s .z (.s (.r [(1,.k qij.b)] []) .z)) S69_ qpb (fun f v=>f (v.s 0 0))
def qns (v0:LU):Option (List AV):=
 (oB (qfs v0) fun r1=>(some r1.1))
def qxm:=hull qns
theorem qbft:qxm=qns:=qa _
def qbjn {R:Type}:EntF Tryz.prog R:=entB (nt:=11) (dec:=(decX (.one (.sl 1)) fun z=>aL z)) (enc:=(fun r=>.sl 1 r)) tabOk follows Tryz.func135 [.t 2] (hdeX fun _=>rfl) (.s .z (.s (.r [(1,.k qij.b)] []) .z)) S69_ qns (fun f v=>f (v.s 0 0))
def qml (v0:LU):Option Bool:=
 (oB (qxm v0) fun r1=>(bif(decide ((r1.length:Int)>0))then(oB (ixB r1 (0:Int)) fun y2=>(bif fitC [.s] y2.cells then(some ((gS y2.cells 0)==([42]:List UInt8)))else none))else(some false)))
def qvv:=hull qml
theorem qbdk:qvv=qml:=qa _
def qbfu {R:Type}:EntF Tryz.prog R:=entB (nt:=15) (dec:=decB) (enc:=AV.bool) tabOk follows Tryz.func79 [.t 2] hdeB (.s .z (.s (.r [(1,.k qbjn.b)] []) (.s (.r [(5,.p (.etac 11 [.s]))] []) .z))) S69_ qml (fun f v=>f (v.s 0 0))
def qrk (v0 v1:LU):Option Int:=
 (bif(Op.bytesLess v0 v1)then(some (-1:Int))else(bif(!(Op.bytesLess v0 v1||v0==v1))then(some (1:Int))else(some (0:Int))))
def qvh:=hull qrk
theorem qblo:qvh=qrk:=qa _
def q5p {R:Type}:EntF Tryz.prog R:=entB (nt:=11) (dec:=(decI .i64)) (enc:=(AV.int .i64)) tabOk follows Tryz.func83 [.t 4] hdeI (.z) S62_ qrk (fun f v=>f (v.s 0 0) (v.s 4 0))
def S106_:Shp:=⟨[(0,.one (.l (.sl 1))),(1,.one (.l (.sl 1))),(5,.one (.l (.i .i64)))],[]⟩
def S107_:Shp:=⟨[(0,.one (.l (.sl 1))),(1,.one (.l (.sl 1)))],[]⟩
def qbdl (v0 v1:LA)(v5:Int)(K:Ex->Env->Mem->Option Int):=(fun z_v34=>K .norm (qk [(0,(.sl 1 v0)),(1,(.sl 1 v1)),(5,(.int .i64 v5)),(34,(.bool z_v34))]) (qh []))
def qmm (v0 v1:LA)(v5:Int)(kn:Bool->Option Int):Option Int:=
 (bif(decide (v5<(v0.length:Int)))then(bif(decide (v5<(v1.length:Int)))then(oB (ixB v0 (IntKind.i64.wrap ((IntKind.i64.wrap ((v0.length:Int)-1))-v5))) fun y1=>(bif fitC [.s] y1.cells then(oB (ixB v1 (IntKind.i64.wrap ((IntKind.i64.wrap ((v1.length:Int)-1))-v5))) fun y2=>(bif fitC [.s] y2.cells then(kn ((gS y1.cells 0)==(gS y2.cells 0)))else none))else none))else(kn false))else(kn false))
def q3s:=hull (qmm)
theorem qbdm:q3s=qmm:=qa _
def qbfv:SubB Tryz.prog (TIof Tryz.prog) 38 0 (kret [.t 4] (decI .i64)):=jnB tabOk follows Tryz.f84 131 (.d [] [(17,.e 23 [.s]),(25,.e 31 [.s])] [] [.sel [0,1,5,34] []]) S106_ (qmm) (fun f v K=>f (v.l 0 0) (v.l 4 0) (v.i 20 0) (qbdl (v.l 0 0) (v.l 4 0) (v.i 20 0) K))
def qxn (K:Ex->Env->Mem->Option Int):=(fun z_v5=>K (.exit 0) (qk [(5,(.int .i64 z_v5))]) (qh []))
def qmn (v0 v1:LA)(v5:Int)(next:Int->Option Int)(kx0:Int->Option Int):Option Int:=
 (q3s v0 v1 v5 (fun v34q1=>(bif v34q1 then(next (IntKind.i64.wrap (v5+1)))else(kx0 v5))))
def qft (v0 v1:LA)(kx0:Int->Option Int):Nat->Int->Option Int
 |0=>(fun _=>none)
 |n+1=>(fun v5=>qmn v0 v1 v5 (qft v0 v1 kx0 n) kx0)
def q3t:=hull (qft)
theorem qbdn:q3t=qft:=qa _
def qbfw:SubB Tryz.prog (TIof Tryz.prog) 38 0 (kret [.t 4] (decI .i64)):=lpB tabOk follows Tryz.f84 35 (.s (.s (.sub [.sel [0,1,5] []] qbfv []) (.s .z (.v [.sel [5] []]))) (.b (.v [.sel [0,1,5] []]))) S106_ (qft) (fun f v K n=>f (v.l 0 0) (v.l 4 0) (qxn K) n) (fun v f K=>qmn (v.l 0 0) (v.l 4 0) (v.i 20 0) f (qxn K)) (fun f v=>f (v.i 20 0)) (fun k v=>(fun z0=>k (v.ui 20 0 z0)))
def qrl (v0 v1:LA):Option Int:=
 (q3t v0 v1 (fun v5q1=>(some v5q1)) FU (0:Int))
def qp4:=hull qrl
theorem qblp:qp4=qrl:=qa _
def q5q {R:Type}:EntF Tryz.prog R:=entB (nt:=38) (dec:=(decI .i64)) (enc:=(AV.int .i64)) tabOk follows Tryz.func84 [.t 4] hdeI (.s .z (.s .z (.s (.b (.sub [.sel [0,1,5] []] qbfw [])) .z))) S107_ qrl (fun f v=>f (v.l 0 0) (v.l 4 0))
def qmo (v0 v1:LU):Option Int:=
 (oB (qfs v0) fun r1=>(oB (qfs v1) fun r2=>(bif((!r1.2)||(!r2.2))then(bif r1.2 then(some (-1:Int))else(bif r2.2 then(some (1:Int))else(oB (qvh v0 v1) fun r3=>(some r3))))else(oB (qp4 r1.1 r2.1) fun r4=>(bif((decide (r4<(r1.1.length:Int)))&&(decide (r4<(r2.1.length:Int))))then(oB (ixB r1.1 (IntKind.i64.wrap ((IntKind.i64.wrap ((r1.1.length:Int)-1))-r4))) fun y5=>(bif fitC [.s] y5.cells then(oB (ixB r2.1 (IntKind.i64.wrap ((IntKind.i64.wrap ((r2.1.length:Int)-1))-r4))) fun y6=>(bif fitC [.s] y6.cells then(oB (qvh (gS y5.cells 0) (gS y6.cells 0)) fun r7=>(some r7))else none))else none))else(bif(decide ((r1.1.length:Int)<(r2.1.length:Int)))then(some (-1:Int))else(bif(decide ((r1.1.length:Int)>(r2.1.length:Int)))then(some (1:Int))else(some (0:Int)))))))))
def qpc:=hull qmo
theorem qbdo:qpc=qmo:=qa _
def q0k {R:Type}:EntF Tryz.prog R:=entB (nt:=71) (dec:=(decI .i64)) (enc:=(AV.int .i64)) tabOk follows Tryz.func31 [.t 4] hdeI (.s .z (.s (.r [(1,.k qij.b)] []) (.s (.r [(1,.k qij.b)] []) (.s (.s (.r [(3,.g 2)] []) (.s (.s .z (.s .z (.s (.r [(2,.c q5p.b)] []) .z))) .z)) (.s (.r [(2,.c q5q.b)] []) (.s (.s (.r [(5,.g 4)] []) (.s (.s (.d [] [(6,.e 50 [.s]),(14,.e 58 [.s])] [(0,.c q5p.b)] []) .z) .z)) .z)))))) S62_ qmo (fun f v=>f (v.s 0 0) (v.s 4 0))
def qnt (Aa:LU)(Ab:Bool)(Ac Bt Bu:Int)(B7:LU)(B8:Bool)(B9 Ca Cb:Int):Option Bool:=
 (oB (qo5 Ab Ac Bt B8 B9 Ca) fun r1=>(bif(decide (r1<0))then(some true)else(bif(r1==0)then(oB (qpc Aa B7) fun r2=>(some (decide (r2<0))))else(some false))))
def qrm:=hull qnt
theorem qbfx:qrm=qnt:=qa _
def q16 {R:Type}:EntF Tryz.prog R:=entB (nt:=25) (dec:=decB) (enc:=AV.bool) tabOk follows Tryz.func81 [.t 4] hdeB (.s .z (.s (.r [(4,.c q0d.b)] []) (.s (.r [(10,.c q0k.b)] []) .z))) S75_ qnt (fun f v=>f (v.s 1 0) (v.b 1 1) (v.i 1 2) (v.i 1 3) (v.i 1 4) (v.s 5 0) (v.b 5 1) (v.i 5 2) (v.i 5 3) (v.i 5 4))
def S108_:Shp:=⟨[(0,.one (.l (.sl 5))),(3,.one (.l (.i .i64))),(4,.one (.ptr 0 0))],[.box true (lk qi)]⟩
def S109_:Shp:=⟨[(0,.one (.l (.sl 5))),(3,.one (.l (.i .i64)))],[]⟩
def q8c (v0:LA)(v3:Int)(Av:LU)(Aw:Bool)(Ax Ay Az:Int)(K:Ex->Env->Mem->Option Int):=(fun z_v26=>K .norm (qk [(0,(.sl 5 v0)),(3,(.int .i64 v3)),(4,(.ptr 0 0)),(26,(.bool z_v26))]) (qh [(some (.box true (qfj Av Aw Ax Ay Az)))]))
def qkm (v0:LA)(v3:Int)(Av:LU)(Aw:Bool)(Ax Ay Az:Int)(kn:Bool->Option Int):Option Int:=
 (oB (qn8 Av) fun r1=>(bif(!r1)then(kn true)else(oB (qvv Av) fun r2=>(kn r2))))
def qsj:=hull (qkm)
theorem q8d:qsj=qkm:=qa _
def qbaj:SubB Tryz.prog (TIof Tryz.prog) 74 0 (kret [.t 2] (decI .i64)):=jnB tabOk follows Tryz.f29 4683 (.r [(2,.c qvu.b),(7,.c qbfu.b)] [.sel [0,3,4,26] [0]]) S108_ (qkm) (fun f v K=>f (v.l 0 0) (v.i 12 0) (v.s 3 0) (v.b 3 1) (v.i 3 2) (v.i 3 3) (v.i 3 4) (q8c (v.l 0 0) (v.i 12 0) (v.s 3 0) (v.b 3 1) (v.i 3 2) (v.i 3 3) (v.i 3 4) K))
def q8e (v0:LA)(v3:Int)(Av:LU)(Aw:Bool)(Ax Ay Az:Int)(K:Ex->Env->Mem->Option Int):=(fun z_v49=>K .norm (qk [(0,(.sl 5 v0)),(3,(.int .i64 v3)),(4,(.ptr 0 0)),(49,(.bool z_v49))]) (qh [(some (.box true (qfj Av Aw Ax Ay Az)))]))
def qkn (v0:LA)(v3:Int)(Av:LU)(Aw:Bool)(Ax Ay Az:Int)(kn:Bool->Option Int):Option Int:=
 (bif(decide (v3>0))then(oB (ixB v0 (IntKind.i64.wrap (v3-1))) fun y1=>(bif fitC qi y1.cells then(oB (qrm Av Aw Ax Ay Az (gS y1.cells 0) (gB y1.cells 1) (gI y1.cells 2) (gI y1.cells 3) (gI y1.cells 4)) fun r2=>(kn r2))else none))else(kn false))
def qsk:=hull (qkn)
theorem q8f:qsk=qkn:=qa _
def qbak:SubB Tryz.prog (TIof Tryz.prog) 74 0 (kret [.t 2] (decI .i64)):=jnB tabOk follows Tryz.f29 40523 (.d [] [(7,.e 46 qi)] [(0,.c q16.b)] [.sel [0,3,4,49] [0]]) S108_ (qkn) (fun f v K=>f (v.l 0 0) (v.i 12 0) (v.s 3 0) (v.b 3 1) (v.i 3 2) (v.i 3 3) (v.i 3 4) (q8e (v.l 0 0) (v.i 12 0) (v.s 3 0) (v.b 3 1) (v.i 3 2) (v.i 3 3) (v.i 3 4) K))
def q8g (v0:LA)(v3:Int)(K:Ex->Env->Mem->Option Int):=(fun z_v73=>K .norm (qk [(0,(.sl 5 v0)),(3,(.int .i64 v3)),(73,(.bool z_v73))]) (qh []))
def qko (v0:LA)(v3:Int)(Av:LU)(Aw:Bool)(Ax Ay Az:Int)(kn:Bool->Option Int):Option Int:=
 (bif(decide (v3>0))then(oB (ixB v0 (IntKind.i64.wrap (v3-1))) fun y1=>(bif fitC qi y1.cells then(bif(Av==(gS y1.cells 0))then(oB (ixB v0 (IntKind.i64.wrap (v3-1))) fun y2=>(bif fitC qi y2.cells then(kn ((Aw==(gB y2.cells 1))&&((Ax==(gI y2.cells 2))&&((Ay==(gI y2.cells 3))&&true))))else none))else(kn false))else none))else(kn false))
def qsl:=hull (qko)
theorem q8h:qsl=qko:=qa _
def qbal:SubB Tryz.prog (TIof Tryz.prog) 74 0 (kret [.t 2] (decI .i64)):=jnB tabOk follows Tryz.f29 48715 (.d [] [(8,.e 58 qi),(19,.e 69 qi)] [] [.sel [0,3,73] []]) S108_ (qko) (fun f v K=>f (v.l 0 0) (v.i 12 0) (v.s 3 0) (v.b 3 1) (v.i 3 2) (v.i 3 3) (v.i 3 4) (q8g (v.l 0 0) (v.i 12 0) K))
def quq (K:Ex->Env->Mem->Option Int):=(fun(_:Unit)=>K (.exit 0) (qk []) (qh []))
def qgq (v0:LA)(v3:Int)(next:Int->Option Int)(kx0:Unit->Option Int):Option Int:=
 (bif(decide (v3<(v0.length:Int)))then(oB (ixB v0 v3) fun y1=>(bif fitC qi y1.cells then(qsj v0 v3 (gS y1.cells 0) (gB y1.cells 1) (gI y1.cells 2) (gI y1.cells 3) (gI y1.cells 4) (fun v26q2=>(bif v26q2 then(some (2:Int))else(oB (qk4 (gB y1.cells 1) (gI y1.cells 2) (gI y1.cells 3)) fun r3=>(bif(!r3)then(some (3:Int))else(bif((decide ((gI y1.cells 4)<0))||(decide ((gI y1.cells 4)>2147483647)))then(some (1:Int))else(qsk v0 v3 (gS y1.cells 0) (gB y1.cells 1) (gI y1.cells 2) (gI y1.cells 3) (gI y1.cells 4) (fun v49q4=>(bif v49q4 then(some (7:Int))else(qsl v0 v3 (gS y1.cells 0) (gB y1.cells 1) (gI y1.cells 2) (gI y1.cells 3) (gI y1.cells 4) (fun v73q5=>(bif v73q5 then(some (12:Int))else(next (IntKind.i64.wrap (v3+1)))))))))))))))else none))else(kx0 ()))
def qgr (v0:LA)(kx0:Unit->Option Int):Nat->Int->Option Int
 |0=>(fun _=>none)
 |n+1=>(fun v3=>qgq v0 v3 (qgr v0 kx0 n) kx0)
def q0l:=hull (qgr)
theorem q8i:q0l=qgr:=qa _
def qbam:SubB Tryz.prog (TIof Tryz.prog) 74 0 (kret [.t 2] (decI .i64)):=lpB tabOk follows Tryz.f29 75 (.s (.s .z (.s .z (.v [.sel [] []]))) (.s (.b (.s (.r [(2,.p (.etac 16 qi))] []) (.s (.s (.sub [.sel [0,3,4] [0]] qbaj []) .z) (.s (.s (.r [(2,.c qo2.b)] []) .z) (.s (.s (.r [(4,.g 3)] []) .z) (.s (.s (.sub [.sel [0,3,4] [0]] qbak []) .z) (.s (.sub [.sel [0,3,4] [0]] qbal []) .z))))))) (.v [.sel [0,3] []]))) S109_ (qgr) (fun f v K n=>f (v.l 0 0) (quq K) n) (fun v f K=>qgq (v.l 0 0) (v.i 12 0) f (quq K)) (fun f v=>f (v.i 12 0)) (fun k v=>(fun z0=>k (v.ui 12 0 z0)))
def qpd (v0:LA):Option Int:=
 (bif(decide ((v0.length:Int)>256))then(some (9:Int))else(q0l v0 (fun(_:Unit)=>(some (0:Int))) FU (0:Int)))
def qtl:=hull qpd
theorem qbjo:qtl=qpd:=qa _
def q3u {R:Type}:EntF Tryz.prog R:=entB (nt:=74) (dec:=(decI .i64)) (enc:=(AV.int .i64)) tabOk follows Tryz.func29 [.t 2] hdeI (.s .z (.s .z (.s (.s .z (.b (.sub [.sel [0,3] []] qbam []))) .z))) S77_ qpd (fun f v=>f (v.l 0 0))
def S110_:Shp:=⟨[(0,.one (.l (.sl 8))),(3,.one (.ptr 0 0)),(4,.one (.ptr 1 0)),(6,.one (.l (.i .i64))),(7,.one (.l (.i .i64)))],[.box true (lk qdz),.box true (lk qb)]⟩
def qqs:AV->Option (AV×Bool):=decN [(.st [.b,(.i .u64),(.i .u64),(.i .i64),(.i .i64),.s,.s,(.i .i64)]),(.one .b)] fun z=>((gC (tpL z) 0),aB (gC (tpL z) 1))
def q6t (v0:LA)(v6 v7:Int)(Av:Bool)(Aw Ax:Int)(Ad:Bool)(Ae Af Ag Ah:Int)(Ai Aj:LU)(Ak:Int)(K:Ex->Env->Mem->Option (AV×Bool)):=(fun z_v39=>K .norm (qk [(0,(.sl 8 v0)),(3,(.ptr 0 0)),(4,(.ptr 1 0)),(6,(.int .i64 v6)),(7,(.int .i64 v7)),(39,(.bool z_v39))]) (qh [(some (.box true (qhc Av Aw Ax))),(some (.box true (qn Ad Ae Af Ag Ah Ai Aj Ak)))]))
def qjo (v0:LA)(v6 v7:Int)(Av:Bool)(Aw Ax:Int)(Ad:Bool)(Ae Af Ag Ah:Int)(Ai Aj:LU)(Ak:Int)(kn:Bool->Option (AV×Bool)):Option (AV×Bool):=
 (oB (ixB v0 v7) fun y1=>(bif fitC qb y1.cells then(oB (qnp (gB y1.cells 0) (gI y1.cells 1) (gI y1.cells 2) (gI y1.cells 3) Av Aw Ax) fun r2=>(bif r2 then(bif(decide (v6<0))then(kn true)else(oB (ixB v0 v7) fun y3=>(bif fitC qb y3.cells then(oB (ixB v0 v6) fun y4=>(bif fitC qb y4.cells then(kn (decide ((gI y3.cells 3)>(gI y4.cells 3))))else none))else none)))else(kn false)))else none))
def qyk:=hull (qjo)
theorem q6u:qyk=qjo:=qa _
def q8j:SubB Tryz.prog (TIof Tryz.prog) 48 0 (kret [(.cell 4 true 8),.t 5] qqs):=jnB tabOk follows Tryz.f85 1099 (.d [] [(2,.e 16 qb),(6,.c qyj.b),(13,.e 27 qb),(19,.e 33 qb)] [] [.sel [0,3,4,6,7,39] [0,1]]) S110_ (qjo) (fun f v K=>f (v.l 0 0) (v.i 24 0) (v.i 28 0) (v.b 3 0) (v.i 3 1) (v.i 3 2) (v.b 7 0) (v.i 7 1) (v.i 7 2) (v.i 7 3) (v.i 7 4) (v.s 7 5) (v.s 7 6) (v.i 7 7) (q6t (v.l 0 0) (v.i 24 0) (v.i 28 0) (v.b 3 0) (v.i 3 1) (v.i 3 2) (v.b 7 0) (v.i 7 1) (v.i 7 2) (v.i 7 3) (v.i 7 4) (v.s 7 5) (v.s 7 6) (v.i 7 7) K))
def qur (v0:LA)(Ad:Bool)(Ae Af Ag Ah:Int)(Ai Aj:LU)(Ak:Int)(K:Ex->Env->Mem->Option (AV×Bool)):=(fun z_v6=>K (.exit 0) (qk [(0,(.sl 8 v0)),(4,(.ptr 0 0)),(6,(.int .i64 z_v6))]) (qh [(some (.box true (qn Ad Ae Af Ag Ah Ai Aj Ak)))]))
def qgs (v0:LA)(v6 v7:Int)(Av:Bool)(Aw Ax:Int)(Ad:Bool)(Ae Af Ag Ah:Int)(Ai Aj:LU)(Ak:Int)(next:Int->Int->Option (AV×Bool))(kx0:Int->Option (AV×Bool)):Option (AV×Bool):=
 (bif(decide (v7<(v0.length:Int)))then(qyk v0 v6 v7 Av Aw Ax Ad Ae Af Ag Ah Ai Aj Ak (fun v39q1=>(bif v39q1 then(next v7 (IntKind.i64.wrap (v7+1)))else(next v6 (IntKind.i64.wrap (v7+1))))))else(kx0 v6))
def qeu (v0:LA)(Av:Bool)(Aw Ax:Int)(Ad:Bool)(Ae Af Ag Ah:Int)(Ai Aj:LU)(Ak:Int)(kx0:Int->Option (AV×Bool)):Nat->Int->Int->Option (AV×Bool)
 |0=>(fun _ _=>none)
 |n+1=>(fun v6 v7=>qgs v0 v6 v7 Av Aw Ax Ad Ae Af Ag Ah Ai Aj Ak (qeu v0 Av Aw Ax Ad Ae Af Ag Ah Ai Aj Ak kx0 n) kx0)
def q0m:=hull (qeu)
theorem q8k:q0m=qeu:=qa _
def qban:SubB Tryz.prog (TIof Tryz.prog) 48 0 (kret [(.cell 4 true 8),.t 5] qqs):=lpB tabOk follows Tryz.f85 75 (.s (.s .z (.s .z (.v [.sel [0,4,6] [1]]))) (.s (.b (.s (.sub [.sel [0,3,4,6,7] [0,1]] q8j []) .z)) (.v [.sel [0,3,4,6,7] [0,1]]))) S110_ (qeu) (fun f v K n=>f (v.l 0 0) (v.b 3 0) (v.i 3 1) (v.i 3 2) (v.b 7 0) (v.i 7 1) (v.i 7 2) (v.i 7 3) (v.i 7 4) (v.s 7 5) (v.s 7 6) (v.i 7 7) (qur (v.l 0 0) (v.b 7 0) (v.i 7 1) (v.i 7 2) (v.i 7 3) (v.i 7 4) (v.s 7 5) (v.s 7 6) (v.i 7 7) K) n) (fun v f K=>qgs (v.l 0 0) (v.i 24 0) (v.i 28 0) (v.b 3 0) (v.i 3 1) (v.i 3 2) (v.b 7 0) (v.i 7 1) (v.i 7 2) (v.i 7 3) (v.i 7 4) (v.s 7 5) (v.s 7 6) (v.i 7 7) f (qur (v.l 0 0) (v.b 7 0) (v.i 7 1) (v.i 7 2) (v.i 7 3) (v.i 7 4) (v.s 7 5) (v.s 7 6) (v.i 7 7) K)) (fun f v=>f (v.i 24 0) (v.i 28 0)) (fun k v=>(fun z0 z1=>k ((v.ui 24 0 z0).ui 28 0 z1)))
def qnu (v0:LA)(B7:Bool)(B8 B9:Int):Option (AV×Bool):=
 (q0m v0 B7 B8 B9 false (0:Int) (0:Int) (0:Int) (0:Int) ([]:List UInt8) ([]:List UInt8) (0:Int) (fun v6q1=>(bif(decide (v6q1<0))then(some ((.agg [(.bool false),(.int .u64 (0:Int)),(.int .u64 (0:Int)),(.int .i64 (0:Int)),(.int .i64 (0:Int)),(.str ([]:List UInt8)),(.str ([]:List UInt8)),(.int .i64 (0:Int))]),false))else(oB (ixB v0 v6q1) fun y2=>(bif fitC qb y2.cells then(some ((.agg [(.bool (gB y2.cells 0)),(.int .u64 (gI y2.cells 1)),(.int .u64 (gI y2.cells 2)),(.int .i64 (gI y2.cells 3)),(.int .i64 (gI y2.cells 4)),(.str (gS y2.cells 5)),(.str (gS y2.cells 6)),(.int .i64 (gI y2.cells 7))]),true))else none)))) FU (-1:Int) (0:Int))
def qxo:=hull qnu
theorem qbfy:qxo=qnu:=qa _
def qbjp {R:Type}:EntF Tryz.prog R:=entB (nt:=48) (dec:=qqs) (enc:=(fun r=>.tup [qcp (.st [.b,(.i .u64),(.i .u64),(.i .i64),(.i .i64),.s,.s,(.i .i64)]) r.1,.bool r.2])) tabOk follows Tryz.func85 [(.cell 4 true 8),.t 5] (hdeN fun _=>rfl) (.s .z (.s .z (.s (.s .z (.b (.sub [.sel [0,3,4,6,7] [0,1]] qban []))) (.s .z (.s (.r [(2,.p (.etac 46 qb))] []) .z))))) S39_ qnu (fun f v=>f (v.l 0 0) (v.b 5 0) (v.i 5 1) (v.i 5 2))
def qmp (v0:LA)(B7:Bool)(B8 B9:Int):Option Bool:=
 (oB (qxo v0 B7 B8 B9) fun r1=>(bif r1.2 then(bif((gI r1.1.cells 4)==2)then(some true)else(some ((gI r1.1.cells 4)==3)))else(some false)))
def qk9:=hull qmp
theorem qbdp:qk9=qmp:=qa _
def qsm {R:Type}:EntF Tryz.prog R:=entB (nt:=24) (dec:=decB) (enc:=AV.bool) tabOk follows Tryz.func32 [.t 4] hdeB (.s .z (.s (.r [(2,.c qbjp.b)] []) .z)) S39_ qmp (fun f v=>f (v.l 0 0) (v.b 5 0) (v.i 5 1) (v.i 5 2))
def qpe (v0 v1:LU):Option Bool:=
 (oB (qfs v0) fun r1=>(oB (qfs v1) fun r2=>(bif(r1.2&&r2.2)then(oB (qp4 r1.1 r2.1) fun r3=>(some (r3==(r2.1.length:Int))))else(some false))))
def qy5:=hull qpe
theorem qbjq:qy5=qpe:=qa _
def qblq {R:Type}:EntF Tryz.prog R:=entB (nt:=31) (dec:=decB) (enc:=AV.bool) tabOk follows Tryz.func86 [.t 4] hdeB (.s .z (.s (.r [(1,.k qij.b)] []) (.s (.r [(1,.k qij.b)] []) (.s (.r [(2,.g 1),(7,.c q5q.b)] []) .z)))) S62_ qpe (fun f v=>f (v.s 0 0) (v.s 4 0))
def S111_:Shp:=⟨[(0,.one (.l (.sl 1))),(1,.one (.l .s)),(5,.one (.l (.i .i64)))],[]⟩
def qwd (K:Ex->Env->Mem->Option Bool):=(fun(_:Unit)=>K (.exit 0) (qk []) (qh []))
def qhx (v0:LA)(v1:LU)(v5:Int)(next:Int->Option Bool)(kx0:Unit->Option Bool):Option Bool:=
 (bif(decide (v5<(v0.length:Int)))then(oB (ixB v0 v5) fun y1=>(bif fitC [.s] y1.cells then(oB (qy5 v1 (gS y1.cells 0)) fun r2=>(bif r2 then(some true)else(next (IntKind.i64.wrap (v5+1)))))else none))else(kx0 ()))
def qhy (v0:LA)(v1:LU)(kx0:Unit->Option Bool):Nat->Int->Option Bool
 |0=>(fun _=>none)
 |n+1=>(fun v5=>qhx v0 v1 v5 (qhy v0 v1 kx0 n) kx0)
def q17:=hull (qhy)
theorem qbao:q17=qhy:=qa _
def qbdq:SubB Tryz.prog (TIof Tryz.prog) 18 0 (kret [.t 4] decB):=lpB tabOk follows Tryz.f33 37 (.s (.s .z (.s .z (.v [.sel [] []]))) (.s (.b (.s (.r [(3,.p (.etac 15 [.s])),(5,.c qblq.b)] []) .z)) (.v [.sel [0,1,5] []]))) S111_ (qhy) (fun f v K n=>f (v.l 0 0) (v.s 4 0) (qwd K) n) (fun v f K=>qhx (v.l 0 0) (v.s 4 0) (v.i 20 0) f (qwd K)) (fun f v=>f (v.i 20 0)) (fun k v=>(fun z0=>k (v.ui 20 0 z0)))
def qpf (v0:LA)(v1:LU):Option Bool:=
 (q17 v0 v1 (fun(_:Unit)=>(some false)) FU (0:Int))
def qn9:=hull qpf
theorem qbjr:qn9=qpf:=qa _
def qvw {R:Type}:EntF Tryz.prog R:=entB (nt:=18) (dec:=decB) (enc:=AV.bool) tabOk follows Tryz.func33 [.t 4] hdeB (.s .z (.s (.s .z (.b (.sub [.sel [0,1,5] []] qbdq []))) .z)) S84_ qpf (fun f v=>f (v.l 0 0) (v.s 4 0))
def S112_:Shp:=⟨[(1,.one (.ptr 0 0)),(5,.one (.l (.i .i64)))],[.box true (lk qbx)]⟩
def S113_:Shp:=⟨[(1,.one (.ptr 0 0)),(6,.one (.l (.i .i64)))],[.box true (lk qbx)]⟩
def q8l (v5:Int)(Av Aw Ax:LA)(K:Ex->Env->Mem->Option Int):=(fun z_v55=>K .norm (qk [(1,(.ptr 0 0)),(5,(.int .i64 v5)),(55,(.bool z_v55))]) (qh [(some (.box true (qby Av Aw Ax)))]))
def qkp (v5:Int)(Av Aw Ax:LA)(kn:Bool->Option Int):Option Int:=
 (oB (ixB Ax v5) fun y1=>(bif fitC [.s] y1.cells then(oB (qn8 (gS y1.cells 0)) fun r2=>(bif(!r2)then(kn true)else(bif(decide (v5>0))then(oB (ixB Ax (IntKind.i64.wrap (v5-1))) fun y3=>(bif fitC [.s] y3.cells then(oB (ixB Ax v5) fun y4=>(bif fitC [.s] y4.cells then(oB (qpc (gS y3.cells 0) (gS y4.cells 0)) fun r5=>(kn (decide (r5>=0))))else none))else none))else(kn false))))else none))
def qsn:=hull (qkp)
theorem q8m:qsn=qkp:=qa _
def qbap:SubB Tryz.prog (TIof Tryz.prog) 83 0 (kret [.t 2] (decI .i64)):=jnB tabOk follows Tryz.f12 4399 (.d [] [(3,.e 33 [.s]),(5,.c qvu.b),(15,.e 45 [.s]),(20,.e 50 [.s])] [(0,.c q0k.b)] [.sel [1,5,55] [0]]) S112_ (qkp) (fun f v K=>f (v.i 20 0) (v.l 3 0) (v.l 3 1) (v.l 3 2) (q8l (v.i 20 0) (v.l 3 0) (v.l 3 1) (v.l 3 2) K))
def qus (Av Aw Ax:LA)(K:Ex->Env->Mem->Option Int):=(fun(_:Unit)=>K (.exit 0) (qk [(1,(.ptr 0 0))]) (qh [(some (.box true (qby Av Aw Ax)))]))
def qgt (v5:Int)(Av Aw Ax:LA)(next:Int->Option Int)(kx0:Unit->Option Int):Option Int:=
 (bif(decide (v5<(Ax.length:Int)))then(qsn v5 Av Aw Ax (fun v55q1=>(bif v55q1 then(some (2:Int))else(next (IntKind.i64.wrap (v5+1))))))else(kx0 ()))
def qgu (Av Aw Ax:LA)(kx0:Unit->Option Int):Nat->Int->Option Int
 |0=>(fun _=>none)
 |n+1=>(fun v5=>qgt v5 Av Aw Ax (qgu Av Aw Ax kx0 n) kx0)
def q0n:=hull (qgu)
theorem q8n:q0n=qgu:=qa _
def qbaq:SubB Tryz.prog (TIof Tryz.prog) 83 0 (kret [.t 2] (decI .i64)):=lpB tabOk follows Tryz.f12 303 (.s (.s .z (.s .z (.v [.sel [1] [0]]))) (.s (.b (.s (.sub [.sel [1,5] [0]] qbap []) .z)) (.v [.sel [1,5] [0]]))) S112_ (qgu) (fun f v K n=>f (v.l 3 0) (v.l 3 1) (v.l 3 2) (qus (v.l 3 0) (v.l 3 1) (v.l 3 2) K) n) (fun v f K=>qgt (v.i 20 0) (v.l 3 0) (v.l 3 1) (v.l 3 2) f (qus (v.l 3 0) (v.l 3 1) (v.l 3 2) K)) (fun f v=>f (v.i 20 0)) (fun k v=>(fun z0=>k (v.ui 20 0 z0)))
def qut (K:Ex->Env->Mem->Option Int):=(fun(_:Unit)=>K (.exit 2) (qk []) (qh []))
def qgv (v6:Int)(Av Aw Ax:LA)(next:Int->Option Int)(kx2:Unit->Option Int):Option Int:=
 (bif(decide (v6<(Aw.length:Int)))then(oB (ixB Aw v6) fun y1=>(bif fitC qi y1.cells then(oB (qk9 Av (gB y1.cells 1) (gI y1.cells 2) (gI y1.cells 3)) fun r2=>(bif(!r2)then(some (25:Int))else(oB (ixB Aw v6) fun y3=>(bif fitC qi y3.cells then(oB (qn9 Ax (gS y3.cells 0)) fun r4=>(bif(!r4)then(some (13:Int))else(next (IntKind.i64.wrap (v6+1)))))else none))))else none))else(kx2 ()))
def qgw (Av Aw Ax:LA)(kx2:Unit->Option Int):Nat->Int->Option Int
 |0=>(fun _=>none)
 |n+1=>(fun v6=>qgv v6 Av Aw Ax (qgw Av Aw Ax kx2 n) kx2)
def qso:=hull (qgw)
theorem q8o:qso=qgw:=qa _
def qbar:SubB Tryz.prog (TIof Tryz.prog) 83 0 (kret [.t 2] (decI .i64)):=lpB tabOk follows Tryz.f12 607 (.s (.s .z (.s .z (.v [.sel [] []]))) (.s (.b (.s (.s (.d [] [(5,.e 68 qi)] [(0,.c qsm.b)] []) .z) (.s (.d [] [(5,.e 78 qi)] [(0,.c qvw.b)] []) .z))) (.v [.sel [1,6] [0]]))) S113_ (qgw) (fun f v K n=>f (v.l 3 0) (v.l 3 1) (v.l 3 2) (qut K) n) (fun v f K=>qgv (v.i 24 0) (v.l 3 0) (v.l 3 1) (v.l 3 2) f (qut K)) (fun f v=>f (v.i 24 0)) (fun k v=>(fun z0=>k (v.ui 24 0 z0)))
def qpg (Aa Ab Ac:LA):Option Int:=
 (oB (qy4 Aa) fun r1=>(bif(r1 != (0:Int))then(some r1)else(oB (qtl Ab) fun r2=>(bif(r2 != (0:Int))then(some r2)else(bif(decide ((Ac.length:Int)>32))then(some (9:Int))else(q0n Aa Ab Ac (fun(_:Unit)=>(qso Aa Ab Ac (fun(_:Unit)=>(some (0:Int))) FU (0:Int))) FU (0:Int)))))))
def qy6:=hull qpg
theorem qbjs:qy6=qpg:=qa _
def qblr {R:Type}:EntF Tryz.prog R:=entB (nt:=83) (dec:=(decI .i64)) (enc:=(AV.int .i64)) tabOk follows Tryz.func12 [.t 2] hdeI (.s .z (.s (.s (.r [(2,.c qbln.b)] []) .z) (.s (.s (.r [(2,.c q3u.b)] []) .z) (.s .z (.s (.s .z (.b (.sub [.sel [1,5] [0]] qbaq []))) (.s (.s .z (.b (.sub [.sel [1,6] [0]] qbar []))) .z)))))) S4_ qpg (fun f v=>f (v.l 1 0) (v.l 1 1) (v.l 1 2))
def S114_:Shp:=⟨[(1,.one (.ptr 0 0)),(2,.one (.ptr 1 0)),(3,.one (.ptr 2 0))],[.box true (lk qd2),.box true (lk qd2),.box true (lk qd2)]⟩
def qbdr (Ad:Int)(Ae:Bool)(Af Ag Ah Ai:Int)(Aj Ak:LU)(Al Am An:Int)(Ao:LU)(Ap:Bool)(Aq Ar As:Int)(At:LU)(Au:Int)(K:Ex->Env->Mem->Option AV):=(fun z_b1_1 z_b1_2 z_b1_3 z_b1_4 z_b1_5 z_b1_6 z_b1_7 z_b1_8 z_b1_9 z_b1_10 z_b1_11 z_b1_12 z_b1_13 z_b1_14 z_b1_15 z_b1_16=>K .norm (qk [(2,(.ptr 0 0)),(3,(.ptr 1 0))]) (qh [(some (.box true (qgd Ad Ae Af Ag Ah Ai Aj Ak Al Am An Ao Ap Aq Ar As At))),(some (.box true (qgd Au z_b1_1 z_b1_2 z_b1_3 z_b1_4 z_b1_5 z_b1_6 z_b1_7 z_b1_8 z_b1_9 z_b1_10 z_b1_11 z_b1_12 z_b1_13 z_b1_14 z_b1_15 z_b1_16)))]))
def qmq (Av:Int)(Aw:Bool)(Ax Ay Az A0:Int)(A1 A2:LU)(A3 A4 A5:Int)(A6:LU)(A7:Bool)(A8 A9 Ba:Int)(Bb:LU)(Ad:Int)(Ae:Bool)(Af Ag Ah Ai:Int)(Aj Ak:LU)(Al Am An:Int)(Ao:LU)(Ap:Bool)(Aq Ar As:Int)(At:LU)(Au:Int)(Bc:Bool)(Bd Be Bf Bg:Int)(Bh Bi:LU)(Bj Bl Bm:Int)(Bn:LU)(Bo:Bool)(Bp Bq Br:Int)(Bs:LU)(kn:Bool->Int->Int->Int->Int->(List UInt8)->(List UInt8)->Int->Int->Int->(List UInt8)->Bool->Int->Int->Int->(List UInt8)->Option AV):Option AV:=
 (bif(Av==1)then(kn Aw Ax Ay Az A0 A1 A2 A3 Bl Bm Bn Bo Bp Bq Br Bs)else(bif(Av==2)then(kn Aw Ax Ay Az Bg Bh Bi Bj Bl Bm Bn Bo Bp Bq Br Bs)else(bif(Av==3)then(kn Aw Ax Ay Az Bg A1 A2 Bj A4 A5 Bn Bo Bp Bq Br Bs)else(bif(Av==4)then(kn Bc Bd Be Bf Bg Bh Bi Bj Bl Bm A6 A7 A8 A9 Ba Bs)else(bif(Av==5)then(kn Bc Bd Be Bf Bg Bh Bi Bj Bl Bm A6 A7 A8 A9 Br Bs)else(bif(Av==6)then(kn Bc Bd Be Bf Bg Bh Bi Bj Bl Bm A6 A7 A8 A9 Br Bb)else(kn Bc Bd Be Bf Bg Bh Bi Bj Bl Bm Bn Bo Bp Bq Br Bs)))))))
def q3v:=hull (qmq)
theorem qbds:q3v=qmq:=qa _
def qbfz:SubB Tryz.prog (TIof Tryz.prog) 77 0 (kret [(.cell 2 true 17)] (decT [(.i .i64),.b,(.i .u64),(.i .u64),(.i .i64),(.i .i64),.s,.s,(.i .i64),(.i .i64),(.i .i64),.s,.b,(.i .u64),(.i .u64),(.i .i64),.s])):=jnB tabOk follows Tryz.f46 23 (.s .z (.b (.s .z (.s (.v [.sel [2,3] [1,2]]) (.s .z (.s (.v [.sel [2,3] [1,2]]) (.s .z (.s (.s .z (.s .z (.s .z (.s .z (.v [.sel [2,3] [1,2]]))))) (.s .z (.s (.v [.sel [2,3] [1,2]]) (.s .z (.s (.s .z (.v [.sel [2,3] [1,2]])) (.s .z (.s (.s .z (.s .z (.v [.sel [2,3] [1,2]]))) (.v [.sel [2,3] [1,2]]))))))))))))))) S114_ (qmq) (fun f v K=>f (v.i 3 0) (v.b 3 1) (v.i 3 2) (v.i 3 3) (v.i 3 4) (v.i 3 5) (v.s 3 6) (v.s 3 7) (v.i 3 8) (v.i 3 9) (v.i 3 10) (v.s 3 11) (v.b 3 12) (v.i 3 13) (v.i 3 14) (v.i 3 15) (v.s 3 16) (v.i 7 0) (v.b 7 1) (v.i 7 2) (v.i 7 3) (v.i 7 4) (v.i 7 5) (v.s 7 6) (v.s 7 7) (v.i 7 8) (v.i 7 9) (v.i 7 10) (v.s 7 11) (v.b 7 12) (v.i 7 13) (v.i 7 14) (v.i 7 15) (v.s 7 16) (v.i 11 0) (v.b 11 1) (v.i 11 2) (v.i 11 3) (v.i 11 4) (v.i 11 5) (v.s 11 6) (v.s 11 7) (v.i 11 8) (v.i 11 9) (v.i 11 10) (v.s 11 11) (v.b 11 12) (v.i 11 13) (v.i 11 14) (v.i 11 15) (v.s 11 16) (qbdr (v.i 7 0) (v.b 7 1) (v.i 7 2) (v.i 7 3) (v.i 7 4) (v.i 7 5) (v.s 7 6) (v.s 7 7) (v.i 7 8) (v.i 7 9) (v.i 7 10) (v.s 7 11) (v.b 7 12) (v.i 7 13) (v.i 7 14) (v.i 7 15) (v.s 7 16) (v.i 11 0) K))
def qrn (Aa:Int)(Ab:Bool)(Ac Bt Bu Bv:Int)(Bw Bx:LU)(By Bz B0:Int)(B1:LU)(B2:Bool)(B3 B4 B5:Int)(B6:LU):Option AV:=
 (q3v Aa Ab Ac Bt Bu Bv Bw Bx By Bz B0 B1 B2 B3 B4 B5 B6 (0:Int) false (0:Int) (0:Int) (0:Int) (0:Int) ([]:List UInt8) ([]:List UInt8) (0:Int) (0:Int) (0:Int) ([]:List UInt8) false (0:Int) (0:Int) (0:Int) ([]:List UInt8) Aa false (0:Int) (0:Int) (0:Int) (0:Int) ([]:List UInt8) ([]:List UInt8) (0:Int) (0:Int) (0:Int) ([]:List UInt8) false (0:Int) (0:Int) (0:Int) ([]:List UInt8) (fun b1_1q1 b1_2q2 b1_3q3 b1_4q4 b1_5q5 b1_6q6 b1_7q7 b1_8q8 b1_9q9 b1_10q10 b1_11q11 b1_12q12 b1_13q13 b1_14q14 b1_15q15 b1_16q16=>(some (.agg [(.int .i64 Aa),(.bool b1_1q1),(.int .u64 b1_2q2),(.int .u64 b1_3q3),(.int .i64 b1_4q4),(.int .i64 b1_5q5),(.str b1_6q6),(.str b1_7q7),(.int .i64 b1_8q8),(.int .i64 b1_9q9),(.int .i64 b1_10q10),(.str b1_11q11),(.bool b1_12q12),(.int .u64 b1_13q13),(.int .u64 b1_14q14),(.int .i64 b1_15q15),(.str b1_16q16)]))))
def q1m:=hull qrn
theorem qbls:q1m=qrn:=qa _
def qbne {R:Type}:EntF Tryz.prog R:=entB (nt:=77) (dec:=(decT [(.i .i64),.b,(.i .u64),(.i .u64),(.i .i64),(.i .i64),.s,.s,(.i .i64),(.i .i64),(.i .i64),.s,.b,(.i .u64),(.i .u64),(.i .i64),.s])) (enc:=(qcp (.st [(.i .i64),.b,(.i .u64),(.i .u64),(.i .i64),(.i .i64),.s,.s,(.i .i64),(.i .i64),(.i .i64),.s,.b,(.i .u64),(.i .u64),(.i .i64),.s]))) tabOk follows Tryz.func46 [(.cell 2 true 17)] hdeT (.s .z (.s .z (.s .z (.s (.sub [.sel [1,2,3] [0,1,2]] qbfz []) .z)))) S3_ qrn (fun f v=>f (v.i 1 0) (v.b 1 1) (v.i 1 2) (v.i 1 3) (v.i 1 4) (v.i 1 5) (v.s 1 6) (v.s 1 7) (v.i 1 8) (v.i 1 9) (v.i 1 10) (v.s 1 11) (v.b 1 12) (v.i 1 13) (v.i 1 14) (v.i 1 15) (v.s 1 16))
def S115_:Shp:=⟨[(0,.one (.l (.sl 8))),(3,.one (.ptr 0 0)),(4,.one (.ptr 1 0)),(6,.one (.l (.i .i64)))],[.box true (lk qe),.box true (lk qb)]⟩
def q18:AV->Option (AV×Bool):=decN [(.st [.b,(.i .u64),(.i .u64),(.i .i64),(.i .i64),.s,.s,(.i .i64)]),(.one .b)] fun z=>((gC (tpL z) 0),aB (gC (tpL z) 1))
def qxp (Ad:Bool)(Ae Af Ag Ah:Int)(Ai Aj:LU)(Ak:Int)(K:Ex->Env->Mem->Option (AV×Bool)):=(fun(_:Unit)=>K (.exit 0) (qk [(4,(.ptr 0 0))]) (qh [(some (.box true (qn Ad Ae Af Ag Ah Ai Aj Ak)))]))
def qi7 (v0:LA)(v6:Int)(Av:Bool)(Aw Ax Ay:Int)(Ad:Bool)(Ae Af Ag Ah:Int)(Ai Aj:LU)(Ak:Int)(next:Int->Option (AV×Bool))(kx0:Unit->Option (AV×Bool)):Option (AV×Bool):=
 (bif(decide (v6<(v0.length:Int)))then(oB (ixB v0 v6) fun y1=>(bif fitC qb y1.cells then(bif(((gB y1.cells 0)==Av)&&(((gI y1.cells 1)==Aw)&&(((gI y1.cells 2)==Ax)&&(((gI y1.cells 3)==Ay)&&true))))then(oB (ixB v0 v6) fun y2=>(bif fitC qb y2.cells then(some ((.agg [(.bool (gB y2.cells 0)),(.int .u64 (gI y2.cells 1)),(.int .u64 (gI y2.cells 2)),(.int .i64 (gI y2.cells 3)),(.int .i64 (gI y2.cells 4)),(.str (gS y2.cells 5)),(.str (gS y2.cells 6)),(.int .i64 (gI y2.cells 7))]),true))else none))else(next (IntKind.i64.wrap (v6+1))))else none))else(kx0 ()))
def qi8 (v0:LA)(Av:Bool)(Aw Ax Ay:Int)(Ad:Bool)(Ae Af Ag Ah:Int)(Ai Aj:LU)(Ak:Int)(kx0:Unit->Option (AV×Bool)):Nat->Int->Option (AV×Bool)
 |0=>(fun _=>none)
 |n+1=>(fun v6=>qi7 v0 v6 Av Aw Ax Ay Ad Ae Af Ag Ah Ai Aj Ak (qi8 v0 Av Aw Ax Ay Ad Ae Af Ag Ah Ai Aj Ak kx0 n) kx0)
def qvx:=hull (qi8)
theorem qbdt:qvx=qi8:=qa _
def qbf0:SubB Tryz.prog (TIof Tryz.prog) 25 0 (kret [(.cell 4 true 8),.t 5] q18):=lpB tabOk follows Tryz.f54 37 (.s (.s .z (.s .z (.v [.sel [4] [1]]))) (.s (.b (.s (.d [] [(2,.e 15 qb)] [] []) (.s (.s (.r [(2,.p (.etac 22 qb))] []) .z) .z))) (.v [.sel [0,3,4,6] [0,1]]))) S115_ (qi8) (fun f v K n=>f (v.l 0 0) (v.b 3 0) (v.i 3 1) (v.i 3 2) (v.i 3 3) (v.b 7 0) (v.i 7 1) (v.i 7 2) (v.i 7 3) (v.i 7 4) (v.s 7 5) (v.s 7 6) (v.i 7 7) (qxp (v.b 7 0) (v.i 7 1) (v.i 7 2) (v.i 7 3) (v.i 7 4) (v.s 7 5) (v.s 7 6) (v.i 7 7) K) n) (fun v f K=>qi7 (v.l 0 0) (v.i 24 0) (v.b 3 0) (v.i 3 1) (v.i 3 2) (v.i 3 3) (v.b 7 0) (v.i 7 1) (v.i 7 2) (v.i 7 3) (v.i 7 4) (v.s 7 5) (v.s 7 6) (v.i 7 7) f (qxp (v.b 7 0) (v.i 7 1) (v.i 7 2) (v.i 7 3) (v.i 7 4) (v.s 7 5) (v.s 7 6) (v.i 7 7) K)) (fun f v=>f (v.i 24 0)) (fun k v=>(fun z0=>k (v.ui 24 0 z0)))
def qro (v0:LA)(B7:Bool)(B8 B9 Ca:Int):Option (AV×Bool):=
 (qvx v0 B7 B8 B9 Ca false (0:Int) (0:Int) (0:Int) (0:Int) ([]:List UInt8) ([]:List UInt8) (0:Int) (fun(_:Unit)=>(some ((.agg [(.bool false),(.int .u64 (0:Int)),(.int .u64 (0:Int)),(.int .i64 (0:Int)),(.int .i64 (0:Int)),(.str ([]:List UInt8)),(.str ([]:List UInt8)),(.int .i64 (0:Int))]),false))) FU (0:Int))
def ql0:=hull qro
theorem qblt:ql0=qro:=qa _
def qrp {R:Type}:EntF Tryz.prog R:=entB (nt:=25) (dec:=q18) (enc:=(fun r=>.tup [qcp (.st [.b,(.i .u64),(.i .u64),(.i .i64),(.i .i64),.s,.s,(.i .i64)]) r.1,.bool r.2])) tabOk follows Tryz.func54 [(.cell 4 true 8),.t 5] (hdeN fun _=>rfl) (.s .z (.s (.s .z (.b (.sub [.sel [0,3,4,6] [0,1]] qbf0 []))) .z)) S16_ qro (fun f v=>f (v.l 0 0) (v.b 5 0) (v.i 5 1) (v.i 5 2) (v.i 5 3))
def S116_:Shp:=⟨[(0,.one (.l (.sl 8))),(3,.one (.ptr 0 0)),(5,.one (.own 1)),(6,.one (.l .b)),(7,.one (.l (.i .i64)))],[.box true (lk qb),.arr true 8]⟩
def qbdu (v0:LA)(v6:Bool)(v7:Int)(Av:Bool)(Aw Ax Ay Az:Int)(A0 A1:LU)(A2:Int)(a1:LA)(K:Ex->Env->Mem->Option (List AV)):=(fun z_v26=>K .norm (qk [(0,(.sl 8 v0)),(3,(.ptr 0 0)),(5,(.own 1 a1.length)),(6,(.bool v6)),(7,(.int .i64 v7)),(26,(.bool z_v26))]) (qh [(some (.box true (qn Av Aw Ax Ay Az A0 A1 A2))),(some (.arr true 8 a1))]))
def qmr (v0:LA)(v6:Bool)(v7:Int)(Av:Bool)(Aw Ax Ay Az:Int)(A0 A1:LU)(A2:Int)(a1:LA)(kn:Bool->Option (List AV)):Option (List AV):=
 (bif(!v6)then(oB (ixB v0 v7) fun y1=>(bif fitC qb y1.cells then(oB (qo6 (gB y1.cells 0) (gI y1.cells 1) (gI y1.cells 2) (gI y1.cells 3) Av Aw Ax Ay) fun r2=>(kn (decide (r2>0))))else none))else(kn false))
def q3w:=hull (qmr)
theorem qbdv:q3w=qmr:=qa _
def qbf1:SubB Tryz.prog (TIof Tryz.prog) 45 0 (kret [.t 4] (decF true 8)):=jnB tabOk follows Tryz.f104 4247 (.d [] [(5,.e 19 qb)] [(0,.c q0e.b)] [.sel [0,3,5,6,7,26] [0,1]]) S116_ (qmr) (fun f v K=>f (v.l 0 0) (v.b 24 0) (v.i 28 0) (v.b 3 0) (v.i 3 1) (v.i 3 2) (v.i 3 3) (v.i 3 4) (v.s 3 5) (v.s 3 6) (v.i 3 7) (v.r 1) (qbdu (v.l 0 0) (v.b 24 0) (v.i 28 0) (v.b 3 0) (v.i 3 1) (v.i 3 2) (v.i 3 3) (v.i 3 4) (v.s 3 5) (v.s 3 6) (v.i 3 7) (v.r 1) K))
def qbdw (v0:LA)(v7:Int)(Av:Bool)(Aw Ax Ay Az:Int)(A0 A1:LU)(A2:Int)(K:Ex->Env->Mem->Option (List AV)):=(fun z_v6 z_a1=>K .norm (qk [(0,(.sl 8 v0)),(3,(.ptr 0 0)),(5,(.own 1 z_a1.length)),(6,(.bool z_v6)),(7,(.int .i64 v7))]) (qh [(some (.box true (qn Av Aw Ax Ay Az A0 A1 A2))),(some (.arr true 8 z_a1))]))
def qms (v0:LA)(v6:Bool)(v7:Int)(Av:Bool)(Aw Ax Ay Az:Int)(A0 A1:LU)(A2:Int)(a1:LA)(kn:Bool->(List AV)->Option (List AV)):Option (List AV):=
 (bif(hd a1 (a1.length)&&true)then(q3w v0 v6 v7 Av Aw Ax Ay Az A0 A1 A2 a1 (fun v26q1=>(bif v26q1 then(bif hd a1 a1.length then(bif hd ([(.agg [(.bool Av),(.int .u64 Aw),(.int .u64 Ax),(.int .i64 Ay),(.int .i64 Az),(.str A0),(.str A1),(.int .i64 A2)])]:List AV) (([(.agg [(.bool Av),(.int .u64 Aw),(.int .u64 Ax),(.int .i64 Ay),(.int .i64 Az),(.str A0),(.str A1),(.int .i64 A2)])]:List AV).length)then(bif decide ((a1.length+([(.agg [(.bool Av),(.int .u64 Aw),(.int .u64 Ax),(.int .i64 Ay),(.int .i64 Az),(.str A0),(.str A1),(.int .i64 A2)])]:List AV).length)*80<=140737488355328)then(kn true (a1++([(.agg [(.bool Av),(.int .u64 Aw),(.int .u64 Ax),(.int .i64 Ay),(.int .i64 Az),(.str A0),(.str A1),(.int .i64 A2)])]:List AV)))else none)else none)else none)else(kn v6 a1))))else none)
def qvy:=hull (qms)
theorem qbdx:qvy=qms:=qa _
def qbf2:SubB Tryz.prog (TIof Tryz.prog) 45 0 (kret [.t 4] (decF true 8)):=jnB tabOk follows Tryz.f104 2199 (.s (.sub [.sel [0,3,5,6,7] [0,1]] qbf1 []) (.s (.s .z (.v [.sel [0,3,5,6,7] [0,1]])) (.v [.sel [0,3,5,6,7] [0,1]]))) S116_ (qms) (fun f v K=>f (v.l 0 0) (v.b 24 0) (v.i 28 0) (v.b 3 0) (v.i 3 1) (v.i 3 2) (v.i 3 3) (v.i 3 4) (v.s 3 5) (v.s 3 6) (v.i 3 7) (v.r 1) (qbdw (v.l 0 0) (v.i 28 0) (v.b 3 0) (v.i 3 1) (v.i 3 2) (v.i 3 3) (v.i 3 4) (v.s 3 5) (v.s 3 6) (v.i 3 7) K))
def qxq (Av:Bool)(Aw Ax Ay Az:Int)(A0 A1:LU)(A2:Int)(K:Ex->Env->Mem->Option (List AV)):=(fun z_v6 z_a1=>K (.exit 0) (qk [(3,(.ptr 0 0)),(5,(.own 1 z_a1.length)),(6,(.bool z_v6))]) (qh [(some (.box true (qn Av Aw Ax Ay Az A0 A1 A2))),(some (.arr true 8 z_a1))]))
def qfu (v0:LA)(v6:Bool)(v7:Int)(Av:Bool)(Aw Ax Ay Az:Int)(A0 A1:LU)(A2:Int)(a1:LA)(next:Bool->Int->(List AV)->Option (List AV))(kx0:Bool->(List AV)->Option (List AV)):Option (List AV):=
 (bif(decide (v7<(v0.length:Int)))then(bif(hd a1 (a1.length)&&true)then(qvy v0 v6 v7 Av Aw Ax Ay Az A0 A1 A2 a1 (fun v6q1 a1q2=>(oB (ixB v0 v7) fun y3=>(bif fitC qb y3.cells then(bif hd a1q2 a1q2.length then(bif hd ([(.agg [(.bool (gB y3.cells 0)),(.int .u64 (gI y3.cells 1)),(.int .u64 (gI y3.cells 2)),(.int .i64 (gI y3.cells 3)),(.int .i64 (gI y3.cells 4)),(.str (gS y3.cells 5)),(.str (gS y3.cells 6)),(.int .i64 (gI y3.cells 7))])]:List AV) (([(.agg [(.bool (gB y3.cells 0)),(.int .u64 (gI y3.cells 1)),(.int .u64 (gI y3.cells 2)),(.int .i64 (gI y3.cells 3)),(.int .i64 (gI y3.cells 4)),(.str (gS y3.cells 5)),(.str (gS y3.cells 6)),(.int .i64 (gI y3.cells 7))])]:List AV).length)then(bif decide ((a1q2.length+([(.agg [(.bool (gB y3.cells 0)),(.int .u64 (gI y3.cells 1)),(.int .u64 (gI y3.cells 2)),(.int .i64 (gI y3.cells 3)),(.int .i64 (gI y3.cells 4)),(.str (gS y3.cells 5)),(.str (gS y3.cells 6)),(.int .i64 (gI y3.cells 7))])]:List AV).length)*80<=140737488355328)then(next v6q1 (IntKind.i64.wrap (v7+1)) (a1q2++([(.agg [(.bool (gB y3.cells 0)),(.int .u64 (gI y3.cells 1)),(.int .u64 (gI y3.cells 2)),(.int .i64 (gI y3.cells 3)),(.int .i64 (gI y3.cells 4)),(.str (gS y3.cells 5)),(.str (gS y3.cells 6)),(.int .i64 (gI y3.cells 7))])]:List AV)))else none)else none)else none)else none))))else none)else(kx0 v6 a1))
def qfv (v0:LA)(Av:Bool)(Aw Ax Ay Az:Int)(A0 A1:LU)(A2:Int)(kx0:Bool->(List AV)->Option (List AV)):Nat->Bool->Int->(List AV)->Option (List AV)
 |0=>(fun _ _ _=>none)
 |n+1=>(fun v6 v7 a1=>qfu v0 v6 v7 Av Aw Ax Ay Az A0 A1 A2 a1 (qfv v0 Av Aw Ax Ay Az A0 A1 A2 kx0 n) kx0)
def q3x:=hull (qfv)
theorem qbdy:q3x=qfv:=qa _
def qbf3:SubB Tryz.prog (TIof Tryz.prog) 45 0 (kret [.t 4] (decF true 8)):=lpB tabOk follows Tryz.f104 151 (.s (.s .z (.s .z (.v [.sel [3,5,6] [0,1]]))) (.s (.b (.s (.sub [.sel [0,3,5,6,7] [0,1]] qbf2 []) (.r [(3,.p (.etac 34 qb))] []))) (.v [.sel [0,3,5,6,7] [0,1]]))) S116_ (qfv) (fun f v K n=>f (v.l 0 0) (v.b 3 0) (v.i 3 1) (v.i 3 2) (v.i 3 3) (v.i 3 4) (v.s 3 5) (v.s 3 6) (v.i 3 7) (qxq (v.b 3 0) (v.i 3 1) (v.i 3 2) (v.i 3 3) (v.i 3 4) (v.s 3 5) (v.s 3 6) (v.i 3 7) K) n) (fun v f K=>qfu (v.l 0 0) (v.b 24 0) (v.i 28 0) (v.b 3 0) (v.i 3 1) (v.i 3 2) (v.i 3 3) (v.i 3 4) (v.s 3 5) (v.s 3 6) (v.i 3 7) (v.r 1) f (qxq (v.b 3 0) (v.i 3 1) (v.i 3 2) (v.i 3 3) (v.i 3 4) (v.s 3 5) (v.s 3 6) (v.i 3 7) K)) (fun f v=>f (v.b 24 0) (v.i 28 0) (v.r 1)) (fun k v=>(fun z0 z1 z2=>k (((v.ub 24 0 z0).ui 28 0 z1).ur 1 z2)))
def qtm (v0:LA)(B7:Bool)(B8 B9 Ca Cb:Int)(Cc Cd:LU)(Ce:Int):Option (List AV):=
 (bif(hd ([]:List AV) (([]:List AV).length)&&true)then(q3x v0 B7 B8 B9 Ca Cb Cc Cd Ce (fun v6q1 a1q2=>(bif(!v6q1)then(bif hd a1q2 a1q2.length then(bif hd ([(.agg [(.bool B7),(.int .u64 B8),(.int .u64 B9),(.int .i64 Ca),(.int .i64 Cb),(.str Cc),(.str Cd),(.int .i64 Ce)])]:List AV) (([(.agg [(.bool B7),(.int .u64 B8),(.int .u64 B9),(.int .i64 Ca),(.int .i64 Cb),(.str Cc),(.str Cd),(.int .i64 Ce)])]:List AV).length)then(bif decide ((a1q2.length+([(.agg [(.bool B7),(.int .u64 B8),(.int .u64 B9),(.int .i64 Ca),(.int .i64 Cb),(.str Cc),(.str Cd),(.int .i64 Ce)])]:List AV).length)*80<=140737488355328)then(bif hd (a1q2++([(.agg [(.bool B7),(.int .u64 B8),(.int .u64 B9),(.int .i64 Ca),(.int .i64 Cb),(.str Cc),(.str Cd),(.int .i64 Ce)])]:List AV)) ((a1q2++([(.agg [(.bool B7),(.int .u64 B8),(.int .u64 B9),(.int .i64 Ca),(.int .i64 Cb),(.str Cc),(.str Cd),(.int .i64 Ce)])]:List AV)).length)then(some (a1q2++([(.agg [(.bool B7),(.int .u64 B8),(.int .u64 B9),(.int .i64 Ca),(.int .i64 Cb),(.str Cc),(.str Cd),(.int .i64 Ce)])]:List AV)))else none)else none)else none)else none)else(bif hd a1q2 a1q2.length then(some a1q2)else none))) FU false (0:Int) ([]:List AV))else none)
def q3y:=hull qtm
theorem qbnf:q3y=qtm:=qa _
def qbp3 {R:Type}:EntF Tryz.prog R:=entB (nt:=45) (dec:=(decF true 8)) (enc:=(AV.fr true 8)) tabOk follows Tryz.func104 [.t 4] hdeF (.s .z (.s .z (.s .z (.s (.s .z (.b (.sub [.own 5 8,.sel [0,3,5,6,7] [0,1]] qbf3 []))) .z)))) S25_ qtm (fun f v=>f (v.l 0 0) (v.b 5 0) (v.i 5 1) (v.i 5 2) (v.i 5 3) (v.i 5 4) (v.s 5 5) (v.s 5 6) (v.i 5 7))
def S117_:Shp:=⟨[(0,.one (.l (.sl 8))),(3,.one (.ptr 0 0)),(8,.one (.l (.i .i64)))],[.box true (lk qb)]⟩
def q3z:AV->Option ((List AV)×Int):=decN [(.one (.sl 8)),(.one (.i .i64))] fun z=>(aL (gC (tpL z) 0),aI (gC (tpL z) 1))
def qxr (v0:LA)(Av:Bool)(Aw Ax Ay Az:Int)(A0 A1:LU)(A2:Int)(K:Ex->Env->Mem->Option ((List AV)×Int)):=(fun(_:Unit)=>K (.exit 0) (qk [(0,(.sl 8 v0)),(3,(.ptr 0 0))]) (qh [(some (.box true (qn Av Aw Ax Ay Az A0 A1 A2)))]))
def qi9 (v0:LA)(v8:Int)(Av:Bool)(Aw Ax Ay Az:Int)(A0 A1:LU)(A2:Int)(next:Int->Option ((List AV)×Int))(kx0:Unit->Option ((List AV)×Int)):Option ((List AV)×Int):=
 (bif(decide (v8<(v0.length:Int)))then(oB (ixB v0 v8) fun y1=>(bif fitC qb y1.cells then(oB (qmi Av Aw Ax Ay Az A0 A1 A2 (gB y1.cells 0) (gI y1.cells 1) (gI y1.cells 2) (gI y1.cells 3) (gI y1.cells 4) (gS y1.cells 5) (gS y1.cells 6) (gI y1.cells 7)) fun r2=>(bif r2 then(some (([]:List AV),(24:Int)))else(oB (ixB v0 v8) fun y3=>(bif fitC qb y3.cells then(oB (qky (gB y3.cells 0) (gI y3.cells 1) (gI y3.cells 2) (gI y3.cells 3) Av Aw Ax Ay) fun r4=>(bif r4 then(some (([]:List AV),(24:Int)))else(next (IntKind.i64.wrap (v8+1)))))else none))))else none))else(kx0 ()))
def qja (v0:LA)(Av:Bool)(Aw Ax Ay Az:Int)(A0 A1:LU)(A2:Int)(kx0:Unit->Option ((List AV)×Int)):Nat->Int->Option ((List AV)×Int)
 |0=>(fun _=>none)
 |n+1=>(fun v8=>qi9 v0 v8 Av Aw Ax Ay Az A0 A1 A2 (qja v0 Av Aw Ax Ay Az A0 A1 A2 kx0 n) kx0)
def qvz:=hull (qja)
theorem qbdz:qvz=qja:=qa _
def qbf4:SubB Tryz.prog (TIof Tryz.prog) 52 0 (kret [.t 4,.t 5] q3z):=lpB tabOk follows Tryz.f47 607 (.s (.s .z (.s .z (.v [.sel [0,3] [0]]))) (.s (.b (.s (.d [] [(3,.e 33 qb),(5,.c q15.b),(9,.e 39 qb)] [(0,.c qlz.b)] []) (.s (.s .z (.v [.eta 4 (.one (.sl 8))])) .z))) (.v [.sel [0,3,8] [0]]))) S117_ (qja) (fun f v K n=>f (v.l 0 0) (v.b 3 0) (v.i 3 1) (v.i 3 2) (v.i 3 3) (v.i 3 4) (v.s 3 5) (v.s 3 6) (v.i 3 7) (qxr (v.l 0 0) (v.b 3 0) (v.i 3 1) (v.i 3 2) (v.i 3 3) (v.i 3 4) (v.s 3 5) (v.s 3 6) (v.i 3 7) K) n) (fun v f K=>qi9 (v.l 0 0) (v.i 32 0) (v.b 3 0) (v.i 3 1) (v.i 3 2) (v.i 3 3) (v.i 3 4) (v.s 3 5) (v.s 3 6) (v.i 3 7) f (qxr (v.l 0 0) (v.b 3 0) (v.i 3 1) (v.i 3 2) (v.i 3 3) (v.i 3 4) (v.s 3 5) (v.s 3 6) (v.i 3 7) K)) (fun f v=>f (v.i 32 0)) (fun k v=>(fun z0=>k (v.ui 32 0 z0)))
def qtn (v0:LA)(B7:Bool)(B8 B9 Ca Cb:Int)(Cc Cd:LU)(Ce:Int):Option ((List AV)×Int):=
 (oB (qfr B7 B8 B9 Ca) fun r1=>(bif(!r1)then(some (([]:List AV),(3:Int)))else(oB (qsf B7 B8 B9 Ca Cb Cc Cd Ce) fun r2=>(bif(!r2)then(some (([]:List AV),(1:Int)))else(oB (ql0 v0 B7 B8 B9 Ca) fun r3=>(bif r3.2 then(some (([]:List AV),(12:Int)))else(qvz v0 B7 B8 B9 Ca Cb Cc Cd Ce (fun(_:Unit)=>(bif(decide ((v0.length:Int)>=512))then(some (([]:List AV),(9:Int)))else(oB (q3y v0 B7 B8 B9 Ca Cb Cc Cd Ce) fun r4=>(some (r4,(0:Int)))))) FU (0:Int))))))))
def qxs:=hull qtn
theorem qbng:qxs=qtn:=qa _
def q8p {R:Type}:EntF Tryz.prog R:=entB (nt:=52) (dec:=q3z) (enc:=(fun r=>.tup [.sl 8 r.1,.int .i64 r.2])) tabOk follows Tryz.func47 [.t 4,.t 5] (hdeN fun _=>rfl) (.s .z (.s (.s (.r [(2,.c qii.b)] []) (.s (.s .z (.v [.eta 4 (.one (.sl 8))])) .z)) (.s (.s (.r [(1,.c q7y.b)] []) (.s (.s .z (.v [.eta 4 (.one (.sl 8))])) .z)) (.s (.r [(3,.c qrp.b)] []) (.s (.s .z (.s (.s .z (.v [.eta 4 (.one (.sl 8))])) .z)) (.s (.s .z (.b (.sub [.sel [0,3,8] [0]] qbf4 []))) (.s (.s .z (.s (.s .z (.v [.eta 4 (.one (.sl 8))])) .z)) (.s (.r [(2,.k qbp3.b)] []) .z)))))))) S25_ qtn (fun f v=>f (v.l 0 0) (v.b 5 0) (v.i 5 1) (v.i 5 2) (v.i 5 3) (v.i 5 4) (v.s 5 5) (v.s 5 6) (v.i 5 7))
def S118_:Shp:=⟨[(0,.one (.l (.sl 8))),(3,.one (.ptr 0 0)),(5,.one (.l (.i .i64)))],[.box true (lk qe)]⟩
def qwe (K:Ex->Env->Mem->Option Bool):=(fun(_:Unit)=>K (.exit 0) (qk []) (qh []))
def qhz (v0:LA)(v5:Int)(Av:Bool)(Aw Ax Ay:Int)(next:Int->Option Bool)(kx0:Unit->Option Bool):Option Bool:=
 (bif(decide (v5<(v0.length:Int)))then(oB (ixB v0 v5) fun y1=>(bif fitC qb y1.cells then(oB (qky (gB y1.cells 0) (gI y1.cells 1) (gI y1.cells 2) (gI y1.cells 3) Av Aw Ax Ay) fun r2=>(bif r2 then(some true)else(next (IntKind.i64.wrap (v5+1)))))else none))else(kx0 ()))
def qh0 (v0:LA)(Av:Bool)(Aw Ax Ay:Int)(kx0:Unit->Option Bool):Nat->Int->Option Bool
 |0=>(fun _=>none)
 |n+1=>(fun v5=>qhz v0 v5 Av Aw Ax Ay (qh0 v0 Av Aw Ax Ay kx0 n) kx0)
def q19:=hull (qh0)
theorem qbas:q19=qh0:=qa _
def qbd0:SubB Tryz.prog (TIof Tryz.prog) 19 0 (kret [.t 4] decB):=lpB tabOk follows Tryz.f105 37 (.s (.s .z (.s .z (.v [.sel [] []]))) (.s (.b (.s (.d [] [(2,.e 14 qb)] [(0,.c qlz.b)] []) .z)) (.v [.sel [0,3,5] [0]]))) S118_ (qh0) (fun f v K n=>f (v.l 0 0) (v.b 3 0) (v.i 3 1) (v.i 3 2) (v.i 3 3) (qwe K) n) (fun v f K=>qhz (v.l 0 0) (v.i 20 0) (v.b 3 0) (v.i 3 1) (v.i 3 2) (v.i 3 3) f (qwe K)) (fun f v=>f (v.i 20 0)) (fun k v=>(fun z0=>k (v.ui 20 0 z0)))
def qph (v0:LA)(B7:Bool)(B8 B9 Ca:Int):Option Bool:=
 (q19 v0 B7 B8 B9 Ca (fun(_:Unit)=>(some false)) FU (0:Int))
def qy7:=hull qph
theorem qbjt:qy7=qph:=qa _
def qblu {R:Type}:EntF Tryz.prog R:=entB (nt:=19) (dec:=decB) (enc:=AV.bool) tabOk follows Tryz.func105 [.t 4] hdeB (.s .z (.s (.s .z (.b (.sub [.sel [0,3,5] [0]] qbd0 []))) .z)) S16_ qph (fun f v=>f (v.l 0 0) (v.b 5 0) (v.i 5 1) (v.i 5 2) (v.i 5 3))
def S119_:Shp:=⟨[(0,.one (.l (.sl 8))),(3,.one (.ptr 0 0)),(5,.one (.own 1)),(6,.one (.l (.i .i64)))],[.box true (lk qe),.arr true 8]⟩
def qtz (K:Ex->Env->Mem->Option (List AV)):=(fun z_a0=>K (.exit 0) (qk [(5,(.own 0 z_a0.length))]) (qh [(some (.arr true 8 z_a0))]))
def qfw (v0:LA)(v6:Int)(Av:Bool)(Aw Ax Ay:Int)(a1:LA)(next:Int->(List AV)->Option (List AV))(kx0:(List AV)->Option (List AV)):Option (List AV):=
 (bif(decide (v6<(v0.length:Int)))then(oB (ixB v0 v6) fun y1=>(bif fitC qb y1.cells then(bif(!(((gB y1.cells 0)==Av)&&(((gI y1.cells 1)==Aw)&&(((gI y1.cells 2)==Ax)&&(((gI y1.cells 3)==Ay)&&true)))))then(oB (ixB v0 v6) fun y2=>(bif fitC qb y2.cells then(bif hd a1 a1.length then(bif hd ([(.agg [(.bool (gB y2.cells 0)),(.int .u64 (gI y2.cells 1)),(.int .u64 (gI y2.cells 2)),(.int .i64 (gI y2.cells 3)),(.int .i64 (gI y2.cells 4)),(.str (gS y2.cells 5)),(.str (gS y2.cells 6)),(.int .i64 (gI y2.cells 7))])]:List AV) (([(.agg [(.bool (gB y2.cells 0)),(.int .u64 (gI y2.cells 1)),(.int .u64 (gI y2.cells 2)),(.int .i64 (gI y2.cells 3)),(.int .i64 (gI y2.cells 4)),(.str (gS y2.cells 5)),(.str (gS y2.cells 6)),(.int .i64 (gI y2.cells 7))])]:List AV).length)then(bif decide ((a1.length+([(.agg [(.bool (gB y2.cells 0)),(.int .u64 (gI y2.cells 1)),(.int .u64 (gI y2.cells 2)),(.int .i64 (gI y2.cells 3)),(.int .i64 (gI y2.cells 4)),(.str (gS y2.cells 5)),(.str (gS y2.cells 6)),(.int .i64 (gI y2.cells 7))])]:List AV).length)*80<=140737488355328)then(next (IntKind.i64.wrap (v6+1)) (a1++([(.agg [(.bool (gB y2.cells 0)),(.int .u64 (gI y2.cells 1)),(.int .u64 (gI y2.cells 2)),(.int .i64 (gI y2.cells 3)),(.int .i64 (gI y2.cells 4)),(.str (gS y2.cells 5)),(.str (gS y2.cells 6)),(.int .i64 (gI y2.cells 7))])]:List AV)))else none)else none)else none)else none))else(next (IntKind.i64.wrap (v6+1)) a1))else none))else(kx0 a1))
def qfx (v0:LA)(Av:Bool)(Aw Ax Ay:Int)(kx0:(List AV)->Option (List AV)):Nat->Int->(List AV)->Option (List AV)
 |0=>(fun _ _=>none)
 |n+1=>(fun v6 a1=>qfw v0 v6 Av Aw Ax Ay a1 (qfx v0 Av Aw Ax Ay kx0 n) kx0)
def qyl:=hull (qfx)
theorem q6v:qyl=qfx:=qa _
def q8q:SubB Tryz.prog (TIof Tryz.prog) 28 0 (kret [.t 4] (decF true 8)):=lpB tabOk follows Tryz.f106 75 (.s (.s .z (.s .z (.v [.sel [5] [1]]))) (.s (.b (.s (.d [] [(2,.e 15 qb)] [] []) (.s (.r [(3,.p (.etac 23 qb))] []) .z))) (.v [.sel [0,3,5,6] [0,1]]))) S119_ (qfx) (fun f v K n=>f (v.l 0 0) (v.b 3 0) (v.i 3 1) (v.i 3 2) (v.i 3 3) (qtz K) n) (fun v f K=>qfw (v.l 0 0) (v.i 24 0) (v.b 3 0) (v.i 3 1) (v.i 3 2) (v.i 3 3) (v.r 1) f (qtz K)) (fun f v=>f (v.i 24 0) (v.r 1)) (fun k v=>(fun z0 z1=>k ((v.ui 24 0 z0).ur 1 z1)))
def qmt (v0:LA)(B7:Bool)(B8 B9 Ca:Int):Option (List AV):=
 (bif(hd ([]:List AV) (([]:List AV).length)&&true)then(qyl v0 B7 B8 B9 Ca (fun a0q1=>(bif hd a0q1 a0q1.length then(some a0q1)else none)) FU (0:Int) ([]:List AV))else none)
def qv0:=hull qmt
theorem qbd1:qv0=qmt:=qa _
def qbf5 {R:Type}:EntF Tryz.prog R:=entB (nt:=28) (dec:=(decF true 8)) (enc:=(AV.fr true 8)) tabOk follows Tryz.func106 [.t 4] hdeF (.s .z (.s .z (.s (.s .z (.b (.sub [.own 5 8,.sel [0,3,5,6] [0,1]] q8q []))) .z))) S16_ qmt (fun f v=>f (v.l 0 0) (v.b 5 0) (v.i 5 1) (v.i 5 2) (v.i 5 3))
def qbd2:AV->Option ((List AV)×Int):=decN [(.one (.sl 8)),(.one (.i .i64))] fun z=>(aL (gC (tpL z) 0),aI (gC (tpL z) 1))
def qnv (v0:LA)(B7:Bool)(B8 B9 Ca:Int):Option ((List AV)×Int):=
 (oB (ql0 v0 B7 B8 B9 Ca) fun r1=>(bif(!r1.2)then(some (([]:List AV),(11:Int)))else(oB (qy7 v0 B7 B8 B9 Ca) fun r2=>(bif r2 then(some (([]:List AV),(25:Int)))else(oB (qv0 v0 B7 B8 B9 Ca) fun r3=>(some (r3,(0:Int))))))))
def qxt:=hull qnv
theorem qbf6:qxt=qnv:=qa _
def qbju {R:Type}:EntF Tryz.prog R:=entB (nt:=22) (dec:=qbd2) (enc:=(fun r=>.tup [.sl 8 r.1,.int .i64 r.2])) tabOk follows Tryz.func48 [.t 4,.t 5] (hdeN fun _=>rfl) (.s .z (.s (.r [(2,.c qrp.b)] []) (.s (.s .z (.s (.s .z (.v [.eta 4 (.one (.sl 8))])) .z)) (.s (.s (.r [(2,.c qblu.b)] []) (.s (.s .z (.v [.eta 4 (.one (.sl 8))])) .z)) (.s (.r [(2,.k qbf5.b)] []) .z))))) S16_ qnv (fun f v=>f (v.l 0 0) (v.b 5 0) (v.i 5 1) (v.i 5 2) (v.i 5 3))
def qnw (Aa:Bool)(Ab Ac Bt:Int):Option Int:=
 (bif Aa then(some (128:Int))else(some (32:Int)))
def qxu:=hull qnw
theorem qbf7:qxu=qnw:=qa _
def qbjv {R:Type}:EntF Tryz.prog R:=entB (nt:=6) (dec:=(decI .i64)) (enc:=(AV.int .i64)) tabOk follows Tryz.func181 [.t 2] hdeI (.z) S8_ qnw (fun f v=>f (v.b 1 0) (v.i 1 1) (v.i 1 2) (v.i 1 3))
def S120_:Shp:=⟨[(0,.st (lk qe)),(1,.one (.l (.i .i64)))],[]⟩
def qkq (Aa:Bool)(Ab Ac Bt v1:Int):Option Bool:=
 (bif(decide (v1>=Bt))then(oB (qxu Aa Ab Ac Bt) fun r1=>(some (decide (v1<=r1))))else(some false))
def q0o:=hull qkq
theorem q8r:q0o=qkq:=qa _
def qbat {R:Type}:EntF Tryz.prog R:=entB (nt:=15) (dec:=decB) (enc:=AV.bool) tabOk follows Tryz.func161 [.t 4] hdeB (.s .z (.s (.r [(7,.c qbjv.b)] []) .z)) S120_ qkq (fun f v=>f (v.b 1 0) (v.i 1 1) (v.i 1 2) (v.i 1 3) (v.i 4 0))
def S121_:Shp:=⟨[(0,.one (.l (.sl 8))),(3,.one (.ptr 0 0)),(5,.one (.own 1)),(6,.one (.l (.i .i64))),(7,.one (.l .b)),(8,.one (.l (.i .i64)))],[.box true (lk qe),.arr true 8]⟩
def qrq (v0:LA)(v6:Int)(Av:Bool)(Aw Ax Ay:Int)(a1:LA)(K:Ex->Env->Mem->Option (List AV)):=(fun z_v7=>K (.exit 2) (qk [(0,(.sl 8 v0)),(3,(.ptr 0 0)),(5,(.own 1 a1.length)),(6,(.int .i64 v6)),(7,(.bool z_v7))]) (qh [(some (.box true (qc Av Aw Ax Ay))),(some (.arr true 8 a1))]))
def qez (v0:LA)(v6:Int)(v7:Bool)(v8:Int)(Av:Bool)(Aw Ax Ay:Int)(a1:LA)(next:Bool->Int->Option (List AV))(kx2:Bool->Option (List AV)):Option (List AV):=
 (bif(decide (v8<(v0.length:Int)))then(oB (ixB v0 v8) fun y1=>(bif fitC qb y1.cells then(oB (qky (gB y1.cells 0) (gI y1.cells 1) (gI y1.cells 2) (gI y1.cells 3) Av Aw Ax Ay) fun r2=>(bif r2 then(oB (ixB v0 v6) fun y3=>(bif fitC qb y3.cells then(oB (ixB v0 v8) fun y4=>(bif fitC qb y4.cells then(oB (qky (gB y3.cells 0) (gI y3.cells 1) (gI y3.cells 2) (gI y3.cells 3) (gB y4.cells 0) (gI y4.cells 1) (gI y4.cells 2) (gI y4.cells 3)) fun r5=>(bif r5 then(next false (IntKind.i64.wrap (v8+1)))else(next v7 (IntKind.i64.wrap (v8+1)))))else none))else none))else(next v7 (IntKind.i64.wrap (v8+1)))))else none))else(kx2 v7))
def qe0 (v0:LA)(v6:Int)(Av:Bool)(Aw Ax Ay:Int)(a1:LA)(kx2:Bool->Option (List AV)):Nat->Bool->Int->Option (List AV)
 |0=>(fun _ _=>none)
 |n+1=>(fun v7 v8=>qez v0 v6 v7 v8 Av Aw Ax Ay a1 (qe0 v0 v6 Av Aw Ax Ay a1 kx2 n) kx2)
def qoa:=hull (qe0)
theorem q30:qoa=qe0:=qa _
def q5a:SubB Tryz.prog (TIof Tryz.prog) 58 0 (kret [.t 4] (decF true 8)):=lpB tabOk follows Tryz.f183 38475 (.s (.s .z (.s .z (.v [.sel [0,3,5,6,7] [0,1]]))) (.s (.b (.s (.d [] [(2,.e 31 qb),(6,.c qlz.b),(10,.e 39 qb),(15,.e 44 qb)] [(0,.c qlz.b)] []) .z)) (.v [.sel [0,3,5,6,7,8] [0,1]]))) S121_ (qe0) (fun f v K n=>f (v.l 0 0) (v.i 24 0) (v.b 3 0) (v.i 3 1) (v.i 3 2) (v.i 3 3) (v.r 1) (qrq (v.l 0 0) (v.i 24 0) (v.b 3 0) (v.i 3 1) (v.i 3 2) (v.i 3 3) (v.r 1) K) n) (fun v f K=>qez (v.l 0 0) (v.i 24 0) (v.b 28 0) (v.i 32 0) (v.b 3 0) (v.i 3 1) (v.i 3 2) (v.i 3 3) (v.r 1) f (qrq (v.l 0 0) (v.i 24 0) (v.b 3 0) (v.i 3 1) (v.i 3 2) (v.i 3 3) (v.r 1) K)) (fun f v=>f (v.b 28 0) (v.i 32 0)) (fun k v=>(fun z0 z1=>k ((v.ub 28 0 z0).ui 32 0 z1)))
def qsp (K:Ex->Env->Mem->Option (List AV)):=(fun z_a0=>K (.exit 0) (qk [(5,(.own 0 z_a0.length))]) (qh [(some (.arr true 8 z_a0))]))
def qfe (v0:LA)(v6:Int)(Av:Bool)(Aw Ax Ay:Int)(a1:LA)(next:Int->(List AV)->Option (List AV))(kx0:(List AV)->Option (List AV)):Option (List AV):=
 (bif(decide (v6<(v0.length:Int)))then(oB (ixB v0 v6) fun y1=>(bif fitC qb y1.cells then(oB (qky (gB y1.cells 0) (gI y1.cells 1) (gI y1.cells 2) (gI y1.cells 3) Av Aw Ax Ay) fun r2=>(bif(!r2)then(next (IntKind.i64.wrap (v6+1)) a1)else(bif(hd a1 (a1.length)&&true)then(qoa v0 v6 Av Aw Ax Ay a1 (fun v7q3=>(bif v7q3 then(oB (ixB v0 v6) fun y4=>(bif fitC qb y4.cells then(bif hd a1 a1.length then(bif hd ([(.agg [(.bool (gB y4.cells 0)),(.int .u64 (gI y4.cells 1)),(.int .u64 (gI y4.cells 2)),(.int .i64 (gI y4.cells 3)),(.int .i64 (gI y4.cells 4)),(.str (gS y4.cells 5)),(.str (gS y4.cells 6)),(.int .i64 (gI y4.cells 7))])]:List AV) (([(.agg [(.bool (gB y4.cells 0)),(.int .u64 (gI y4.cells 1)),(.int .u64 (gI y4.cells 2)),(.int .i64 (gI y4.cells 3)),(.int .i64 (gI y4.cells 4)),(.str (gS y4.cells 5)),(.str (gS y4.cells 6)),(.int .i64 (gI y4.cells 7))])]:List AV).length)then(bif decide ((a1.length+([(.agg [(.bool (gB y4.cells 0)),(.int .u64 (gI y4.cells 1)),(.int .u64 (gI y4.cells 2)),(.int .i64 (gI y4.cells 3)),(.int .i64 (gI y4.cells 4)),(.str (gS y4.cells 5)),(.str (gS y4.cells 6)),(.int .i64 (gI y4.cells 7))])]:List AV).length)*80<=140737488355328)then(next (IntKind.i64.wrap (v6+1)) (a1++([(.agg [(.bool (gB y4.cells 0)),(.int .u64 (gI y4.cells 1)),(.int .u64 (gI y4.cells 2)),(.int .i64 (gI y4.cells 3)),(.int .i64 (gI y4.cells 4)),(.str (gS y4.cells 5)),(.str (gS y4.cells 6)),(.int .i64 (gI y4.cells 7))])]:List AV)))else none)else none)else none)else none))else(next (IntKind.i64.wrap (v6+1)) a1))) FU true (0:Int))else none)))else none))else(kx0 a1))
def qff (v0:LA)(Av:Bool)(Aw Ax Ay:Int)(kx0:(List AV)->Option (List AV)):Nat->Int->(List AV)->Option (List AV)
 |0=>(fun _ _=>none)
 |n+1=>(fun v6 a1=>qfe v0 v6 Av Aw Ax Ay a1 (qff v0 Av Aw Ax Ay kx0 n) kx0)
def qxv:=hull (qff)
theorem q5b:qxv=qff:=qa _
def q6w:SubB Tryz.prog (TIof Tryz.prog) 58 0 (kret [.t 4] (decF true 8)):=lpB tabOk follows Tryz.f183 75 (.s (.s .z (.s .z (.v [.sel [5] [1]]))) (.s (.b (.s (.s (.d [] [(2,.e 17 qb)] [(0,.c qlz.b)] []) .z) (.s .z (.s (.s .z (.b (.sub [.sel [0,3,5,6,7,8] [0,1]] q5a []))) (.s .z (.s (.r [(3,.p (.etac 53 qb))] []) .z)))))) (.v [.sel [0,3,5,6] [0,1]]))) S119_ (qff) (fun f v K n=>f (v.l 0 0) (v.b 3 0) (v.i 3 1) (v.i 3 2) (v.i 3 3) (qsp K) n) (fun v f K=>qfe (v.l 0 0) (v.i 24 0) (v.b 3 0) (v.i 3 1) (v.i 3 2) (v.i 3 3) (v.r 1) f (qsp K)) (fun f v=>f (v.i 24 0) (v.r 1)) (fun k v=>(fun z0 z1=>k ((v.ui 24 0 z0).ur 1 z1)))
def qln (v0:LA)(B7:Bool)(B8 B9 Ca:Int):Option (List AV):=
 (bif(hd ([]:List AV) (([]:List AV).length)&&true)then(qxv v0 B7 B8 B9 Ca (fun a0q1=>(bif hd a0q1 a0q1.length then(some a0q1)else none)) FU (0:Int) ([]:List AV))else none)
def qt9:=hull qln
theorem qbau:qt9=qln:=qa _
def qbd3 {R:Type}:EntF Tryz.prog R:=entB (nt:=58) (dec:=(decF true 8)) (enc:=(AV.fr true 8)) tabOk follows Tryz.func183 [.t 4] hdeF (.s .z (.s .z (.s (.s .z (.b (.sub [.own 5 8,.sel [0,3,5,6] [0,1]] q6w []))) .z))) S16_ qln (fun f v=>f (v.l 0 0) (v.b 5 0) (v.i 5 1) (v.i 5 2) (v.i 5 3))
def qmu (Aa:Bool)(Ab Ac Bt:Int)(B7:Bool)(B8 B9 Ca:Int):Option Bool:=
 (oB (qjn Aa Ab Ac Bt B7 B8 B9 Ca) fun r1=>(bif r1 then(some true)else(oB (qjn B7 B8 B9 Ca Aa Ab Ac Bt) fun r2=>(some r2))))
def qv1:=hull qmu
theorem qbd4:qv1=qmu:=qa _
def q0p {R:Type}:EntF Tryz.prog R:=entB (nt:=13) (dec:=decB) (enc:=AV.bool) tabOk follows Tryz.func192 [.t 4] hdeB (.s .z (.s (.r [(2,.c qka.b),(6,.c qka.b)] []) .z)) S20_ qmu (fun f v=>f (v.b 1 0) (v.i 1 1) (v.i 1 2) (v.i 1 3) (v.b 5 0) (v.i 5 1) (v.i 5 2) (v.i 5 3))
def S122_:Shp:=⟨[(1,.one (.l (.i .i64))),(3,.one (.ptr 0 0)),(6,.one (.ptr 1 0)),(10,.one (.l (.i .u64))),(11,.one (.l (.i .u64))),(12,.one (.l (.i .i64)))],[.box true (lk qe),.box true (lk qe)]⟩
def qua:AV->Option (AV×Bool):=decN [(.st [.b,(.i .u64),(.i .u64),(.i .i64)]),(.one .b)] fun z=>((gC (tpL z) 0),aB (gC (tpL z) 1))
def qbd5 (v1 v2:Int)(Av:Bool)(Aw Ax Ay:Int)(Ad:Bool)(Ae Af Ag:Int)(K:Ex->Env->Mem->Option (AV×Bool)):=(fun z_v30=>K .norm (qk [(1,(.int .i64 v1)),(2,(.int .u64 v2)),(3,(.ptr 0 0)),(6,(.ptr 1 0)),(30,(.bool z_v30))]) (qh [(some (.box true (qc Av Aw Ax Ay))),(some (.box true (qc Ad Ae Af Ag)))]))
def qmv (v1 v2:Int)(Av:Bool)(Aw Ax Ay:Int)(Ad:Bool)(Ae Af Ag:Int)(kn:Bool->Option (AV×Bool)):Option (AV×Bool):=
 (oB (qfr Av Aw Ax Ay) fun r1=>(bif((!r1)||(decide (v1<Ay)))then(kn true)else(oB (qhh Av) fun r2=>(kn (decide (v1>r2))))))
def qv2:=hull (qmv)
theorem qbd6:qv2=qmv:=qa _
def qbf8:SubB Tryz.prog (TIof Tryz.prog) 78 0 (kret [(.cell 6 true 4),.t 7] qua):=jnB tabOk follows Tryz.f165 9 (.r [(1,.c qii.b),(4,.g 4),(14,.c qjm.b)] [.sel [1,2,3,6,30] [0,1]]) S44_ (qmv) (fun f v K=>f (v.i 4 0) (v.i 8 0) (v.b 3 0) (v.i 3 1) (v.i 3 2) (v.i 3 3) (v.b 7 0) (v.i 7 1) (v.i 7 2) (v.i 7 3) (qbd5 (v.i 4 0) (v.i 8 0) (v.b 3 0) (v.i 3 1) (v.i 3 2) (v.i 3 3) (v.b 7 0) (v.i 7 1) (v.i 7 2) (v.i 7 3) K))
def qwf (v1:Int)(Av:Bool)(Aw Ax Ay:Int)(Ad:Bool)(Ae Af Ag:Int)(K:Ex->Env->Mem->Option (AV×Bool)):=(fun z_v10 z_v11=>K (.exit 0) (qk [(1,(.int .i64 v1)),(3,(.ptr 0 0)),(6,(.ptr 1 0)),(10,(.int .u64 z_v10)),(11,(.int .u64 z_v11))]) (qh [(some (.box true (qc Av Aw Ax Ay))),(some (.box true (qc Ad Ae Af Ag)))]))
def qlo (v1 v10 v11 v12:Int)(Av:Bool)(Aw Ax Ay:Int)(Ad:Bool)(Ae Af Ag:Int)(next:Int->Int->Int->Option (AV×Bool))(kx0:Int->Int->Option (AV×Bool)):Option (AV×Bool):=
 (oB (qhh Av) fun r1=>(bif(decide (v12<r1))then(next (IntKind.u64.wrap ((IntKind.u64.wrap (v10*2))+(IntKind.u64.wrap (v11.tdiv (9223372036854775808:Int))))) (IntKind.u64.wrap (v11*2)) (IntKind.i64.wrap (v12+1)))else(kx0 v10 v11)))
def qec (v1:Int)(Av:Bool)(Aw Ax Ay:Int)(Ad:Bool)(Ae Af Ag:Int)(kx0:Int->Int->Option (AV×Bool)):Nat->Int->Int->Int->Option (AV×Bool)
 |0=>(fun _ _ _=>none)
 |n+1=>(fun v10 v11 v12=>qlo v1 v10 v11 v12 Av Aw Ax Ay Ad Ae Af Ag (qec v1 Av Aw Ax Ay Ad Ae Af Ag kx0 n) kx0)
def q2a:=hull (qec)
theorem qbav:q2a=qec:=qa _
def qbd7:SubB Tryz.prog (TIof Tryz.prog) 78 0 (kret [(.cell 6 true 4),.t 7] qua):=lpB tabOk follows Tryz.f165 607 (.s (.s (.r [(4,.c qjm.b)] []) (.s .z (.v [.sel [1,3,6,10,11] [0,1]]))) (.s .z (.v [.sel [1,3,6,10,11,12] [0,1]]))) S122_ (qec) (fun f v K n=>f (v.i 4 0) (v.b 3 0) (v.i 3 1) (v.i 3 2) (v.i 3 3) (v.b 7 0) (v.i 7 1) (v.i 7 2) (v.i 7 3) (qwf (v.i 4 0) (v.b 3 0) (v.i 3 1) (v.i 3 2) (v.i 3 3) (v.b 7 0) (v.i 7 1) (v.i 7 2) (v.i 7 3) K) n) (fun v f K=>qlo (v.i 4 0) (v.i 40 0) (v.i 44 0) (v.i 48 0) (v.b 3 0) (v.i 3 1) (v.i 3 2) (v.i 3 3) (v.b 7 0) (v.i 7 1) (v.i 7 2) (v.i 7 3) f (qwf (v.i 4 0) (v.b 3 0) (v.i 3 1) (v.i 3 2) (v.i 3 3) (v.b 7 0) (v.i 7 1) (v.i 7 2) (v.i 7 3) K)) (fun f v=>f (v.i 40 0) (v.i 44 0) (v.i 48 0)) (fun k v=>(fun z0 z1 z2=>k (((v.ui 40 0 z0).ui 44 0 z1).ui 48 0 z2)))
def qrr (Aa:Bool)(Ab Ac Bt v1 v2:Int):Option (AV×Bool):=
 (qv2 v1 v2 Aa Ab Ac Bt false (0:Int) (0:Int) (0:Int) (fun v30q1=>(bif v30q1 then(some ((.agg [(.bool false),(.int .u64 (0:Int)),(.int .u64 (0:Int)),(.int .i64 (0:Int))]),false))else(oB (qp2 (IntKind.i64.wrap (v1-Bt))) fun r2=>(bif(decide (v2>r2.2))then(some ((.agg [(.bool false),(.int .u64 (0:Int)),(.int .u64 (0:Int)),(.int .i64 (0:Int))]),false))else(q2a v1 Aa Ab Ac Bt false (0:Int) (0:Int) (0:Int) (fun v10q3 v11q4=>(some ((.agg [(.bool Aa),(.int .u64 (IntKind.u64.wrap (Ab+v10q3))),(.int .u64 (IntKind.u64.wrap (Ac+v11q4))),(.int .i64 v1)]),true))) FU (0:Int) v2 v1))))))
def qhi:=hull qrr
theorem qblv:qhi=qrr:=qa _
def qxw {R:Type}:EntF Tryz.prog R:=entB (nt:=78) (dec:=qua) (enc:=(fun r=>.tup [qcp (.st [.b,(.i .u64),(.i .u64),(.i .i64)]) r.1,.bool r.2])) tabOk follows Tryz.func165 [(.cell 6 true 4),.t 7] (hdeN fun _=>rfl) (.s .z (.s (.s (.sub [.sel [1,2,3,6] [0,1]] qbf8 []) .z) (.s (.r [(4,.c qxi.b)] []) (.s .z (.s .z (.s (.s .z (.b (.sub [.sel [1,3,6,10,11,12] [0,1]] qbd7 []))) .z)))))) S47_ qrr (fun f v=>f (v.b 1 0) (v.i 1 1) (v.i 1 2) (v.i 1 3) (v.i 4 0) (v.i 8 0))
def qbd8:AV->Option (AV×AV×Bool):=decN [(.st [.b,(.i .u64),(.i .u64),(.i .i64)]),(.st [.b,(.i .u64),(.i .u64),(.i .i64)]),(.one .b)] fun z=>((gC (tpL z) 0),(gC (tpL z) 1),aB (gC (tpL z) 2))
def qnx (Aa:Bool)(Ab Ac Bt:Int):Option (AV×AV×Bool):=
 (oB (qhi Aa Ab Ac Bt (IntKind.i64.wrap (Bt+1)) (0:Int)) fun r1=>(oB (qhi Aa Ab Ac Bt (IntKind.i64.wrap (Bt+1)) (1:Int)) fun r2=>(bif(!r2.2)then(some ((.agg [(.bool false),(.int .u64 (0:Int)),(.int .u64 (0:Int)),(.int .i64 (0:Int))]),(.agg [(.bool false),(.int .u64 (0:Int)),(.int .u64 (0:Int)),(.int .i64 (0:Int))]),false))else(some ((.agg [(.bool (gB r1.1.cells 0)),(.int .u64 (gI r1.1.cells 1)),(.int .u64 (gI r1.1.cells 2)),(.int .i64 (gI r1.1.cells 3))]),(.agg [(.bool (gB r2.1.cells 0)),(.int .u64 (gI r2.1.cells 1)),(.int .u64 (gI r2.1.cells 2)),(.int .i64 (gI r2.1.cells 3))]),true)))))
def qrs:=hull qnx
theorem qbf9:qrs=qnx:=qa _
def qub {R:Type}:EntF Tryz.prog R:=entB (nt:=31) (dec:=qbd8) (enc:=(fun r=>.tup [qcp (.st [.b,(.i .u64),(.i .u64),(.i .i64)]) r.1,qcp (.st [.b,(.i .u64),(.i .u64),(.i .i64)]) r.2.1,.bool r.2.2])) tabOk follows Tryz.func164 [(.cell 2 true 4),(.cell 3 true 4),.t 4] (hdeN fun _=>rfl) (.s .z (.s (.r [(4,.c qxw.b)] []) (.s (.r [(4,.c qxw.b)] []) .z))) S8_ qnx (fun f v=>f (v.b 1 0) (v.i 1 1) (v.i 1 2) (v.i 1 3))
def q2b:Shp:=⟨[(0,.one (.l (.sl 8))),(1,.st (lk qe))],[]⟩
def qc8 {R:Type}(rec:(List AV)->Bool->Int->Int->Int->Option (List AV))(xs:LA)(K:AV->Option R):Option R:=chk (fitS q2b (qbo xs) Mem.none) (oB (rec (gL [(qbo xs) 0] 0) (gB ((qbo xs) 1).cells 0) (gI ((qbo xs) 1).cells 1) (gI ((qbo xs) 1).cells 2) (gI ((qbo xs) 1).cells 3)) fun r=>K ((AV.fr true 4) r))
def qkr (v0:LA)(Av:Bool)(Aw Ax Ay:Int)(K:Ex->Env->Mem->Option (List AV)):=(fun z_v5=>K (.exit 0) (qk [(0,(.sl 8 v0)),(3,(.ptr 0 0)),(5,(.bool z_v5))]) (qh [(some (.box true (qc Av Aw Ax Ay)))]))
def qbaw:Shp:=⟨[(0,.one (.l (.sl 8))),(3,.one (.ptr 0 0)),(5,.one (.l .b)),(6,.one (.l (.i .i64)))],[.box true (lk qe)]⟩
def qqt (v0:LA)(v5:Bool)(v6:Int)(Av:Bool)(Aw Ax Ay:Int):Env:=qk [(0,(.sl 8 v0)),(3,(.ptr 0 0)),(5,(.bool v5)),(6,(.int .i64 v6))]
def qqu (v0:LA)(v5:Bool)(v6:Int)(Av:Bool)(Aw Ax Ay:Int):Mem:=qh [(some (.box true (qc Av Aw Ax Ay)))]
def qfy (rec:(List AV)->Bool->Int->Int->Int->Option (List AV))(v0:LA)(v5:Bool)(v6:Int)(Av:Bool)(Aw Ax Ay:Int)(next:Bool->Int->Option (List AV))(kx0:Bool->Option (List AV)):Option (List AV):=
 (bif(decide (v6<(v0.length:Int)))then(oB (ixB v0 v6) fun y1=>(bif fitC qb y1.cells then(oB (qjn Av Aw Ax Ay (gB y1.cells 0) (gI y1.cells 1) (gI y1.cells 2) (gI y1.cells 3)) fun r2=>(bif r2 then(bif hd ([]:List AV) (([]:List AV).length)then(some ([]:List AV))else none)else(oB (ixB v0 v6) fun y3=>(bif fitC qb y3.cells then(oB (qv1 Av Aw Ax Ay (gB y3.cells 0) (gI y3.cells 1) (gI y3.cells 2) (gI y3.cells 3)) fun r4=>(bif r4 then(next true (IntKind.i64.wrap (v6+1)))else(next v5 (IntKind.i64.wrap (v6+1)))))else none))))else none))else(kx0 v5))
def qmw (rec:(List AV)->Bool->Int->Int->Int->Option (List AV))(v0:LA)(Av:Bool)(Aw Ax Ay:Int)(kx0:Bool->Option (List AV)):Nat->Bool->Int->Option (List AV)
 |0=>(fun _ _=>none)
 |n+1=>(fun v5 v6=>qfy rec v0 v5 v6 Av Aw Ax Ay (qmw rec v0 Av Aw Ax Ay kx0 n) kx0)
def qla (rec:(List AV)->Bool->Int->Int->Int->Option (List AV)):=hull (qmw rec)
theorem qym (rec:(List AV)->Bool->Int->Int->Int->Option (List AV)):qla rec=qmw rec:=qa _
def qfz (rec:(List AV)->Bool->Int->Int->Int->Option (List AV)):AC (List AV):=
 .seq (.seq (.reg [ao 11 (.mv 6),
 ao 12 (.mv 0),
 ao 13 (.len false 12),
 ao 14 (.bin .lss 11 13)]) (.cond 14 (.skip) (.seq (.view [.sel [0,3,5] [0]]) (.exit 0)))) (.seq (.block 1 (.seq (.seq (.draw [] [ao 17 (.load true 4 3),
 ao 18 (.mv 0),
 ao 19 (.mv 6),
 ao 20 (.ia 8 18 19),
 .et 20 qb,
 ao 21 (.fa 0 20),
 ao 22 (.load true 4 21)] [.call (po 23 (.call 128 [17,22])) 128 qka.e]) (.cond 23 (.seq (.reg [ao 4 (.mv (.c .nils))]) (.seq (.view [.own 4 4]) (.ret))) (.skip))) (.seq (.draw [] [ao 24 (.load true 4 3),
 ao 25 (.mv 0),
 ao 26 (.mv 6),
 ao 27 (.ia 8 25 26),
 .et 27 qb,
 ao 28 (.fa 0 27),
 ao 29 (.load true 4 28)] [.call (po 30 (.call 192 [24,29])) 192 q0p.e]) (.cond 30 (.reg [ao 5 (.mv (.c (.bool true)))]) (.skip))))) (.seq (.reg [ao 15 (.mv 6),
 ao 16 (.bin .add 15 (.c (.int .i64 1))),
 ao 6 (.mv 16)]) (.view [.sel [0,3,5,6] [0]])))
theorem qbd9 (rec:(List AV)->Bool->Int->Int->Int->Option (List AV))(hrec:qdj Tryz.prog 182 (qc8 (R:=(List AV)) rec)):AC.ok Tryz.prog (TIof Tryz.prog) 53 0 (kret [.t 4] (decF true 4)) (qfz rec):=qbtm (zA (qdj.ok qka.h) (zA rfl (zA (qdj.ok q0p.h) (zA rfl trivial))))
theorem qbax (rec:(List AV)->Bool->Int->Int->Int->Option (List AV))(v0:LA)(v5:Bool)(v6:Int)(Av:Bool)(Aw Ax Ay:Int)(K:Ex->Env->Mem->Option (List AV)):den 0 (kret [.t 4] (decF true 4)) (qfz rec) (qqt v0 v5 v6 Av Aw Ax Ay) (qqu v0 v5 v6 Av Aw Ax Ay) K=qfy rec v0 v5 v6 Av Aw Ax Ay (fun z_v5 z_v6=>K .norm (qqt v0 z_v5 z_v6 Av Aw Ax Ay) (qqu v0 z_v5 z_v6 Av Aw Ax Ay)) (qkr v0 Av Aw Ax Ay K):=by kernel_rfl
theorem qbga (rec:(List AV)->Bool->Int->Int->Int->Option (List AV))(v0:LA)(Av:Bool)(Aw Ax Ay:Int)(K:Ex->Env->Mem->Option (List AV)):∀(n:Nat) (v5:Bool) (v6:Int),qvm (den 0 (kret [.t 4] (decF true 4)) (qfz rec)) n (qqt v0 v5 v6 Av Aw Ax Ay) (qqu v0 v5 v6 Av Aw Ax Ay) K=qla rec v0 Av Aw Ax Ay (qkr v0 Av Aw Ax Ay K) n v5 v6:=by
 rw[qym]
 intro n
 induction n with
 |zero=>intros;rfl
 |succ n ih=>
 intro v5 v6
 exact(qbax rec v0 v5 v6 Av Aw Ax Ay (itK (den 0 (kret [.t 4] (decF true 4)) (qfz rec)) n K)).trans (congrArg (fun q=>qfy rec v0 v5 v6 Av Aw Ax Ay q (qkr v0 Av Aw Ax Ay K)) (funext fun v5=>funext fun v6=>ih v5 v6))
def q0q (rec:(List AV)->Bool->Int->Int->Int->Option (List AV)):=subE (R:=(List AV)) qbaw fun t m K=>q5g (bxC (m.s 0)) (qla rec (gL [t 0] 0)) (qkr (gL [t 0] 0) (gB (bxC (m.s 0)) 0) (gI (bxC (m.s 0)) 1) (gI (bxC (m.s 0)) 2) (gI (bxC (m.s 0)) 3) K) FU (gB [t 5] 0) (gI [t 6] 0)
theorem qbgb (rec:(List AV)->Bool->Int->Int->Int->Option (List AV))(hrec:qdj Tryz.prog 182 (qc8 (R:=(List AV)) rec)):q2n Tryz.prog (TIof Tryz.prog) 53 0 (kret [.t 4] (decF true 4)) (.loop (scOf (qfz rec))) (q0q rec):=
 qbqj tabOk follows (qbd9 rec hrec) (qbh2 (by kernel_rfl)) fun t m K=>qbga rec _ _ _ _ _ K FU _ _
def qmx (rec:(List AV)->Bool->Int->Int->Int->Option (List AV))(v0:LA)(B7:Bool)(B8 B9 Ca:Int):Option (List AV):=
 (qla rec v0 B7 B8 B9 Ca (fun v5q1=>(bif(!v5q1)then(bif hd ([(.agg [(.bool B7),(.int .u64 B8),(.int .u64 B9),(.int .i64 Ca)])]:List AV) (([(.agg [(.bool B7),(.int .u64 B8),(.int .u64 B9),(.int .i64 Ca)])]:List AV).length)then(some ([(.agg [(.bool B7),(.int .u64 B8),(.int .u64 B9),(.int .i64 Ca)])]:List AV))else none)else(oB (qrs B7 B8 B9 Ca) fun r2=>(bif(!r2.2.2)then(bif hd ([]:List AV) (([]:List AV).length)then(some ([]:List AV))else none)else(oB (rec v0 (gB r2.1.cells 0) (gI r2.1.cells 1) (gI r2.1.cells 2) (gI r2.1.cells 3)) fun r3=>(bif decide ((([]:List AV).length+r3.length)*32<=140737488355328)then(oB (rec v0 (gB r2.2.1.cells 0) (gI r2.2.1.cells 1) (gI r2.2.1.cells 2) (gI r2.2.1.cells 3)) fun r4=>(bif hd r3 r3.length then(bif decide ((r3.length+r4.length)*32<=140737488355328)then(bif hd (r3++r4) ((r3++r4).length)then(some (r3++r4))else none)else none)else none))else none)))))) FU false (0:Int))
def qcn:Nat->(List AV)->Bool->Int->Int->Int->Option (List AV)
 |0=>(fun _ _ _ _ _=>none)
 |n+1=>(fun v0 B7 B8 B9 Ca=>qmx (qcn n) v0 B7 B8 B9 Ca)
def q1n:(List AV)->Bool->Int->Int->Int->Option (List AV):=hull (qcn FU)
theorem q31:q1n=qcn FU:=qa _
def qmy (rec:(List AV)->Bool->Int->Int->Int->Option (List AV)):AC (List AV):=
 .seq (.reg [ao 3 (.box 1),
 ao 4 (.mv (.c .nils))]) (.seq (.reg [ao 5 (.mv (.c (.bool false)))]) (.seq (.seq (.reg [ao 6 (.mv (.c (.int .i64 0)))]) (.block 0 (.seq (.view [.sel [0,3,5,6] [0]]) (.sub (.loop (scOf (qfz rec))) (q0q rec))))) (.seq (.seq (.reg [ao 31 (.mv 5),
 ao 32 (.un .not 31)]) (.cond 32 (.seq (.reg [ao 33 (.load true 4 3),
 ao 34 (.bsl 4 [33]),
 ao 4 (.mv 34)]) (.ret)) (.skip))) (.seq (.reg [ao 36 (.load true 4 3),
 .call (po 37 (.call 164 [36])) 164 qub.e,
 ao 35 (.mv 37),
 ao 38 (.ext 35 0),
 ao 39 (.ext 35 1),
 ao 40 (.ext 35 2),
 ao 7 (.alloc [(.bool false),(.int .u64 0),(.int .u64 0),(.int .i64 0)]),
 ao 8 (.alloc [(.bool false),(.int .u64 0),(.int .u64 0),(.int .i64 0)]),
 an (.store 4 7 38),
 an (.store 4 8 39),
 ao 9 (.mv 40)]) (.seq (.seq (.reg [ao 41 (.mv 9),
 ao 42 (.un .not 41)]) (.cond 42 (.seq (.reg [ao 4 (.mv (.c .nils))]) (.seq (.view [.own 4 4]) (.ret))) (.skip))) (.seq (.reg [ao 10 (.mv (.c .nils))]) (.seq (.reg [ao 43 (.mv 10),
 ao 44 (.mv 0),
 ao 45 (.load true 4 7),
 .callc (po 46 (.call 182 [44,45])) 182 (qc8 rec),
 ao 47 (.app 4 32 43 46),
 ao 10 (.mv 47)]) (.seq (.reg [ao 48 (.mv 10),
 ao 49 (.mv 0),
 ao 50 (.load true 4 8),
 .callc (po 51 (.call 182 [49,50])) 182 (qc8 rec),
 ao 52 (.app 4 32 48 51),
 ao 4 (.mv 52)]) (.ret)))))))))
theorem qblw (rec:(List AV)->Bool->Int->Int->Int->Option (List AV))(hrec:qdj Tryz.prog 182 (qc8 (R:=(List AV)) rec)):AC.ok Tryz.prog (TIof Tryz.prog) 53 0 (kret [.t 4] (decF true 4)) (qmy rec):=qbtm (zA (qbgb rec hrec) (zA (qdj.ok qub.h) (zA (qdj.ok hrec) (zA (qdj.ok hrec) trivial))))
theorem qbnh (rec:(List AV)->Bool->Int->Int->Int->Option (List AV))(v0:LA)(B7:Bool)(B8 B9 Ca:Int):den 0 (kret [.t 4] (decF true 4)) (qmy rec) (qk [(0,(.sl 8 v0)),(1,.agg (qc B7 B8 B9 Ca))]) (qh []) (kend (kret [.t 4] (decF true 4)))=qmx rec v0 B7 B8 B9 Ca:=by
 kernel_rfl
theorem qbni:cFn (TIof Tryz.prog) Tryz.f182=some ⟨53,[.t 4],scOf (qmy (fun _ _ _ _ _=>none))⟩:=by kernel_rfl
theorem qbnj (rec:(List AV)->Bool->Int->Int->Int->Option (List AV)):(qmy rec).er=some (scOf (qmy (fun _ _ _ _ _=>none))):=by kernel_rfl
theorem q32:∀(k:Nat) {R:Type},qdj Tryz.prog 182 (qc8 (R:=R) (qcn k))
 |0=>fun xs K r h=>by
  unfold qc8 at h
  obtain⟨_,h2,_⟩:=qcw (qlb h).2
  cases h2
 |k+1=>qbzy (F:=fun xs=>qmx (qcn k) (gL [(qbo xs) 0] 0) (gB ((qbo xs) 1).cells 0) (gI ((qbo xs) 1).cells 1) (gI ((qbo xs) 1).cells 2) (gI ((qbo xs) 1).cells 3)) (enc:=(AV.fr true 4)) tabOk follows Tryz.func182 (by kernel_rfl) qbni (hdeF) (qblw (qcn k) (q32 k)) (qbnj (qcn k)) q2b (fun xs=>qbnh (qcn k) (gL [(qbo xs) 0] 0) (gB ((qbo xs) 1).cells 0) (gI ((qbo xs) 1).cells 1) (gI ((qbo xs) 1).cells 2) (gI ((qbo xs) 1).cells 3)) (fun xs K r h=>by
 unfold qc8 at h
 exact⟨(qlb h).1,qcw (qlb h).2⟩)
def qbjw {R:Type}(xs:LA)(K:AV->Option R):Option R:=qc8 q1n xs K
theorem qbnk {R:Type}:qdj Tryz.prog 182 (qbjw (R:=R)):=by
 have h:=q32 FU (R:=R)
 rw[<-q31]at h
 exact h
def S123_:Shp:=⟨[(0,.one (.l (.sl 8))),(3,.one (.ptr 0 0)),(5,.one (.ptr 1 0)),(6,.one (.l .b))],[.box true (lk qe),.box true (lk qb)]⟩
def qbea (v0:LA)(Av:Bool)(Aw Ax Ay:Int)(K:Ex->Env->Mem->Option (List AV)):=(fun z_v24=>K .norm (qk [(0,(.sl 8 v0)),(3,(.ptr 0 0)),(24,(.bool z_v24))]) (qh [(some (.box true (qc Av Aw Ax Ay)))]))
def qjb (v0:LA)(v6 Av:Bool)(Aw Ax Ay:Int)(Ad:Bool)(Ae Af Ag Ah:Int)(Ai Aj:LU)(Ak:Int)(kn:Bool->Option (List AV)):Option (List AV):=
 (bif((!v6)||(Ah != (1:Int)))then(kn true)else(oB (qfr Av Aw Ax Ay) fun r1=>(kn (!r1))))
def q33:=hull (qjb)
theorem qyn:q33=qjb:=qa _
def qbgc:SubB Tryz.prog (TIof Tryz.prog) 30 0 (kret [.t 4] (decX (.one (.sl 4)) fun z=>aL z)):=jnB tabOk follows Tryz.f163 19 (.r [(3,.g 3),(9,.c qii.b)] [.sel [0,3,24] [0]]) S123_ (qjb) (fun f v K=>f (v.l 0 0) (v.b 24 0) (v.b 3 0) (v.i 3 1) (v.i 3 2) (v.i 3 3) (v.b 7 0) (v.i 7 1) (v.i 7 2) (v.i 7 3) (v.i 7 4) (v.s 7 5) (v.s 7 6) (v.i 7 7) (qbea (v.l 0 0) (v.b 3 0) (v.i 3 1) (v.i 3 2) (v.i 3 3) K))
def qrt (v0:LA)(B7:Bool)(B8 B9 Ca:Int):Option (List AV):=
 (oB (ql0 v0 B7 B8 B9 Ca) fun r1=>(q33 v0 r1.2 B7 B8 B9 Ca (gB r1.1.cells 0) (gI r1.1.cells 1) (gI r1.1.cells 2) (gI r1.1.cells 3) (gI r1.1.cells 4) (gS r1.1.cells 5) (gS r1.1.cells 6) (gI r1.1.cells 7) (fun v24q2=>(bif v24q2 then(some ([]:List AV))else(oB (qt9 v0 B7 B8 B9 Ca) fun r3=>(oB (q1n r3 B7 B8 B9 Ca) fun r4=>(some r4)))))))
def qvi:=hull qrt
theorem qblx:qvi=qrt:=qa _
def qbnl {R:Type}:EntF Tryz.prog R:=entB (nt:=30) (dec:=(decX (.one (.sl 4)) fun z=>aL z)) (enc:=(fun r=>.sl 4 r)) tabOk follows Tryz.func163 [.t 4] (hdeX fun _=>rfl) (.s .z (.s (.r [(2,.c qrp.b)] []) (.s (.s (.sub [.sel [0,3,5,6] [0,1]] qbgc []) (.s (.s .z (.v [.eta 4 (.one (.sl 4))])) .z)) (.s (.d [] [(2,.c qbd3.b)] [(0,.k (eB qbnk))] []) .z)))) S16_ qrt (fun f v=>f (v.l 0 0) (v.b 5 0) (v.i 5 1) (v.i 5 2) (v.i 5 3))
def S124_:Shp:=⟨[(0,.one (.l (.sl 4))),(1,.one (.l (.i .i64))),(2,.one (.l (.i .i64))),(6,.one (.ptr 0 0)),(8,.one (.l .b)),(9,.one (.ptr 1 0)),(10,.one (.l (.i .i64)))],[.box true (lk qe),.box true (lk qe)]⟩
def S125_:Shp:=⟨[(0,.one (.l (.sl 4))),(1,.one (.l (.i .i64))),(2,.one (.l (.i .i64)))],[]⟩
def qsq:AV->Option (AV×Bool):=decN [(.st [.b,(.i .u64),(.i .u64),(.i .i64)]),(.one .b)] fun z=>((gC (tpL z) 0),aB (gC (tpL z) 1))
def q8s (v0:LA)(v1 v2:Int)(v8:Bool)(v10:Int)(Av:Bool)(Aw Ax Ay:Int)(Ad:Bool)(Ae Af Ag:Int)(K:Ex->Env->Mem->Option (AV×Bool)):=(fun z_v41=>K .norm (qk [(0,(.sl 4 v0)),(1,(.int .i64 v1)),(2,(.int .i64 v2)),(6,(.ptr 0 0)),(8,(.bool v8)),(9,(.ptr 1 0)),(10,(.int .i64 v10)),(41,(.bool z_v41))]) (qh [(some (.box true (qc Av Aw Ax Ay))),(some (.box true (qc Ad Ae Af Ag)))]))
def qks (v0:LA)(v1 v2:Int)(v8:Bool)(v10:Int)(Av:Bool)(Aw Ax Ay:Int)(Ad:Bool)(Ae Af Ag:Int)(kn:Bool->Option (AV×Bool)):Option (AV×Bool):=
 (oB (ixB v0 v10) fun y1=>(bif fitC qe y1.cells then(bif(decide ((gI y1.cells 3)<=v1))then(bif(!v8)then(kn true)else(oB (ixB v0 v10) fun y2=>(bif fitC qe y2.cells then(kn (decide ((IntKind.i64.wrap ((IntKind.i64.wrap ((gI y2.cells 3)-Ag))*v2))>0)))else none)))else(kn false))else none))
def q0r:=hull (qks)
theorem q8t:q0r=qks:=qa _
def qbay:SubB Tryz.prog (TIof Tryz.prog) 48 0 (kret [(.cell 6 true 4),.t 7] qsq):=jnB tabOk follows Tryz.f162 2199 (.d [] [(2,.e 20 qe),(13,.e 31 qe)] [] [.sel [0,1,2,6,8,9,10,41] [0,1]]) S124_ (qks) (fun f v K=>f (v.l 0 0) (v.i 4 0) (v.i 8 0) (v.b 32 0) (v.i 40 0) (v.b 3 0) (v.i 3 1) (v.i 3 2) (v.i 3 3) (v.b 7 0) (v.i 7 1) (v.i 7 2) (v.i 7 3) (q8s (v.l 0 0) (v.i 4 0) (v.i 8 0) (v.b 32 0) (v.i 40 0) (v.b 3 0) (v.i 3 1) (v.i 3 2) (v.i 3 3) (v.b 7 0) (v.i 7 1) (v.i 7 2) (v.i 7 3) K))
def quu (Av:Bool)(Aw Ax Ay:Int)(K:Ex->Env->Mem->Option (AV×Bool)):=(fun z_v8 z_b1_0 z_b1_1 z_b1_2 z_b1_3=>K (.exit 0) (qk [(6,(.ptr 0 0)),(8,(.bool z_v8)),(9,(.ptr 1 0))]) (qh [(some (.box true (qc Av Aw Ax Ay))),(some (.box true (qc z_b1_0 z_b1_1 z_b1_2 z_b1_3)))]))
def qgx (v0:LA)(v1 v2:Int)(v8:Bool)(v10:Int)(Av:Bool)(Aw Ax Ay:Int)(Ad:Bool)(Ae Af Ag:Int)(next:Bool->Int->Bool->Int->Int->Int->Option (AV×Bool))(kx0:Bool->Bool->Int->Int->Int->Option (AV×Bool)):Option (AV×Bool):=
 (bif(decide (v10<(v0.length:Int)))then(q0r v0 v1 v2 v8 v10 Av Aw Ax Ay Ad Ae Af Ag (fun v41q1=>(bif v41q1 then(oB (ixB v0 v10) fun y2=>(bif fitC qe y2.cells then(next true (IntKind.i64.wrap (v10+1)) (gB y2.cells 0) (gI y2.cells 1) (gI y2.cells 2) (gI y2.cells 3))else none))else(next v8 (IntKind.i64.wrap (v10+1)) Ad Ae Af Ag))))else(kx0 v8 Ad Ae Af Ag))
def qgy (v0:LA)(v1 v2:Int)(Av:Bool)(Aw Ax Ay:Int)(kx0:Bool->Bool->Int->Int->Int->Option (AV×Bool)):Nat->Bool->Int->Bool->Int->Int->Int->Option (AV×Bool)
 |0=>(fun _ _ _ _ _ _=>none)
 |n+1=>(fun v8 v10 Ad Ae Af Ag=>qgx v0 v1 v2 v8 v10 Av Aw Ax Ay Ad Ae Af Ag (qgy v0 v1 v2 Av Aw Ax Ay kx0 n) kx0)
def q0s:=hull (qgy)
theorem q8u:q0s=qgy:=qa _
def qbaz:SubB Tryz.prog (TIof Tryz.prog) 48 0 (kret [(.cell 6 true 4),.t 7] qsq):=lpB tabOk follows Tryz.f162 151 (.s (.s .z (.s .z (.v [.sel [6,8,9] [0,1]]))) (.s (.b (.s (.sub [.sel [0,1,2,6,8,9,10] [0,1]] qbay []) (.s (.s (.r [(2,.p (.etac 44 qe))] []) .z) .z))) (.v [.sel [0,1,2,6,8,9,10] [0,1]]))) S124_ (qgy) (fun f v K n=>f (v.l 0 0) (v.i 4 0) (v.i 8 0) (v.b 3 0) (v.i 3 1) (v.i 3 2) (v.i 3 3) (quu (v.b 3 0) (v.i 3 1) (v.i 3 2) (v.i 3 3) K) n) (fun v f K=>qgx (v.l 0 0) (v.i 4 0) (v.i 8 0) (v.b 32 0) (v.i 40 0) (v.b 3 0) (v.i 3 1) (v.i 3 2) (v.i 3 3) (v.b 7 0) (v.i 7 1) (v.i 7 2) (v.i 7 3) f (quu (v.b 3 0) (v.i 3 1) (v.i 3 2) (v.i 3 3) K)) (fun f v=>f (v.b 32 0) (v.i 40 0) (v.b 7 0) (v.i 7 1) (v.i 7 2) (v.i 7 3)) (fun k v=>(fun z0 z1 z2 z3 z4 z5=>k ((((((v.ub 32 0 z0).ui 40 0 z1).ub 7 0 z2).ui 7 1 z3).ui 7 2 z4).ui 7 3 z5)))
def qpi (v0:LA)(v1 v2:Int):Option (AV×Bool):=
 (q0s v0 v1 v2 false (0:Int) (0:Int) (0:Int) (fun v8q1 b1_0q2 b1_1q3 b1_2q4 b1_3q5=>(some ((.agg [(.bool b1_0q2),(.int .u64 b1_1q3),(.int .u64 b1_2q4),(.int .i64 b1_3q5)]),v8q1))) FU false (0:Int) false (0:Int) (0:Int) (0:Int))
def qk5:=hull qpi
theorem qbjx:qk5=qpi:=qa _
def qbly {R:Type}:EntF Tryz.prog R:=entB (nt:=48) (dec:=qsq) (enc:=(fun r=>.tup [qcp (.st [.b,(.i .u64),(.i .u64),(.i .i64)]) r.1,.bool r.2])) tabOk follows Tryz.func162 [(.cell 6 true 4),.t 7] (hdeN fun _=>rfl) (.s .z (.s .z (.s .z (.s (.s .z (.b (.sub [.sel [0,1,2,6,8,9,10] [0,1]] qbaz []))) .z)))) S125_ qpi (fun f v=>f (v.l 0 0) (v.i 4 0) (v.i 8 0))
def S126_:Shp:=⟨[(0,.one (.l (.sl 8))),(2,.one (.l (.i .i64))),(3,.one (.l (.i .i64))),(5,.one (.ptr 0 0)),(8,.one (.ptr 1 0)),(12,.one (.l (.i .i64)))],[.box true (lk qe),.box true (lk qe)]⟩
def S127_:Shp:=⟨[(2,.one (.l (.i .i64))),(3,.one (.l (.i .i64))),(8,.one (.ptr 0 0)),(13,.one (.ptr 1 0))],[.box true (lk qe),.box true (lk qe)]⟩
def qlp:AV->Option (AV×Int):=decN [(.st [.b,(.i .u64),(.i .u64),(.i .i64)]),(.one (.i .i64))] fun z=>((gC (tpL z) 0),aI (gC (tpL z) 1))
def q6x (v0:LA)(v2 v3:Int)(Av:Bool)(Aw Ax Ay:Int)(Ad:Bool)(Ae Af Ag:Int)(K:Ex->Env->Mem->Option (AV×Int)):=(fun z_v12=>K .norm (qk [(0,(.sl 8 v0)),(2,(.int .i64 v2)),(3,(.int .i64 v3)),(5,(.ptr 0 0)),(8,(.ptr 1 0)),(12,(.int .i64 z_v12))]) (qh [(some (.box true (qc Av Aw Ax Ay))),(some (.box true (qc Ad Ae Af Ag)))]))
def qjp (v0:LA)(v2 v3 v12:Int)(Av:Bool)(Aw Ax Ay:Int)(Ad:Bool)(Ae Af Ag:Int)(kn:Int->Option (AV×Int)):Option (AV×Int):=
 (bif(v3==2)then(kn (1:Int))else(kn v12))
def qyo:=hull (qjp)
theorem q6y:qyo=qjp:=qa _
def q8v:SubB Tryz.prog (TIof Tryz.prog) 79 0 (kret [(.cell 8 true 4),.t 9] qlp):=jnB tabOk follows Tryz.f107 191 (.s .z (.s (.v [.sel [0,2,3,5,8,12] [0,1]]) (.v [.sel [0,2,3,5,8,12] [0,1]]))) S126_ (qjp) (fun f v K=>f (v.l 0 0) (v.i 8 0) (v.i 12 0) (v.i 48 0) (v.b 3 0) (v.i 3 1) (v.i 3 2) (v.i 3 3) (v.b 7 0) (v.i 7 1) (v.i 7 2) (v.i 7 3) (q6x (v.l 0 0) (v.i 8 0) (v.i 12 0) (v.b 3 0) (v.i 3 1) (v.i 3 2) (v.i 3 3) (v.b 7 0) (v.i 7 1) (v.i 7 2) (v.i 7 3) K))
def q6z (v0:LA)(v2 v3:Int)(Av:Bool)(Aw Ax Ay:Int)(Ad:Bool)(Ae Af Ag:Int)(K:Ex->Env->Mem->Option (AV×Int)):=(fun z_v12=>K .norm (qk [(0,(.sl 8 v0)),(2,(.int .i64 v2)),(3,(.int .i64 v3)),(5,(.ptr 0 0)),(8,(.ptr 1 0)),(12,(.int .i64 z_v12))]) (qh [(some (.box true (qc Av Aw Ax Ay))),(some (.box true (qc Ad Ae Af Ag)))]))
def qjq (v0:LA)(v2 v3 v12:Int)(Av:Bool)(Aw Ax Ay:Int)(Ad:Bool)(Ae Af Ag:Int)(kn:Int->Option (AV×Int)):Option (AV×Int):=
 (bif(v3==3)then(kn (-1:Int))else(kn v12))
def qyp:=hull (qjq)
theorem q60:qyp=qjq:=qa _
def q8w:SubB Tryz.prog (TIof Tryz.prog) 79 0 (kret [(.cell 8 true 4),.t 9] qlp):=jnB tabOk follows Tryz.f107 383 (.s .z (.s (.v [.sel [0,2,3,5,8,12] [0,1]]) (.v [.sel [0,2,3,5,8,12] [0,1]]))) S126_ (qjq) (fun f v K=>f (v.l 0 0) (v.i 8 0) (v.i 12 0) (v.i 48 0) (v.b 3 0) (v.i 3 1) (v.i 3 2) (v.i 3 3) (v.b 7 0) (v.i 7 1) (v.i 7 2) (v.i 7 3) (q6z (v.l 0 0) (v.i 8 0) (v.i 12 0) (v.b 3 0) (v.i 3 1) (v.i 3 2) (v.i 3 3) (v.b 7 0) (v.i 7 1) (v.i 7 2) (v.i 7 3) K))
def q61 (v2:Int)(Av:Bool)(Aw Ax Ay:Int)(K:Ex->Env->Mem->Option (AV×Int)):=(fun z_b1_0 z_b1_1 z_b1_2 z_b1_3=>K .norm (qk [(2,(.int .i64 v2)),(8,(.ptr 0 0)),(13,(.ptr 1 0))]) (qh [(some (.box true (qc Av Aw Ax Ay))),(some (.box true (qc z_b1_0 z_b1_1 z_b1_2 z_b1_3)))]))
def qjr (v2 v3:Int)(Av:Bool)(Aw Ax Ay:Int)(Ad:Bool)(Ae Af Ag:Int)(kn:Bool->Int->Int->Int->Option (AV×Int)):Option (AV×Int):=
 (bif((v3==3)&&(decide (Ag<v2)))then(oB (qrs Ad Ae Af Ag) fun r1=>(kn (gB r1.2.1.cells 0) (gI r1.2.1.cells 1) (gI r1.2.1.cells 2) (gI r1.2.1.cells 3)))else(kn Ad Ae Af Ag))
def qlq:=hull (qjr)
theorem q62:qlq=qjr:=qa _
def q8x:SubB Tryz.prog (TIof Tryz.prog) 79 0 (kret [(.cell 8 true 4),.t 9] qlp):=jnB tabOk follows Tryz.f107 3071 (.s (.r [(3,.g 4)] []) (.s (.r [(1,.c qub.b)] [.sel [2,8,13] [0,1]]) (.v [.sel [2,8,13] [0,1]]))) S127_ (qjr) (fun f v K=>f (v.i 8 0) (v.i 12 0) (v.b 3 0) (v.i 3 1) (v.i 3 2) (v.i 3 3) (v.b 7 0) (v.i 7 1) (v.i 7 2) (v.i 7 3) (q61 (v.i 8 0) (v.b 3 0) (v.i 3 1) (v.i 3 2) (v.i 3 3) K))
def qny (v0:LA)(B7:Bool)(B8 B9 Ca v2 v3:Int):Option (AV×Int):=
 (oB (ql0 v0 B7 B8 B9 Ca) fun r1=>(bif(!r1.2)then(some ((.agg [(.bool false),(.int .u64 (0:Int)),(.int .u64 (0:Int)),(.int .i64 (0:Int))]),(11:Int)))else(bif((gI r1.1.cells 4) != (1:Int))then(some ((.agg [(.bool false),(.int .u64 (0:Int)),(.int .u64 (0:Int)),(.int .i64 (0:Int))]),(21:Int)))else(oB (q0o B7 B8 B9 Ca v2) fun r2=>(bif(((!r2)||(decide (v3<1)))||(decide (v3>3)))then(some ((.agg [(.bool false),(.int .u64 (0:Int)),(.int .u64 (0:Int)),(.int .i64 (0:Int))]),(1:Int)))else(qyo v0 v2 v3 (0:Int) B7 B8 B9 Ca false (0:Int) (0:Int) (0:Int) (fun v12q3=>(qyp v0 v2 v3 v12q3 B7 B8 B9 Ca false (0:Int) (0:Int) (0:Int) (fun v12q4=>(oB (qvi v0 B7 B8 B9 Ca) fun r5=>(oB (qk5 r5 v2 v12q4) fun r6=>(bif(!r6.2)then(some ((.agg [(.bool false),(.int .u64 (0:Int)),(.int .u64 (0:Int)),(.int .i64 (0:Int))]),(22:Int)))else(qlq v2 v3 false (0:Int) (0:Int) (0:Int) (gB r6.1.cells 0) (gI r6.1.cells 1) (gI r6.1.cells 2) (gI r6.1.cells 3) (fun b1_0q7 b1_1q8 b1_2q9 b1_3q10=>(oB (qhi b1_0q7 b1_1q8 b1_2q9 b1_3q10 v2 (0:Int)) fun r11=>(some ((.agg [(.bool (gB r11.1.cells 0)),(.int .u64 (gI r11.1.cells 1)),(.int .u64 (gI r11.1.cells 2)),(.int .i64 (gI r11.1.cells 3))]),(0:Int))))))))))))))))))
def qxx:=hull qny
theorem qbgd:qxx=qny:=qa _
def qbjy {R:Type}:EntF Tryz.prog R:=entB (nt:=79) (dec:=qlp) (enc:=(fun r=>.tup [qcp (.st [.b,(.i .u64),(.i .u64),(.i .i64)]) r.1,.int .i64 r.2])) tabOk follows Tryz.func107 [(.cell 8 true 4),.t 9] (hdeN fun _=>rfl) (.s .z (.s (.r [(2,.c qrp.b)] []) (.s .z (.s .z (.s (.s (.r [(2,.c qbat.b),(5,.g 2),(9,.g 2)] []) .z) (.s .z (.s (.sub [.sel [0,2,3,5,8,12] [0,1]] q8v []) (.s (.sub [.sel [0,2,3,5,8,12] [0,1]] q8w []) (.s (.r [(2,.k qbnl.b),(5,.c qbly.b)] []) (.s .z (.s (.sub [.sel [2,3,8,13] [1,2]] q8x []) (.s (.r [(2,.c qxw.b)] []) .z)))))))))))) S60_ qny (fun f v=>f (v.l 0 0) (v.b 5 0) (v.i 5 1) (v.i 5 2) (v.i 5 3) (v.i 8 0) (v.i 12 0))
def q8y:AV->Option ((List AV)×AV×Int):=decN [(.one (.sl 8)),(.st [.b,(.i .u64),(.i .u64),(.i .i64)]),(.one (.i .i64))] fun z=>(aL (gC (tpL z) 0),(gC (tpL z) 1),aI (gC (tpL z) 2))
def qlr (v0:LA)(B7:Bool)(B8 B9 Ca v2 v3:Int)(v4 v5:LU):Option ((List AV)×AV×Int):=
 (oB (qxx v0 B7 B8 B9 Ca v2 v3) fun r1=>(bif(r1.2 != (0:Int))then(some (([]:List AV),(.agg [(.bool false),(.int .u64 (0:Int)),(.int .u64 (0:Int)),(.int .i64 (0:Int))]),r1.2))else(oB (qxs v0 (gB r1.1.cells 0) (gI r1.1.cells 1) (gI r1.1.cells 2) (gI r1.1.cells 3) (2:Int) v4 v5 (0:Int)) fun r2=>(bif(r2.2 != (0:Int))then(some (([]:List AV),(.agg [(.bool false),(.int .u64 (0:Int)),(.int .u64 (0:Int)),(.int .i64 (0:Int))]),r2.2))else(some (r2.1,(.agg [(.bool (gB r1.1.cells 0)),(.int .u64 (gI r1.1.cells 1)),(.int .u64 (gI r1.1.cells 2)),(.int .i64 (gI r1.1.cells 3))]),(0:Int)))))))
def quc:=hull qlr
theorem qba0:quc=qlr:=qa _
def qbeb {R:Type}:EntF Tryz.prog R:=entB (nt:=45) (dec:=q8y) (enc:=(fun r=>.tup [.sl 8 r.1,qcp (.st [.b,(.i .u64),(.i .u64),(.i .i64)]) r.2.1,.int .i64 r.2.2])) tabOk follows Tryz.func49 [.t 12,(.cell 13 true 4),.t 14] (hdeN fun _=>rfl) (.s .z (.s (.r [(4,.c qbjy.b)] []) (.s (.s .z (.s (.s .z (.v [.eta 12 (.one (.sl 8))])) .z)) (.s (.r [(5,.k q8p.b)] []) (.s (.s .z (.s (.s .z (.v [.eta 12 (.one (.sl 8))])) .z)) .z))))) S61_ qlr (fun f v=>f (v.l 0 0) (v.b 5 0) (v.i 5 1) (v.i 5 2) (v.i 5 3) (v.i 8 0) (v.i 12 0) (v.s 16 0) (v.s 20 0))
def S128_:Shp:=⟨[(0,.one (.l (.sl 5))),(1,.one (.l .s)),(5,.one (.ptr 0 0)),(7,.one (.l (.i .i64)))],[.box true (lk qdz)]⟩
def S129_:Shp:=⟨[(0,.one (.l (.sl 5))),(1,.one (.l .s)),(2,.st (lk qdz))],[]⟩
def qwg (K:Ex->Env->Mem->Option Int):=(fun(_:Unit)=>K (.exit 0) (qk []) (qh []))
def qh1 (v0:LA)(v1:LU)(v7:Int)(Av:Bool)(Aw Ax:Int)(next:Int->Option Int)(kx0:Unit->Option Int):Option Int:=
 (bif(decide (v7<(v0.length:Int)))then(oB (ixB v0 v7) fun y1=>(bif fitC qi y1.cells then(bif((gS y1.cells 0)==v1)then(oB (ixB v0 v7) fun y2=>(bif fitC qi y2.cells then(bif(((gB y2.cells 1)==Av)&&(((gI y2.cells 2)==Aw)&&(((gI y2.cells 3)==Ax)&&true)))then(some v7)else(next (IntKind.i64.wrap (v7+1))))else none))else(next (IntKind.i64.wrap (v7+1))))else none))else(kx0 ()))
def qh2 (v0:LA)(v1:LU)(Av:Bool)(Aw Ax:Int)(kx0:Unit->Option Int):Nat->Int->Option Int
 |0=>(fun _=>none)
 |n+1=>(fun v7=>qh1 v0 v1 v7 Av Aw Ax (qh2 v0 v1 Av Aw Ax kx0 n) kx0)
def q2c:=hull (qh2)
theorem qba1:q2c=qh2:=qa _
def qbec:SubB Tryz.prog (TIof Tryz.prog) 31 0 (kret [.t 6] (decI .i64)):=lpB tabOk follows Tryz.f55 37 (.s (.s .z (.s .z (.v [.sel [] []]))) (.s (.b (.s (.d [] [(2,.e 16 qi),(10,.e 24 qi)] [] []) .z)) (.v [.sel [0,1,5,7] [0]]))) S128_ (qh2) (fun f v K n=>f (v.l 0 0) (v.s 4 0) (v.b 3 0) (v.i 3 1) (v.i 3 2) (qwg K) n) (fun v f K=>qh1 (v.l 0 0) (v.s 4 0) (v.i 28 0) (v.b 3 0) (v.i 3 1) (v.i 3 2) f (qwg K)) (fun f v=>f (v.i 28 0)) (fun k v=>(fun z0=>k (v.ui 28 0 z0)))
def qpj (v0:LA)(v1:LU)(Cw:Bool)(Cx Cy:Int):Option Int:=
 (q2c v0 v1 Cw Cx Cy (fun(_:Unit)=>(some (-1:Int))) FU (0:Int))
def qto:=hull qpj
theorem qbjz:qto=qpj:=qa _
def q34 {R:Type}:EntF Tryz.prog R:=entB (nt:=31) (dec:=(decI .i64)) (enc:=(AV.int .i64)) tabOk follows Tryz.func55 [.t 6] hdeI (.s .z (.s (.s .z (.b (.sub [.sel [0,1,5,7] [0]] qbec []))) .z)) S129_ qpj (fun f v=>f (v.l 0 0) (v.s 4 0) (v.b 9 0) (v.i 9 1) (v.i 9 2))
def S130_:Shp:=⟨[(0,.one (.l (.sl 5))),(3,.one (.ptr 0 0)),(5,.one (.own 1)),(6,.one (.l .b)),(7,.one (.l (.i .i64)))],[.box true (lk qi),.arr true 5]⟩
def q63 (v0:LA)(v6:Bool)(v7:Int)(Av:LU)(Aw:Bool)(Ax Ay Az:Int)(a1:LA)(K:Ex->Env->Mem->Option (List AV)):=(fun z_v23=>K .norm (qk [(0,(.sl 5 v0)),(3,(.ptr 0 0)),(5,(.own 1 a1.length)),(6,(.bool v6)),(7,(.int .i64 v7)),(23,(.bool z_v23))]) (qh [(some (.box true (qfj Av Aw Ax Ay Az))),(some (.arr true 5 a1))]))
def qjs (v0:LA)(v6:Bool)(v7:Int)(Av:LU)(Aw:Bool)(Ax Ay Az:Int)(a1:LA)(kn:Bool->Option (List AV)):Option (List AV):=
 (bif(!v6)then(oB (ixB v0 v7) fun y1=>(bif fitC qi y1.cells then(oB (qrm Av Aw Ax Ay Az (gS y1.cells 0) (gB y1.cells 1) (gI y1.cells 2) (gI y1.cells 3) (gI y1.cells 4)) fun r2=>(kn r2))else none))else(kn false))
def qyq:=hull (qjs)
theorem q64:qyq=qjs:=qa _
def q8z:SubB Tryz.prog (TIof Tryz.prog) 42 0 (kret [.t 4] (decF true 5)):=jnB tabOk follows Tryz.f108 4247 (.d [] [(6,.e 20 qi)] [(0,.c q16.b)] [.sel [0,3,5,6,7,23] [0,1]]) S130_ (qjs) (fun f v K=>f (v.l 0 0) (v.b 24 0) (v.i 28 0) (v.s 3 0) (v.b 3 1) (v.i 3 2) (v.i 3 3) (v.i 3 4) (v.r 1) (q63 (v.l 0 0) (v.b 24 0) (v.i 28 0) (v.s 3 0) (v.b 3 1) (v.i 3 2) (v.i 3 3) (v.i 3 4) (v.r 1) K))
def q65 (v0:LA)(v7:Int)(Av:LU)(Aw:Bool)(Ax Ay Az:Int)(K:Ex->Env->Mem->Option (List AV)):=(fun z_v6 z_a1=>K .norm (qk [(0,(.sl 5 v0)),(3,(.ptr 0 0)),(5,(.own 1 z_a1.length)),(6,(.bool z_v6)),(7,(.int .i64 v7))]) (qh [(some (.box true (qfj Av Aw Ax Ay Az))),(some (.arr true 5 z_a1))]))
def qjt (v0:LA)(v6:Bool)(v7:Int)(Av:LU)(Aw:Bool)(Ax Ay Az:Int)(a1:LA)(kn:Bool->(List AV)->Option (List AV)):Option (List AV):=
 (bif(hd a1 (a1.length)&&true)then(qyq v0 v6 v7 Av Aw Ax Ay Az a1 (fun v23q1=>(bif v23q1 then(bif hd a1 a1.length then(bif hd ([(.agg [(.str Av),(.bool Aw),(.int .u64 Ax),(.int .u64 Ay),(.int .i64 Az)])]:List AV) (([(.agg [(.str Av),(.bool Aw),(.int .u64 Ax),(.int .u64 Ay),(.int .i64 Az)])]:List AV).length)then(bif decide ((a1.length+([(.agg [(.str Av),(.bool Aw),(.int .u64 Ax),(.int .u64 Ay),(.int .i64 Az)])]:List AV).length)*48<=140737488355328)then(kn true (a1++([(.agg [(.str Av),(.bool Aw),(.int .u64 Ax),(.int .u64 Ay),(.int .i64 Az)])]:List AV)))else none)else none)else none)else(kn v6 a1))))else none)
def qyr:=hull (qjt)
theorem q66:qyr=qjt:=qa _
def q80:SubB Tryz.prog (TIof Tryz.prog) 42 0 (kret [.t 4] (decF true 5)):=jnB tabOk follows Tryz.f108 2199 (.s (.sub [.sel [0,3,5,6,7] [0,1]] q8z []) (.s (.s .z (.v [.sel [0,3,5,6,7] [0,1]])) (.v [.sel [0,3,5,6,7] [0,1]]))) S130_ (qjt) (fun f v K=>f (v.l 0 0) (v.b 24 0) (v.i 28 0) (v.s 3 0) (v.b 3 1) (v.i 3 2) (v.i 3 3) (v.i 3 4) (v.r 1) (q65 (v.l 0 0) (v.i 28 0) (v.s 3 0) (v.b 3 1) (v.i 3 2) (v.i 3 3) (v.i 3 4) K))
def qt0 (Av:LU)(Aw:Bool)(Ax Ay Az:Int)(K:Ex->Env->Mem->Option (List AV)):=(fun z_v6 z_a1=>K (.exit 0) (qk [(3,(.ptr 0 0)),(5,(.own 1 z_a1.length)),(6,(.bool z_v6))]) (qh [(some (.box true (qfj Av Aw Ax Ay Az))),(some (.arr true 5 z_a1))]))
def qf0 (v0:LA)(v6:Bool)(v7:Int)(Av:LU)(Aw:Bool)(Ax Ay Az:Int)(a1:LA)(next:Bool->Int->(List AV)->Option (List AV))(kx0:Bool->(List AV)->Option (List AV)):Option (List AV):=
 (bif(decide (v7<(v0.length:Int)))then(bif(hd a1 (a1.length)&&true)then(qyr v0 v6 v7 Av Aw Ax Ay Az a1 (fun v6q1 a1q2=>(oB (ixB v0 v7) fun y3=>(bif fitC qi y3.cells then(bif hd a1q2 a1q2.length then(bif hd ([(.agg [(.str (gS y3.cells 0)),(.bool (gB y3.cells 1)),(.int .u64 (gI y3.cells 2)),(.int .u64 (gI y3.cells 3)),(.int .i64 (gI y3.cells 4))])]:List AV) (([(.agg [(.str (gS y3.cells 0)),(.bool (gB y3.cells 1)),(.int .u64 (gI y3.cells 2)),(.int .u64 (gI y3.cells 3)),(.int .i64 (gI y3.cells 4))])]:List AV).length)then(bif decide ((a1q2.length+([(.agg [(.str (gS y3.cells 0)),(.bool (gB y3.cells 1)),(.int .u64 (gI y3.cells 2)),(.int .u64 (gI y3.cells 3)),(.int .i64 (gI y3.cells 4))])]:List AV).length)*48<=140737488355328)then(next v6q1 (IntKind.i64.wrap (v7+1)) (a1q2++([(.agg [(.str (gS y3.cells 0)),(.bool (gB y3.cells 1)),(.int .u64 (gI y3.cells 2)),(.int .u64 (gI y3.cells 3)),(.int .i64 (gI y3.cells 4))])]:List AV)))else none)else none)else none)else none))))else none)else(kx0 v6 a1))
def qeh (v0:LA)(Av:LU)(Aw:Bool)(Ax Ay Az:Int)(kx0:Bool->(List AV)->Option (List AV)):Nat->Bool->Int->(List AV)->Option (List AV)
 |0=>(fun _ _ _=>none)
 |n+1=>(fun v6 v7 a1=>qf0 v0 v6 v7 Av Aw Ax Ay Az a1 (qeh v0 Av Aw Ax Ay Az kx0 n) kx0)
def qys:=hull (qeh)
theorem q67:qys=qeh:=qa _
def q81:SubB Tryz.prog (TIof Tryz.prog) 42 0 (kret [.t 4] (decF true 5)):=lpB tabOk follows Tryz.f108 151 (.s (.s .z (.s .z (.v [.sel [3,5,6] [0,1]]))) (.s (.b (.s (.sub [.sel [0,3,5,6,7] [0,1]] q80 []) (.r [(3,.p (.etac 31 qi))] []))) (.v [.sel [0,3,5,6,7] [0,1]]))) S130_ (qeh) (fun f v K n=>f (v.l 0 0) (v.s 3 0) (v.b 3 1) (v.i 3 2) (v.i 3 3) (v.i 3 4) (qt0 (v.s 3 0) (v.b 3 1) (v.i 3 2) (v.i 3 3) (v.i 3 4) K) n) (fun v f K=>qf0 (v.l 0 0) (v.b 24 0) (v.i 28 0) (v.s 3 0) (v.b 3 1) (v.i 3 2) (v.i 3 3) (v.i 3 4) (v.r 1) f (qt0 (v.s 3 0) (v.b 3 1) (v.i 3 2) (v.i 3 3) (v.i 3 4) K)) (fun f v=>f (v.b 24 0) (v.i 28 0) (v.r 1)) (fun k v=>(fun z0 z1 z2=>k (((v.ub 24 0 z0).ui 28 0 z1).ur 1 z2)))
def qnz (v0:LA)(B7:LU)(B8:Bool)(B9 Ca Cb:Int):Option (List AV):=
 (bif(hd ([]:List AV) (([]:List AV).length)&&true)then(qys v0 B7 B8 B9 Ca Cb (fun v6q1 a1q2=>(bif(!v6q1)then(bif hd a1q2 a1q2.length then(bif hd ([(.agg [(.str B7),(.bool B8),(.int .u64 B9),(.int .u64 Ca),(.int .i64 Cb)])]:List AV) (([(.agg [(.str B7),(.bool B8),(.int .u64 B9),(.int .u64 Ca),(.int .i64 Cb)])]:List AV).length)then(bif decide ((a1q2.length+([(.agg [(.str B7),(.bool B8),(.int .u64 B9),(.int .u64 Ca),(.int .i64 Cb)])]:List AV).length)*48<=140737488355328)then(bif hd (a1q2++([(.agg [(.str B7),(.bool B8),(.int .u64 B9),(.int .u64 Ca),(.int .i64 Cb)])]:List AV)) ((a1q2++([(.agg [(.str B7),(.bool B8),(.int .u64 B9),(.int .u64 Ca),(.int .i64 Cb)])]:List AV)).length)then(some (a1q2++([(.agg [(.str B7),(.bool B8),(.int .u64 B9),(.int .u64 Ca),(.int .i64 Cb)])]:List AV)))else none)else none)else none)else none)else(bif hd a1q2 a1q2.length then(some a1q2)else none))) FU false (0:Int) ([]:List AV))else none)
def qru:=hull qnz
theorem qbge:qru=qnz:=qa _
def q2d {R:Type}:EntF Tryz.prog R:=entB (nt:=42) (dec:=(decF true 5)) (enc:=(AV.fr true 5)) tabOk follows Tryz.func108 [.t 4] hdeF (.s .z (.s .z (.s .z (.s (.s .z (.b (.sub [.own 5 5,.sel [0,3,5,6,7] [0,1]] q81 []))) .z)))) S80_ qnz (fun f v=>f (v.l 0 0) (v.s 5 0) (v.b 5 1) (v.i 5 2) (v.i 5 3) (v.i 5 4))
def S131_:Shp:=⟨[(0,.one (.l (.sl 5))),(1,.one (.l (.i .i64))),(5,.one (.own 0)),(6,.one (.l (.i .i64)))],[.arr true 5]⟩
def S132_:Shp:=⟨[(0,.one (.l (.sl 5))),(1,.one (.l (.i .i64)))],[]⟩
def qt1 (K:Ex->Env->Mem->Option (List AV)):=(fun z_a0=>K (.exit 0) (qk [(5,(.own 0 z_a0.length))]) (qh [(some (.arr true 5 z_a0))]))
def qf1 (v0:LA)(v1 v6:Int)(a0:LA)(next:Int->(List AV)->Option (List AV))(kx0:(List AV)->Option (List AV)):Option (List AV):=
 (bif(decide (v6<(v0.length:Int)))then(bif(v6 != v1)then(oB (ixB v0 v6) fun y1=>(bif fitC qi y1.cells then(bif hd a0 a0.length then(bif hd ([(.agg [(.str (gS y1.cells 0)),(.bool (gB y1.cells 1)),(.int .u64 (gI y1.cells 2)),(.int .u64 (gI y1.cells 3)),(.int .i64 (gI y1.cells 4))])]:List AV) (([(.agg [(.str (gS y1.cells 0)),(.bool (gB y1.cells 1)),(.int .u64 (gI y1.cells 2)),(.int .u64 (gI y1.cells 3)),(.int .i64 (gI y1.cells 4))])]:List AV).length)then(bif decide ((a0.length+([(.agg [(.str (gS y1.cells 0)),(.bool (gB y1.cells 1)),(.int .u64 (gI y1.cells 2)),(.int .u64 (gI y1.cells 3)),(.int .i64 (gI y1.cells 4))])]:List AV).length)*48<=140737488355328)then(next (IntKind.i64.wrap (v6+1)) (a0++([(.agg [(.str (gS y1.cells 0)),(.bool (gB y1.cells 1)),(.int .u64 (gI y1.cells 2)),(.int .u64 (gI y1.cells 3)),(.int .i64 (gI y1.cells 4))])]:List AV)))else none)else none)else none)else none))else(next (IntKind.i64.wrap (v6+1)) a0))else(kx0 a0))
def qf2 (v0:LA)(v1:Int)(kx0:(List AV)->Option (List AV)):Nat->Int->(List AV)->Option (List AV)
 |0=>(fun _ _=>none)
 |n+1=>(fun v6 a0=>qf1 v0 v1 v6 a0 (qf2 v0 v1 kx0 n) kx0)
def qyt:=hull (qf2)
theorem q68:qyt=qf2:=qa _
def q82:SubB Tryz.prog (TIof Tryz.prog) 24 0 (kret [.t 4] (decF true 5)):=lpB tabOk follows Tryz.f109 75 (.s (.s .z (.s .z (.v [.sel [5] [0]]))) (.s (.b (.s .z (.s (.r [(3,.p (.etac 19 qi))] []) .z))) (.v [.sel [0,1,5,6] [0]]))) S131_ (qf2) (fun f v K n=>f (v.l 0 0) (v.i 4 0) (qt1 K) n) (fun v f K=>qf1 (v.l 0 0) (v.i 4 0) (v.i 24 0) (v.r 0) f (qt1 K)) (fun f v=>f (v.i 24 0) (v.r 0)) (fun k v=>(fun z0 z1=>k ((v.ui 24 0 z0).ur 0 z1)))
def qmz (v0:LA)(v1:Int):Option (List AV):=
 (bif(hd ([]:List AV) (([]:List AV).length)&&true)then(qyt v0 v1 (fun a0q1=>(bif hd a0q1 a0q1.length then(some a0q1)else none)) FU (0:Int) ([]:List AV))else none)
def qv3:=hull qmz
theorem qbed:qv3=qmz:=qa _
def qbgf {R:Type}:EntF Tryz.prog R:=entB (nt:=24) (dec:=(decF true 5)) (enc:=(AV.fr true 5)) tabOk follows Tryz.func109 [.t 4] hdeF (.s .z (.s .z (.s (.s .z (.b (.sub [.own 5 5,.sel [0,1,5,6] [0]] q82 []))) .z))) S132_ qmz (fun f v=>f (v.l 0 0) (v.i 4 0))
def S133_:Shp:=⟨[(2,.one (.ptr 0 0)),(3,.one (.ptr 1 0)),(4,.one (.ptr 2 0)),(6,.one (.ptr 3 0)),(7,.one (.l (.i .i64))),(9,.one (.l (.sl 5)))],[.box true (lk qbx),.box true (lk qd2),.box true [(.l .nil),(.l .nil),(.l .nil)],.box true [(.l .nil),(.l .nil),(.l .nil)]]⟩
def q0t:AV->Option (AV×Int):=decN [(.st [(.sl 8),(.sl 5),(.sl 1)]),(.one (.i .i64))] fun z=>((gC (tpL z) 0),aI (gC (tpL z) 1))
def q83 (v7:Int)(v9 Av Aw Ax:LA)(Ad:Int)(Ae:Bool)(Af Ag Ah Ai:Int)(Aj Ak:LU)(Al Am An:Int)(Ao:LU)(Ap:Bool)(Aq Ar As:Int)(At:LU)(K:Ex->Env->Mem->Option (AV×Int)):=(fun z_v90=>K .norm (qk [(2,(.ptr 0 0)),(3,(.ptr 1 0)),(4,(.ptr 2 0)),(6,(.ptr 3 0)),(7,(.int .i64 v7)),(9,(.sl 5 v9)),(90,(.bool z_v90))]) (qh [(some (.box true (qby Av Aw Ax))),(some (.box true (qgd Ad Ae Af Ag Ah Ai Aj Ak Al Am An Ao Ap Aq Ar As At))),(some (.box true [.nils,.nils,.nils])),(some (.box true [.nils,.nils,.nils]))]))
def qkt (v7:Int)(v9 Av Aw Ax:LA)(Ad:Int)(Ae:Bool)(Af Ag Ah Ai:Int)(Aj Ak:LU)(Al Am An:Int)(Ao:LU)(Ap:Bool)(Aq Ar As:Int)(At:LU)(kn:Bool->Option (AV×Int)):Option (AV×Int):=
 (oB (qn8 At) fun r1=>(bif(!r1)then(kn true)else(oB (ixB At (0:Int)) fun c2=>(kn ((c2.toNat:Int)==42)))))
def qsr:=hull (qkt)
theorem q84:qsr=qkt:=qa _
def qba2:SubB Tryz.prog (TIof Tryz.prog) 129 0 (kret [(.cell 4 true 3),.t 5] q0t):=jnB tabOk follows Tryz.f50 639 (.r [(2,.c qvu.b)] [.sel [2,3,4,6,7,9,90] [0,1,2,3]]) S133_ (qkt) (fun f v K=>f (v.i 28 0) (v.l 36 0) (v.l 3 0) (v.l 3 1) (v.l 3 2) (v.i 7 0) (v.b 7 1) (v.i 7 2) (v.i 7 3) (v.i 7 4) (v.i 7 5) (v.s 7 6) (v.s 7 7) (v.i 7 8) (v.i 7 9) (v.i 7 10) (v.s 7 11) (v.b 7 12) (v.i 7 13) (v.i 7 14) (v.i 7 15) (v.s 7 16) (q83 (v.i 28 0) (v.l 36 0) (v.l 3 0) (v.l 3 1) (v.l 3 2) (v.i 7 0) (v.b 7 1) (v.i 7 2) (v.i 7 3) (v.i 7 4) (v.i 7 5) (v.s 7 6) (v.s 7 7) (v.i 7 8) (v.i 7 9) (v.i 7 10) (v.s 7 11) (v.b 7 12) (v.i 7 13) (v.i 7 14) (v.i 7 15) (v.s 7 16) K))
def qpk (Aa Ab Ac:LA)(B7:Int)(B8:Bool)(B9 Ca Cb Cc:Int)(Cd Ce:LU)(C0 C1 C2:Int)(C3:LU)(C4:Bool)(C5 C6 C7:Int)(C8:LU):Option (AV×Int):=
 (oB (qto Ab C3 C4 C5 C6) fun r1=>(bif(B7==4)then(bif hd ([(.agg [(.str C3),(.bool C4),(.int .u64 C5),(.int .u64 C6),(.int .i64 C7)])]:List AV) (([(.agg [(.str C3),(.bool C4),(.int .u64 C5),(.int .u64 C6),(.int .i64 C7)])]:List AV).length)then(oB (qtl ([(.agg [(.str C3),(.bool C4),(.int .u64 C5),(.int .u64 C6),(.int .i64 C7)])]:List AV)) fun r2=>(bif(r2 != (0:Int))then(some ((.agg [(.sl 8 ([]:List AV)),(.sl 5 ([]:List AV)),(.sl 1 ([]:List AV))]),r2))else(bif(decide (r1>=0))then(some ((.agg [(.sl 8 ([]:List AV)),(.sl 5 ([]:List AV)),(.sl 1 ([]:List AV))]),(12:Int)))else(bif(decide ((Ab.length:Int)>=256))then(some ((.agg [(.sl 8 ([]:List AV)),(.sl 5 ([]:List AV)),(.sl 1 ([]:List AV))]),(9:Int)))else(oB (qk9 Aa C4 C5 C6) fun r3=>(bif(!r3)then(some ((.agg [(.sl 8 ([]:List AV)),(.sl 5 ([]:List AV)),(.sl 1 ([]:List AV))]),(25:Int)))else(oB (qn9 Ac C3) fun r4=>(bif(!r4)then(some ((.agg [(.sl 8 ([]:List AV)),(.sl 5 ([]:List AV)),(.sl 1 ([]:List AV))]),(13:Int)))else(oB (qru Ab C3 C4 C5 C6 C7) fun r5=>(some ((.agg [(.sl 8 Aa),(.sl 5 r5),(.sl 1 Ac)]),(0:Int))))))))))))else none)else(bif(decide (r1<0))then(some ((.agg [(.sl 8 ([]:List AV)),(.sl 5 ([]:List AV)),(.sl 1 ([]:List AV))]),(11:Int)))else(oB (qv3 Ab r1) fun r6=>(bif(B7==5)then(some ((.agg [(.sl 8 Aa),(.sl 5 r6),(.sl 1 Ac)]),(0:Int)))else(qsr r1 r6 Aa Ab Ac B7 B8 B9 Ca Cb Cc Cd Ce C0 C1 C2 C3 C4 C5 C6 C7 C8 (fun v90q7=>(bif v90q7 then(some ((.agg [(.sl 8 ([]:List AV)),(.sl 5 ([]:List AV)),(.sl 1 ([]:List AV))]),(2:Int)))else(oB (qto Ab C8 C4 C5 C6) fun r8=>(bif(decide (r8>=0))then(some ((.agg [(.sl 8 ([]:List AV)),(.sl 5 ([]:List AV)),(.sl 1 ([]:List AV))]),(12:Int)))else(oB (qn9 Ac C8) fun r9=>(bif(!r9)then(some ((.agg [(.sl 8 ([]:List AV)),(.sl 5 ([]:List AV)),(.sl 1 ([]:List AV))]),(13:Int)))else(oB (ixB Ab r1) fun y10=>(bif fitC qi y10.cells then(oB (qru r6 C8 C4 C5 C6 (gI y10.cells 4)) fun r11=>(some ((.agg [(.sl 8 Aa),(.sl 5 r11),(.sl 1 Ac)]),(0:Int))))else none))))))))))))))
def qy8:=hull qpk
theorem qbj0:qy8=qpk:=qa _
def qblz {R:Type}:EntF Tryz.prog R:=entB (nt:=129) (dec:=q0t) (enc:=(fun r=>.tup [qcp (.st [(.sl 8),(.sl 5),(.sl 1)]) r.1,.int .i64 r.2])) tabOk follows Tryz.func50 [(.cell 4 true 3),.t 5] (hdeN fun _=>rfl) (.s .z (.s .z (.s (.r [(8,.c q34.b)] []) (.s (.s .z (.s (.s (.s (.r [(3,.c q3u.b)] []) (.s .z (.s (.s .z (.v [.nilc 2 0 8,.nilc 2 1 5,.nilc 2 2 1])) .z))) (.s (.s .z (.s (.s .z (.v [.nilc 2 0 8,.nilc 2 1 5,.nilc 2 2 1])) .z)) (.s (.s .z (.s (.s .z (.v [.nilc 2 0 8,.nilc 2 1 5,.nilc 2 2 1])) .z)) (.s (.s (.r [(5,.c qsm.b)] []) (.s (.s .z (.v [.nilc 2 0 8,.nilc 2 1 5,.nilc 2 2 1])) .z)) (.s (.s (.r [(5,.c qvw.b)] []) (.s (.s .z (.v [.nilc 2 0 8,.nilc 2 1 5,.nilc 2 2 1])) .z)) (.s (.d [] [(6,.c q2d.b)] [] []) .z)))))) .z)) (.s (.s .z (.s (.s .z (.v [.nilc 2 0 8,.nilc 2 1 5,.nilc 2 2 1])) .z)) (.s (.r [(3,.k qbgf.b)] []) (.s .z (.s (.s (.sub [.sel [2,3,4,6,7,9] [0,1,2,3]] qba2 []) (.s (.s .z (.v [.nilc 2 0 8,.nilc 2 1 5,.nilc 2 2 1])) .z)) (.s (.s (.r [(7,.c q34.b)] []) (.s (.s .z (.v [.nilc 2 0 8,.nilc 2 1 5,.nilc 2 2 1])) .z)) (.s (.s (.r [(4,.c qvw.b)] []) (.s (.s .z (.v [.nilc 2 0 8,.nilc 2 1 5,.nilc 2 2 1])) .z)) (.s (.d [] [(8,.e 117 qi)] [] []) (.s (.d [] [(4,.c q2d.b)] [] []) .z)))))))))))) S90_ qpk (fun f v=>f (v.l 1 0) (v.l 1 1) (v.l 1 2) (v.i 5 0) (v.b 5 1) (v.i 5 2) (v.i 5 3) (v.i 5 4) (v.i 5 5) (v.s 5 6) (v.s 5 7) (v.i 5 8) (v.i 5 9) (v.i 5 10) (v.s 5 11) (v.b 5 12) (v.i 5 13) (v.i 5 14) (v.i 5 15) (v.s 5 16))
def S134_:Shp:=⟨[(2,.one (.ptr 0 0)),(3,.one (.ptr 1 0)),(4,.one (.ptr 2 0)),(6,.one (.ptr 3 0))],[.box true (lk qbx),.box true (lk qd2),.box true [(.l .nil),(.l .nil),(.l .nil)],.box true [(.l .nil),(.l .nil),(.l .nil)]]⟩
def S135_:Shp:=⟨[(2,.one (.ptr 0 0)),(4,.one (.ptr 1 0)),(6,.one (.ptr 2 0)),(9,.one (.l (.sl 8))),(11,.one (.l (.i .i64)))],[.box true (lk qbx),.box true [(.l .nil),(.l .nil),(.l .nil)],.box true [(.l .nil),(.l .nil),(.l .nil)]]⟩
def qss:AV->Option (AV×Int):=decN [(.st [(.sl 8),(.sl 5),(.sl 1)]),(.one (.i .i64))] fun z=>((gC (tpL z) 0),aI (gC (tpL z) 1))
def qba3 (Av Aw Ax:LA)(Ad:Int)(Ae:Bool)(Af Ag Ah Ai:Int)(Aj Ak:LU)(Al Am An:Int)(Ao:LU)(Ap:Bool)(Aq Ar As:Int)(At:LU)(K:Ex->Env->Mem->Option (AV×Int)):=(fun z_v28=>K .norm (qk [(2,(.ptr 0 0)),(3,(.ptr 1 0)),(4,(.ptr 2 0)),(6,(.ptr 3 0)),(28,(.bool z_v28))]) (qh [(some (.box true (qby Av Aw Ax))),(some (.box true (qgd Ad Ae Af Ag Ah Ai Aj Ak Al Am An Ao Ap Aq Ar As At))),(some (.box true [.nils,.nils,.nils])),(some (.box true [.nils,.nils,.nils]))]))
def qls (Av Aw Ax:LA)(Ad:Int)(Ae:Bool)(Af Ag Ah Ai:Int)(Aj Ak:LU)(Al Am An:Int)(Ao:LU)(Ap:Bool)(Aq Ar As:Int)(At:LU)(kn:Bool->Option (AV×Int)):Option (AV×Int):=
 (bif(decide (Ad<1))then(kn true)else(bif(decide (Ad>6))then(kn true)else(oB (q1m Ad Ae Af Ag Ah Ai Aj Ak Al Am An Ao Ap Aq Ar As At) fun r1=>(kn (!(((gI r1.cells 0)==Ad)&&(((gB r1.cells 1)==Ae)&&(((gI r1.cells 2)==Af)&&(((gI r1.cells 3)==Ag)&&(((gI r1.cells 4)==Ah)&&(((gI r1.cells 5)==Ai)&&(((gS r1.cells 6)==Aj)&&(((gS r1.cells 7)==Ak)&&(((gI r1.cells 8)==Al)&&(((gI r1.cells 9)==Am)&&(((gI r1.cells 10)==An)&&(((gS r1.cells 11)==Ao)&&(((gB r1.cells 12)==Ap)&&(((gI r1.cells 13)==Aq)&&(((gI r1.cells 14)==Ar)&&(((gI r1.cells 15)==As)&&(((gS r1.cells 16)==At)&&true))))))))))))))))))))))
def qud:=hull (qls)
theorem qba4:qud=qls:=qa _
def qbee:SubB Tryz.prog (TIof Tryz.prog) 128 0 (kret [(.cell 4 true 3),.t 5] qss):=jnB tabOk follows Tryz.f15 19 (.d [] [(10,.c qbne.b)] [] [.sel [2,3,4,6,28] [0,1,2,3]]) S134_ (qls) (fun f v K=>f (v.l 3 0) (v.l 3 1) (v.l 3 2) (v.i 7 0) (v.b 7 1) (v.i 7 2) (v.i 7 3) (v.i 7 4) (v.i 7 5) (v.s 7 6) (v.s 7 7) (v.i 7 8) (v.i 7 9) (v.i 7 10) (v.s 7 11) (v.b 7 12) (v.i 7 13) (v.i 7 14) (v.i 7 15) (v.s 7 16) (qba3 (v.l 3 0) (v.l 3 1) (v.l 3 2) (v.i 7 0) (v.b 7 1) (v.i 7 2) (v.i 7 3) (v.i 7 4) (v.i 7 5) (v.s 7 6) (v.s 7 7) (v.i 7 8) (v.i 7 9) (v.i 7 10) (v.s 7 11) (v.b 7 12) (v.i 7 13) (v.i 7 14) (v.i 7 15) (v.s 7 16) K))
def quv (v9 Av Aw Ax:LA)(K:Ex->Env->Mem->Option (AV×Int)):=(fun(_:Unit)=>K (.exit 0) (qk [(2,(.ptr 0 0)),(4,(.ptr 1 0)),(9,(.sl 8 v9))]) (qh [(some (.box true (qby Av Aw Ax))),(some (.box true [.nils,.nils,.nils]))]))
def qgz (v9:LA)(v11:Int)(Av Aw Ax:LA)(next:Int->Option (AV×Int))(kx0:Unit->Option (AV×Int)):Option (AV×Int):=
 (bif(decide (v11<(Aw.length:Int)))then(oB (ixB Aw v11) fun y1=>(bif fitC qi y1.cells then(oB (qk9 v9 (gB y1.cells 1) (gI y1.cells 2) (gI y1.cells 3)) fun r2=>(bif(!r2)then(some ((.agg [(.sl 8 ([]:List AV)),(.sl 5 ([]:List AV)),(.sl 1 ([]:List AV))]),(25:Int)))else(next (IntKind.i64.wrap (v11+1)))))else none))else(kx0 ()))
def qg0 (v9 Av Aw Ax:LA)(kx0:Unit->Option (AV×Int)):Nat->Int->Option (AV×Int)
 |0=>(fun _=>none)
 |n+1=>(fun v11=>qgz v9 v11 Av Aw Ax (qg0 v9 Av Aw Ax kx0 n) kx0)
def qst:=hull (qg0)
theorem q85:qst=qg0:=qa _
def qba5:SubB Tryz.prog (TIof Tryz.prog) 128 0 (kret [(.cell 4 true 3),.t 5] qss):=lpB tabOk follows Tryz.f15 9647 (.s (.s .z (.s .z (.v [.sel [2,4,9] [0,1]]))) (.s (.b (.s (.r [(4,.p (.etac 78 qi)),(7,.c qsm.b)] []) (.s (.s .z (.v [.nilc 1 0 8,.nilc 1 1 5,.nilc 1 2 1])) .z))) (.v [.sel [2,4,6,9,11] [0,1,2]]))) S135_ (qg0) (fun f v K n=>f (v.l 36 0) (v.l 3 0) (v.l 3 1) (v.l 3 2) (quv (v.l 36 0) (v.l 3 0) (v.l 3 1) (v.l 3 2) K) n) (fun v f K=>qgz (v.l 36 0) (v.i 44 0) (v.l 3 0) (v.l 3 1) (v.l 3 2) f (quv (v.l 36 0) (v.l 3 0) (v.l 3 1) (v.l 3 2) K)) (fun f v=>f (v.i 44 0)) (fun k v=>(fun z0=>k (v.ui 44 0 z0)))
def qpl (Aa Ab Ac:LA)(B7:Int)(B8:Bool)(B9 Ca Cb Cc:Int)(Cd Ce:LU)(C0 C1 C2:Int)(C3:LU)(C4:Bool)(C5 C6 C7:Int)(C8:LU):Option (AV×Int):=
 (qud Aa Ab Ac B7 B8 B9 Ca Cb Cc Cd Ce C0 C1 C2 C3 C4 C5 C6 C7 C8 (fun v28q1=>(bif v28q1 then(some ((.agg [(.sl 8 ([]:List AV)),(.sl 5 ([]:List AV)),(.sl 1 ([]:List AV))]),(1:Int)))else(bif(B7==1)then(oB (qxs Aa B8 B9 Ca Cb Cc Cd Ce C0) fun r2=>(bif(r2.2 != (0:Int))then(some ((.agg [(.sl 8 ([]:List AV)),(.sl 5 ([]:List AV)),(.sl 1 ([]:List AV))]),r2.2))else(some ((.agg [(.sl 8 r2.1),(.sl 5 Ab),(.sl 1 Ac)]),(0:Int)))))else(bif(B7==2)then(oB (qxt Aa B8 B9 Ca Cb) fun r3=>(bif(r3.2 != (0:Int))then(some ((.agg [(.sl 8 ([]:List AV)),(.sl 5 ([]:List AV)),(.sl 1 ([]:List AV))]),r3.2))else(qst r3.1 Aa Ab Ac (fun(_:Unit)=>(some ((.agg [(.sl 8 r3.1),(.sl 5 Ab),(.sl 1 Ac)]),(0:Int)))) FU (0:Int))))else(bif(B7==3)then(oB (quc Aa B8 B9 Ca Cb C1 C2 Cd Ce) fun r4=>(bif(r4.2.2 != (0:Int))then(some ((.agg [(.sl 8 ([]:List AV)),(.sl 5 ([]:List AV)),(.sl 1 ([]:List AV))]),r4.2.2))else(some ((.agg [(.sl 8 r4.1),(.sl 5 Ab),(.sl 1 Ac)]),(0:Int)))))else(oB (qy8 Aa Ab Ac B7 B8 B9 Ca Cb Cc Cd Ce C0 C1 C2 C3 C4 C5 C6 C7 C8) fun r5=>(some ((.agg [(.sl 8 (gL r5.1.cells 0)),(.sl 5 (gL r5.1.cells 1)),(.sl 1 (gL r5.1.cells 2))]),r5.2)))))))))
def qy9:=hull qpl
theorem qbj1:qy9=qpl:=qa _
def qbl0 {R:Type}:EntF Tryz.prog R:=entB (nt:=128) (dec:=qss) (enc:=(fun r=>.tup [qcp (.st [(.sl 8),(.sl 5),(.sl 1)]) r.1,.int .i64 r.2])) tabOk follows Tryz.func15 [(.cell 4 true 3),.t 5] (hdeN fun _=>rfl) (.s .z (.s .z (.s (.s (.sub [.sel [2,3,4,6] [0,1,2,3]] qbee []) (.s (.s .z (.v [.nilc 2 0 8,.nilc 2 1 5,.nilc 2 2 1])) .z)) (.s (.s .z (.s (.s (.r [(4,.k q8p.b)] []) (.s (.s .z (.s (.s .z (.v [.nilc 2 0 8,.nilc 2 1 5,.nilc 2 2 1])) .z)) .z)) .z)) (.s (.s .z (.s (.s (.r [(5,.k qbju.b)] []) (.s (.s .z (.s (.s .z (.v [.nilc 2 0 8,.nilc 2 1 5,.nilc 2 2 1])) .z)) (.s (.s .z (.b (.sub [.sel [2,4,6,9,11] [0,2,3]] qba5 []))) .z))) .z)) (.s (.s .z (.s (.s (.r [(15,.k qbeb.b)] []) (.s (.s .z (.s (.s .z (.v [.nilc 2 0 8,.nilc 2 1 5,.nilc 2 2 1])) .z)) .z)) .z)) (.s (.r [(2,.k qblz.b)] []) .z))))))) S90_ qpl (fun f v=>f (v.l 1 0) (v.l 1 1) (v.l 1 2) (v.i 5 0) (v.b 5 1) (v.i 5 2) (v.i 5 3) (v.i 5 4) (v.i 5 5) (v.s 5 6) (v.s 5 7) (v.i 5 8) (v.i 5 9) (v.i 5 10) (v.s 5 11) (v.b 5 12) (v.i 5 13) (v.i 5 14) (v.i 5 15) (v.s 5 16))
def S136_:Shp:=⟨[(2,.one (.ptr 0 0)),(3,.one (.ptr 1 0)),(35,.one (.l (.i .i64))),(36,.one (.l (.i .i64)))],[.box true (lk qbx),.box true (lk qbx)]⟩
def S137_:Shp:=⟨[(2,.one (.ptr 0 0)),(3,.one (.ptr 1 0)),(53,.one (.l (.i .i64))),(54,.one (.l (.i .i64)))],[.box true (lk qbx),.box true (lk qbx)]⟩
def S138_:Shp:=⟨[(2,.one (.ptr 0 0)),(3,.one (.ptr 1 0)),(71,.one (.l (.i .i64))),(72,.one (.l (.i .i64)))],[.box true (lk qbx),.box true (lk qbx)]⟩
def S139_:Shp:=⟨[(0,.st (lk qbx)),(1,.st (lk qbx))],[]⟩
def qwh (Av Aw Ax Ad Ae Af:LA)(K:Ex->Env->Mem->Option Bool):=(fun(_:Unit)=>K (.exit 0) (qk [(2,(.ptr 0 0)),(3,(.ptr 1 0))]) (qh [(some (.box true (qby Av Aw Ax))),(some (.box true (qby Ad Ae Af)))]))
def qh3 (v35 v36:Int)(Av Aw Ax Ad Ae Af:LA)(next:Int->Option Bool)(kx0:Unit->Option Bool):Option Bool:=
 (bif(decide (v36<v35))then(oB (ixB Av v36) fun y1=>(bif fitC qb y1.cells then(oB (ixB Ad v36) fun y2=>(bif fitC qb y2.cells then(bif(!(((gB y1.cells 0)==(gB y2.cells 0))&&(((gI y1.cells 1)==(gI y2.cells 1))&&(((gI y1.cells 2)==(gI y2.cells 2))&&(((gI y1.cells 3)==(gI y2.cells 3))&&(((gI y1.cells 4)==(gI y2.cells 4))&&(((gS y1.cells 5)==(gS y2.cells 5))&&(((gS y1.cells 6)==(gS y2.cells 6))&&(((gI y1.cells 7)==(gI y2.cells 7))&&true)))))))))then(some false)else(next (IntKind.i64.wrap (v36+1))))else none))else none))else(kx0 ()))
def qh4 (v35:Int)(Av Aw Ax Ad Ae Af:LA)(kx0:Unit->Option Bool):Nat->Int->Option Bool
 |0=>(fun _=>none)
 |n+1=>(fun v36=>qh3 v35 v36 Av Aw Ax Ad Ae Af (qh4 v35 Av Aw Ax Ad Ae Af kx0 n) kx0)
def que:=hull (qh4)
theorem qba6:que=qh4:=qa _
def qbef:SubB Tryz.prog (TIof Tryz.prog) 87 0 (kret [.t 4] decB):=lpB tabOk follows Tryz.f16 75 (.s .z (.s (.s .z (.v [.sel [2,3] [0,1]])) (.s (.b (.s .z (.s (.d [] [(3,.e 42 qb),(8,.e 47 qb)] [] []) .z))) (.v [.sel [2,3,35,36] [0,1]])))) S136_ (qh4) (fun f v K n=>f (v.i 140 0) (v.l 3 0) (v.l 3 1) (v.l 3 2) (v.l 7 0) (v.l 7 1) (v.l 7 2) (qwh (v.l 3 0) (v.l 3 1) (v.l 3 2) (v.l 7 0) (v.l 7 1) (v.l 7 2) K) n) (fun v f K=>qh3 (v.i 140 0) (v.i 144 0) (v.l 3 0) (v.l 3 1) (v.l 3 2) (v.l 7 0) (v.l 7 1) (v.l 7 2) f (qwh (v.l 3 0) (v.l 3 1) (v.l 3 2) (v.l 7 0) (v.l 7 1) (v.l 7 2) K)) (fun f v=>f (v.i 144 0)) (fun k v=>(fun z0=>k (v.ui 144 0 z0)))
def qwi (Av Aw Ax Ad Ae Af:LA)(K:Ex->Env->Mem->Option Bool):=(fun(_:Unit)=>K (.exit 2) (qk [(2,(.ptr 0 0)),(3,(.ptr 1 0))]) (qh [(some (.box true (qby Av Aw Ax))),(some (.box true (qby Ad Ae Af)))]))
def qh5 (v53 v54:Int)(Av Aw Ax Ad Ae Af:LA)(next:Int->Option Bool)(kx2:Unit->Option Bool):Option Bool:=
 (bif(decide (v54<v53))then(oB (ixB Aw v54) fun y1=>(bif fitC qi y1.cells then(oB (ixB Ae v54) fun y2=>(bif fitC qi y2.cells then(bif(!(((gS y1.cells 0)==(gS y2.cells 0))&&(((gB y1.cells 1)==(gB y2.cells 1))&&(((gI y1.cells 2)==(gI y2.cells 2))&&(((gI y1.cells 3)==(gI y2.cells 3))&&(((gI y1.cells 4)==(gI y2.cells 4))&&true))))))then(some false)else(next (IntKind.i64.wrap (v54+1))))else none))else none))else(kx2 ()))
def qh6 (v53:Int)(Av Aw Ax Ad Ae Af:LA)(kx2:Unit->Option Bool):Nat->Int->Option Bool
 |0=>(fun _=>none)
 |n+1=>(fun v54=>qh5 v53 v54 Av Aw Ax Ad Ae Af (qh6 v53 Av Aw Ax Ad Ae Af kx2 n) kx2)
def quf:=hull (qh6)
theorem qba7:quf=qh6:=qa _
def qbeg:SubB Tryz.prog (TIof Tryz.prog) 87 0 (kret [.t 4] decB):=lpB tabOk follows Tryz.f16 151 (.s .z (.s (.s .z (.v [.sel [2,3] [0,1]])) (.s (.b (.s .z (.s (.d [] [(3,.e 60 qi),(8,.e 65 qi)] [] []) .z))) (.v [.sel [2,3,53,54] [0,1]])))) S137_ (qh6) (fun f v K n=>f (v.i 212 0) (v.l 3 0) (v.l 3 1) (v.l 3 2) (v.l 7 0) (v.l 7 1) (v.l 7 2) (qwi (v.l 3 0) (v.l 3 1) (v.l 3 2) (v.l 7 0) (v.l 7 1) (v.l 7 2) K) n) (fun v f K=>qh5 (v.i 212 0) (v.i 216 0) (v.l 3 0) (v.l 3 1) (v.l 3 2) (v.l 7 0) (v.l 7 1) (v.l 7 2) f (qwi (v.l 3 0) (v.l 3 1) (v.l 3 2) (v.l 7 0) (v.l 7 1) (v.l 7 2) K)) (fun f v=>f (v.i 216 0)) (fun k v=>(fun z0=>k (v.ui 216 0 z0)))
def qwj (K:Ex->Env->Mem->Option Bool):=(fun(_:Unit)=>K (.exit 4) (qk []) (qh []))
def qh7 (v71 v72:Int)(Av Aw Ax Ad Ae Af:LA)(next:Int->Option Bool)(kx4:Unit->Option Bool):Option Bool:=
 (bif(decide (v72<v71))then(oB (ixB Ax v72) fun y1=>(bif fitC [.s] y1.cells then(oB (ixB Af v72) fun y2=>(bif fitC [.s] y2.cells then(bif(!((gS y1.cells 0)==(gS y2.cells 0)))then(some false)else(next (IntKind.i64.wrap (v72+1))))else none))else none))else(kx4 ()))
def qh8 (v71:Int)(Av Aw Ax Ad Ae Af:LA)(kx4:Unit->Option Bool):Nat->Int->Option Bool
 |0=>(fun _=>none)
 |n+1=>(fun v72=>qh7 v71 v72 Av Aw Ax Ad Ae Af (qh8 v71 Av Aw Ax Ad Ae Af kx4 n) kx4)
def qug:=hull (qh8)
theorem qba8:qug=qh8:=qa _
def qbeh:SubB Tryz.prog (TIof Tryz.prog) 87 0 (kret [.t 4] decB):=lpB tabOk follows Tryz.f16 303 (.s .z (.s (.s .z (.v [.sel [] []])) (.s (.b (.s .z (.s (.d [] [(3,.e 78 [.s]),(8,.e 83 [.s])] [] []) .z))) (.v [.sel [2,3,71,72] [0,1]])))) S138_ (qh8) (fun f v K n=>f (v.i 284 0) (v.l 3 0) (v.l 3 1) (v.l 3 2) (v.l 7 0) (v.l 7 1) (v.l 7 2) (qwj K) n) (fun v f K=>qh7 (v.i 284 0) (v.i 288 0) (v.l 3 0) (v.l 3 1) (v.l 3 2) (v.l 7 0) (v.l 7 1) (v.l 7 2) f (qwj K)) (fun f v=>f (v.i 288 0)) (fun k v=>(fun z0=>k (v.ui 288 0 z0)))
def qrv (Aa Ab Ac B7 B8 B9:LA):Option Bool:=
 (bif((((Aa.length:Int) != (B7.length:Int))||((Ab.length:Int) != (B8.length:Int)))||((Ac.length:Int) != (B9.length:Int)))then(some false)else(que (Aa.length:Int) Aa Ab Ac B7 B8 B9 (fun(_:Unit)=>(quf (Ab.length:Int) Aa Ab Ac B7 B8 B9 (fun(_:Unit)=>(qug (Ac.length:Int) Aa Ab Ac B7 B8 B9 (fun(_:Unit)=>(some true)) FU (0:Int))) FU (0:Int))) FU (0:Int)))
def qvj:=hull qrv
theorem qbl1:qvj=qrv:=qa _
def qbnm {R:Type}:EntF Tryz.prog R:=entB (nt:=87) (dec:=decB) (enc:=AV.bool) tabOk follows Tryz.func16 [.t 4] hdeB (.s .z (.s (.s (.r [(8,.g 7),(17,.g 7)] []) .z) (.s (.s .z (.b (.sub [.sel [2,3,35,36] [0,1]] qbef []))) (.s (.s .z (.b (.sub [.sel [2,3,53,54] [0,1]] qbeg []))) (.s (.s .z (.b (.sub [.sel [2,3,71,72] [0,1]] qbeh []))) .z))))) S139_ qrv (fun f v=>f (v.l 1 0) (v.l 1 1) (v.l 1 2) (v.l 5 0) (v.l 5 1) (v.l 5 2))
def S140_:Shp:=⟨[(2,.one (.ptr 0 0)),(3,.one (.ptr 1 0))],[.box true (lk qbx),.box true (lk qd2)]⟩
def qza (Av Aw Ax:LA)(Ad:Int)(Ae:Bool)(Af Ag Ah Ai:Int)(Aj Ak:LU)(Al Am An:Int)(Ao:LU)(Ap:Bool)(Aq Ar As:Int)(At:LU)(K:Ex->Env->Mem->Option Bool):=(fun z_v15=>K .norm (qk [(2,(.ptr 0 0)),(3,(.ptr 1 0)),(15,(.bool z_v15))]) (qh [(some (.box true (qby Av Aw Ax))),(some (.box true (qgd Ad Ae Af Ag Ah Ai Aj Ak Al Am An Ao Ap Aq Ar As At)))]))
def qe2 (Av Aw Ax:LA)(Ad:Int)(Ae:Bool)(Af Ag Ah Ai:Int)(Aj Ak:LU)(Al Am An:Int)(Ao:LU)(Ap:Bool)(Aq Ar As:Int)(At:LU)(kn:Bool->Option Bool):Option Bool:=
 (oB (qwx Av Aw Ax ([]:List AV)) fun r1=>(bif r1 then(kn true)else(oB (qy6 Av Aw Ax) fun r2=>(kn (r2 != (0:Int))))))
def qrw:=hull (qe2)
theorem qzb:qrw=qe2:=qa _
def q0u:SubB Tryz.prog (TIof Tryz.prog) 40 0 (kret [.t 4] decB):=jnB tabOk follows Tryz.f3 9 (.r [(1,.c qbie.b),(4,.c qblr.b)] [.sel [2,3,15] [0,1]]) S140_ (qe2) (fun f v K=>f (v.l 3 0) (v.l 3 1) (v.l 3 2) (v.i 7 0) (v.b 7 1) (v.i 7 2) (v.i 7 3) (v.i 7 4) (v.i 7 5) (v.s 7 6) (v.s 7 7) (v.i 7 8) (v.i 7 9) (v.i 7 10) (v.s 7 11) (v.b 7 12) (v.i 7 13) (v.i 7 14) (v.i 7 15) (v.s 7 16) (qza (v.l 3 0) (v.l 3 1) (v.l 3 2) (v.i 7 0) (v.b 7 1) (v.i 7 2) (v.i 7 3) (v.i 7 4) (v.i 7 5) (v.s 7 6) (v.s 7 7) (v.i 7 8) (v.i 7 9) (v.i 7 10) (v.s 7 11) (v.b 7 12) (v.i 7 13) (v.i 7 14) (v.i 7 15) (v.s 7 16) K))
def qg1 (Aa Ab Ac:LA)(B7:Int)(B8:Bool)(B9 Ca Cb Cc:Int)(Cd Ce:LU)(C0 C1 C2:Int)(C3:LU)(C4:Bool)(C5 C6 C7:Int)(C8:LU):Option Bool:=
 (qrw Aa Ab Ac B7 B8 B9 Ca Cb Cc Cd Ce C0 C1 C2 C3 C4 C5 C6 C7 C8 (fun v15q1=>(bif v15q1 then(oB (qtj) fun r2=>(some r2))else(oB (qfb Aa Ab Ac B7 B8 B9 Ca Cb Cc Cd Ce C0 C1 C2 C3 C4 C5 C6 C7 C8) fun r3=>(oB (qy9 Aa Ab Ac B7 B8 B9 Ca Cb Cc Cd Ce C0 C1 C2 C3 C4 C5 C6 C7 C8) fun r4=>(bif(r3.2==r4.2)then(oB (qvj (gL r3.1.cells 0) (gL r3.1.cells 1) (gL r3.1.cells 2) (gL r4.1.cells 0) (gL r4.1.cells 1) (gL r4.1.cells 2)) fun r5=>(bif r5 then(oB (qtj) fun r6=>(some r6))else(some false)))else(some false)))))))
def qit:=hull qg1
theorem q2f:qit=qg1:=qa _
def q35 {R:Type}:EntF Tryz.prog R:=entB (nt:=40) (dec:=decB) (enc:=AV.bool) tabOk follows Tryz.func3 [.t 4] hdeB (.s .z (.s (.s (.sub [.sel [2,3] [0,1]] q0u []) (.s (.s (.r [(0,.c q3p.b)] []) .z) .z)) (.s (.r [(2,.k qth.b)] []) (.s (.r [(2,.k qbl0.b)] []) (.s (.r [(6,.c qbnm.b),(9,.c q3p.b)] []) .z))))) S90_ qg1 (fun f v=>f (v.l 1 0) (v.l 1 1) (v.l 1 2) (v.i 5 0) (v.b 5 1) (v.i 5 2) (v.i 5 3) (v.i 5 4) (v.i 5 5) (v.s 5 6) (v.s 5 7) (v.i 5 8) (v.i 5 9) (v.i 5 10) (v.s 5 11) (v.b 5 12) (v.i 5 13) (v.i 5 14) (v.i 5 15) (v.s 5 16))
end
end Go.Proofs.YtoaaphlopbabeaaGreatDoor.Dn
