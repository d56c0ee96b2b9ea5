import Derived.Test.YtoaaphlopbabeaaGreatDoorProg
import Derived.Test.YtoaaphlopbabeaaGreatDoorCILibD
import Derived.Test.YtoaaphlopbabeaaGreatDoorCIDn51x1
set_option linter.all false
namespace Go.Proofs.YtoaaphlopbabeaaGreatDoor.Dn
open Go Go.Pev
set_option maxRecDepth 100000
set_option maxHeartbeats 4000000
noncomputable section
def qo5:Option Bool:=
 (oB (qwq (8:Int)) fun r1=>(oB (qwq (8:Int)) fun r2=>(oB (qgk ([]:List AV) ([]:List AV) ([]:List AV) (1:Int) (gB r1.cells 0) (gI r1.cells 1) (gI r1.cells 2) (gI r1.cells 3) (1:Int) ([110,101,116]:List UInt8) ([]:List UInt8) (0:Int) (0:Int) (0:Int) ([]:List UInt8) false (0:Int) (0:Int) (0:Int) ([]:List UInt8)) fun r3=>(oB (qgk ([]:List AV) ([]:List AV) ([]:List AV) (2:Int) (gB r2.cells 0) (gI r2.cells 1) (gI r2.cells 2) (gI r2.cells 3) (0:Int) ([]:List UInt8) ([]:List UInt8) (0:Int) (0:Int) (0:Int) ([]:List UInt8) false (0:Int) (0:Int) (0:Int) ([]:List UInt8)) fun r4=>(oB (qkz ([]:List AV) ([]:List AV) ([]:List AV) (1:Int) (gB r1.cells 0) (gI r1.cells 1) (gI r1.cells 2) (gI r1.cells 3) (1:Int) ([110,101,116]:List UInt8) ([]:List UInt8) (0:Int) (0:Int) (0:Int) ([]:List UInt8) false (0:Int) (0:Int) (0:Int) ([]:List UInt8)) fun r5=>(bif(r3.2==0)then(bif(((gL r3.1.cells 0).length:Int)==1)then(oB (ixB (gL r3.1.cells 0) (0:Int)) fun y6=>(bif fitC qb y6.cells then(bif(((gB y6.cells 0)==(gB r1.cells 0))&&(((gI y6.cells 1)==(gI r1.cells 1))&&(((gI y6.cells 2)==(gI r1.cells 2))&&(((gI y6.cells 3)==(gI r1.cells 3))&&(((gI y6.cells 4)==1)&&(((gS y6.cells 5)==([110,101,116]:List UInt8))&&(((gS y6.cells 6)==([]:List UInt8))&&(((gI y6.cells 7)==0)&&true))))))))then(bif(r4.2==11)then(bif(r5.2==0)then(some (((gI r5.1.cells 0)==2)&&(((gB r5.1.cells 1)==(gB r2.cells 0))&&(((gI r5.1.cells 2)==(gI r2.cells 1))&&(((gI r5.1.cells 3)==(gI r2.cells 2))&&(((gI r5.1.cells 4)==(gI r2.cells 3))&&(((gI r5.1.cells 5)==0)&&(((gS r5.1.cells 6)==([]:List UInt8))&&(((gS r5.1.cells 7)==([]:List UInt8))&&(((gI r5.1.cells 8)==0)&&(((gI r5.1.cells 9)==0)&&(((gI r5.1.cells 10)==0)&&(((gS r5.1.cells 11)==([]:List UInt8))&&(((gB r5.1.cells 12)==false)&&(((gI r5.1.cells 13)==0)&&(((gI r5.1.cells 14)==0)&&(((gI r5.1.cells 15)==0)&&(((gS r5.1.cells 16)==([]:List UInt8))&&true))))))))))))))))))else(some false))else(some false))else(some false))else none))else(some false))else(some false)))))))
def qtk:=hull qo5
theorem qbi7:qtk=qo5:=qa _
def q3n {R:Type}:EntF Tryz.prog R:=entB (nt:=64) (dec:=decB) (enc:=AV.bool) tabOk follows Tryz.func13 [.t 0] hdeB (.s .z (.s .z (.s (.r [(0,.c q69.b)] []) (.s (.r [(0,.c q69.b)] []) (.s (.r [(2,.k qyz.b)] []) (.s (.r [(2,.k qyz.b)] []) (.s (.r [(2,.c q3m.b)] []) (.s (.d [] [(11,.e 45 qb)] [] []) .z)))))))) (⟨[],[]⟩:Shp) qo5 (fun f v=>f)
def S93_:Shp:=⟨[(0,.one (.l (.sl 8)))],[]⟩
def qo6 (Aa:Bool)(Ab Ac:Int):Option Bool:=
 (bif Aa then(some true)else(bif(Ab==0)then(some (decide (Ac<4294967296)))else(some false)))
def qk0:=hull qo6
theorem qbi8:qk0=qo6:=qa _
def qo7 {R:Type}:EntF Tryz.prog R:=entB (nt:=15) (dec:=decB) (enc:=AV.bool) tabOk follows Tryz.func80 [.t 2] hdeB (.z) S5_ qo6 (fun f v=>f (v.b 1 0) (v.i 1 1) (v.i 1 2))
def S97_:Shp:=⟨[(0,.one (.l .b))],[]⟩
def qrm (v0:Bool):Option Int:=
 (bif v0 then(some (128:Int))else(some (32:Int)))
def qhi:=hull qrm
theorem qble:qhi=qrm:=qa _
def qji {R:Type}:EntF Tryz.prog R:=entB (nt:=4) (dec:=(decI .i64)) (enc:=(AV.int .i64)) tabOk follows Tryz.func130 [.t 2] hdeI (.z) S97_ qrm (fun f v=>f (v.b 0 0))
def S98_:Shp:=⟨[(0,.one (.l (.i .i64))),(4,.one (.l (.i .u64))),(5,.one (.l (.i .u64))),(6,.one (.l (.i .i64)))],[]⟩
def q1z:AV->Option (Int×Int):=decN [(.one (.i .u64)),(.one (.i .u64))] fun z=>(aI (gC (tpL z) 0),aI (gC (tpL z) 1))
def qw9 (K:Ex->Env->Mem->Option (Int×Int)):=(fun z_v4 z_v5=>K (.exit 0) (qk [(4,(.int .u64 z_v4)),(5,(.int .u64 z_v5))]) (qh []))
def qmd (v0 v4 v5 v6:Int)(next:Int->Int->Int->Option (Int×Int))(kx0:Int->Int->Option (Int×Int)):Option (Int×Int):=
 (bif((decide (v6<v0))&&(decide (v6<128)))then(next (IntKind.u64.wrap ((IntKind.u64.wrap (v4*2))+(IntKind.u64.wrap (v5.tdiv (9223372036854775808:Int))))) (IntKind.u64.wrap ((IntKind.u64.wrap (v5*2))+1)) (IntKind.i64.wrap (v6+1)))else(kx0 v4 v5))
def qi0 (v0:Int)(kx0:Int->Int->Option (Int×Int)):Nat->Int->Int->Int->Option (Int×Int)
 |0=>(fun _ _ _=>none)
 |n+1=>(fun v4 v5 v6=>qmd v0 v4 v5 v6 (qi0 v0 kx0 n) kx0)
def q3o:=hull (qi0)
theorem qbde:q3o=qi0:=qa _
def qbfk:SubB Tryz.prog (TIof Tryz.prog) 26 0 (kret [.t 2,.t 3] q1z):=lpB tabOk follows Tryz.f131 75 (.s (.s (.r [(4,.g 2)] []) (.s .z (.v [.sel [4,5] []]))) (.s .z (.v [.sel [0,4,5,6] []]))) S98_ (qi0) (fun f v K n=>f (v.i 0 0) (qw9 K) n) (fun v f K=>qmd (v.i 0 0) (v.i 16 0) (v.i 20 0) (v.i 24 0) f (qw9 K)) (fun f v=>f (v.i 16 0) (v.i 20 0) (v.i 24 0)) (fun k v=>(fun z0 z1 z2=>k (((v.ui 16 0 z0).ui 20 0 z1).ui 24 0 z2)))
def qrn (v0:Int):Option (Int×Int):=
 (q3o v0 (fun v4q1 v5q2=>(some (v4q1,v5q2))) FU (0:Int) (0:Int) (0:Int))
def qqa:=hull qrn
theorem qblf:qqa=qrn:=qa _
def qxa {R:Type}:EntF Tryz.prog R:=entB (nt:=26) (dec:=q1z) (enc:=(fun r=>.tup [.int .u64 r.1,.int .u64 r.2])) tabOk follows Tryz.func131 [.t 2,.t 3] (hdeN fun _=>rfl) (.s .z (.s .z (.s (.s .z (.b (.sub [.sel [0,4,5,6] []] qbfk []))) .z))) S1_ qrn (fun f v=>f (v.i 0 0))
def q97 (Av:Bool)(Aw Ax Ay:Int)(K:Ex->Env->Mem->Option Bool):=(fun z_v22=>K .norm (qk [(1,(.ptr 0 0)),(22,(.bool z_v22))]) (qh [(some (.box true (qc Av Aw Ax Ay)))]))
def qlj (Av:Bool)(Aw Ax Ay:Int)(kn:Bool->Option Bool):Option Bool:=
 (oB (qk0 Av Aw Ax) fun r1=>(bif(!r1)then(kn true)else(bif(decide (Ay<0))then(kn true)else(oB (qhi Av) fun r2=>(kn (decide (Ay>r2)))))))
def q10:=hull (qlj)
theorem q98:q10=qlj:=qa _
def qbdf:SubB Tryz.prog (TIof Tryz.prog) 48 0 (kret [.t 2] decB):=jnB tabOk follows Tryz.f75 9 (.d [] [(2,.c qo7.b),(15,.c qji.b)] [] [.sel [1,22] [0]]) S7_ (qlj) (fun f v K=>f (v.b 3 0) (v.i 3 1) (v.i 3 2) (v.i 3 3) (q97 (v.b 3 0) (v.i 3 1) (v.i 3 2) (v.i 3 3) K))
def qo8 (Aa:Bool)(Ab Ac Bt:Int):Option Bool:=
 (q10 Aa Ab Ac Bt (fun v22q1=>(bif v22q1 then(some false)else(oB (qhi Aa) fun r2=>(oB (qqa (IntKind.i64.wrap (r2-Bt))) fun r3=>(some (((qbi .and .u64 Ab r3.1)==0)&&((qbi .and .u64 Ac r3.2)==0))))))))
def qfq:=hull qo8
theorem qbi9:qfq=qo8:=qa _
def qid {R:Type}:EntF Tryz.prog R:=entB (nt:=48) (dec:=decB) (enc:=AV.bool) tabOk follows Tryz.func75 [.t 2] hdeB (.s .z (.s (.s (.sub [.sel [1] [0]] qbdf []) .z) (.s (.d [] [(3,.c qji.b),(7,.c qxa.b)] [] []) (.s (.r [(7,.g 6)] []) .z)))) S8_ qo8 (fun f v=>f (v.b 1 0) (v.i 1 1) (v.i 1 2) (v.i 1 3))
def qo9 (Aa:Bool)(Ab Ac Bt:Int):Option Int:=
 (bif Aa then(some (128:Int))else(some (32:Int)))
def qy0:=hull qo9
theorem qbja:qy0=qo9:=qa _
def qblg {R:Type}:EntF Tryz.prog R:=entB (nt:=6) (dec:=(decI .i64)) (enc:=(AV.int .i64)) tabOk follows Tryz.func132 [.t 2] hdeI (.z) S8_ qo9 (fun f v=>f (v.b 1 0) (v.i 1 1) (v.i 1 2) (v.i 1 3))
def S99_:Shp:=⟨[(0,.one (.l .s)),(3,.one (.l (.i .i64)))],[]⟩
def qro (K:Ex->Env->Mem->Option Bool):=(fun(_:Unit)=>K (.exit 0) (qk []) (qh []))
def qex (v0:LU)(v3:Int)(next:Int->Option Bool)(kx0:Unit->Option Bool):Option Bool:=
 (bif(decide (v3<(v0.length:Int)))then(oB (ixB v0 v3) fun c1=>(bif(decide ((c1.toNat:Int)<33))then(some false)else(oB (ixB v0 v3) fun c2=>(bif(decide ((c2.toNat:Int)>126))then(some false)else(next (IntKind.i64.wrap (v3+1)))))))else(kx0 ()))
def qey (v0:LU)(kx0:Unit->Option Bool):Nat->Int->Option Bool
 |0=>(fun _=>none)
 |n+1=>(fun v3=>qex v0 v3 (qey v0 kx0 n) kx0)
def qv7:=hull (qey)
theorem q3p:qv7=qey:=qa _
def q41:SubB Tryz.prog (TIof Tryz.prog) 20 0 (kret [.t 2] decB):=lpB tabOk follows Tryz.f133 37 (.s (.s .z (.s .z (.v [.sel [] []]))) (.s .z (.v [.sel [0,3] []]))) S99_ (qey) (fun f v K n=>f (v.s 0 0) (qro K) n) (fun v f K=>qex (v.s 0 0) (v.i 12 0) f (qro K)) (fun f v=>f (v.i 12 0)) (fun k v=>(fun z0=>k (v.ui 12 0 z0)))
def qkc (v0:LU):Option Bool:=
 (qv7 v0 (fun(_:Unit)=>(some true)) FU (0:Int))
def qme:=hull qkc
theorem q7t:qme=qkc:=qa _
def qxb {R:Type}:EntF Tryz.prog R:=entB (nt:=20) (dec:=decB) (enc:=AV.bool) tabOk follows Tryz.func133 [.t 2] hdeB (.s .z (.s (.s .z (.b (.sub [.sel [0,3] []] q41 []))) .z)) S69_ qkc (fun f v=>f (v.s 0 0))
def qbfl (Av:Bool)(Aw Ax Ay Az:Int)(A0 A1:LU)(A2:Int)(K:Ex->Env->Mem->Option Bool):=(fun z_v24=>K .norm (qk [(1,(.ptr 0 0)),(24,(.bool z_v24))]) (qh [(some (.box true (qn Av Aw Ax Ay Az A0 A1 A2)))]))
def qnq (Av:Bool)(Aw Ax Ay Az:Int)(A0 A1:LU)(A2:Int)(kn:Bool->Option Bool):Option Bool:=
 (bif(decide (Az<1))then(kn true)else(bif(decide (Az>3))then(kn true)else(bif(Az==3)then(oB (qy0 Av Aw Ax Ay) fun r1=>(kn (Ay != r1)))else(kn false))))
def q5k:=hull (qnq)
theorem qbfm:q5k=qnq:=qa _
def qbjb:SubB Tryz.prog (TIof Tryz.prog) 61 0 (kret [.t 2] decB):=jnB tabOk follows Tryz.f76 9 (.d [] [(18,.c qblg.b)] [] [.sel [1,24] [0]]) S11_ (qnq) (fun f v K=>f (v.b 3 0) (v.i 3 1) (v.i 3 2) (v.i 3 3) (v.i 3 4) (v.s 3 5) (v.s 3 6) (v.i 3 7) (qbfl (v.b 3 0) (v.i 3 1) (v.i 3 2) (v.i 3 3) (v.i 3 4) (v.s 3 5) (v.s 3 6) (v.i 3 7) K))
def qtl (Aa:Bool)(Ab Ac Bt Bu:Int)(Bv Bw:LU)(Bx:Int):Option Bool:=
 (q5k Aa Ab Ac Bt Bu Bv Bw Bx (fun v24q1=>(bif v24q1 then(some false)else(bif((decide ((Bv.length:Int)>=1))&&(decide ((Bv.length:Int)<=63)))then(oB (qme Bv) fun r2=>(bif(r2&&(decide ((Bw.length:Int)<=32)))then(oB (qme Bw) fun r3=>(some ((r3&&(decide (Bx>=0)))&&(decide (Bx<=4294967295)))))else(some false)))else(some false)))))
def qsg:=hull qtl
theorem qbm5:qsg=qtl:=qa _
def q7u {R:Type}:EntF Tryz.prog R:=entB (nt:=61) (dec:=decB) (enc:=AV.bool) tabOk follows Tryz.func76 [.t 2] hdeB (.s .z (.s (.s (.sub [.sel [1] [0]] qbjb []) .z) (.s (.r [(5,.g 4),(13,.c qxb.b),(16,.g 4),(24,.c qxb.b),(27,.g 3),(32,.g 3)] []) .z))) S12_ qtl (fun f v=>f (v.b 1 0) (v.i 1 1) (v.i 1 2) (v.i 1 3) (v.i 1 4) (v.s 1 5) (v.s 1 6) (v.i 1 7))
def qmf (Aa:Bool)(Ab Ac:Int)(B7:Bool)(B8 B9:Int):Option Int:=
 (bif(!((Aa==B7)&&true))then(bif B7 then(some (-1:Int))else(some (1:Int)))else(bif(Ab != B8)then(bif(decide (Ab<B8))then(some (-1:Int))else(some (1:Int)))else(bif(decide (Ac<B9))then(some (-1:Int))else(bif(decide (Ac>B9))then(some (1:Int))else(some (0:Int))))))
def qpa:=hull qmf
theorem qbdg:qpa=qmf:=qa _
def qz8 {R:Type}:EntF Tryz.prog R:=entB (nt:=32) (dec:=(decI .i64)) (enc:=(AV.int .i64)) tabOk follows Tryz.func134 [.t 4] hdeI (.z) S29_ qmf (fun f v=>f (v.b 1 0) (v.i 1 1) (v.i 1 2) (v.b 5 0) (v.i 5 1) (v.i 5 2))
def qmg (Aa:Bool)(Ab Ac Bt:Int)(B7:Bool)(B8 B9 Ca:Int):Option Int:=
 (oB (qpa Aa Ab Ac B7 B8 B9) fun r1=>(bif(r1 != (0:Int))then(some r1)else(bif(decide (Bt<Ca))then(some (-1:Int))else(bif(decide (Bt>Ca))then(some (1:Int))else(some (0:Int))))))
def qpb:=hull qmg
theorem qbdh:qpb=qmg:=qa _
def qz9 {R:Type}:EntF Tryz.prog R:=entB (nt:=24) (dec:=(decI .i64)) (enc:=(AV.int .i64)) tabOk follows Tryz.func77 [.t 4] hdeI (.s .z (.s (.r [(4,.c qz8.b)] []) .z)) S20_ qmg (fun f v=>f (v.b 1 0) (v.i 1 1) (v.i 1 2) (v.i 1 3) (v.b 5 0) (v.i 5 1) (v.i 5 2) (v.i 5 3))
def q5l:AV->Option (AV×Bool):=decN [(.st [.b,(.i .u64),(.i .u64),(.i .i64)]),(.one .b)] fun z=>((gC (tpL z) 0),aB (gC (tpL z) 1))
def qbjc (v1:Int)(Av:Bool)(Aw Ax:Int)(Ad:Bool)(Ae Af Ag:Int)(K:Ex->Env->Mem->Option (AV×Bool)):=(fun z_v22=>K .norm (qk [(1,(.int .i64 v1)),(2,(.ptr 0 0)),(4,(.ptr 1 0)),(22,(.bool z_v22))]) (qh [(some (.box true (qhd Av Aw Ax))),(some (.box true (qc Ad Ae Af Ag)))]))
def qpc (v1:Int)(Av:Bool)(Aw Ax:Int)(Ad:Bool)(Ae Af Ag:Int)(kn:Bool->Option (AV×Bool)):Option (AV×Bool):=
 (oB (qk0 Av Aw Ax) fun r1=>(bif((!r1)||(decide (v1<0)))then(kn true)else(oB (qhi Av) fun r2=>(kn (decide (v1>r2))))))
def q7v:=hull (qpc)
theorem qbjd:q7v=qpc:=qa _
def qblh:SubB Tryz.prog (TIof Tryz.prog) 53 0 (kret [(.cell 4 true 4),.t 5] q5l):=jnB tabOk follows Tryz.f176 9 (.r [(1,.c qo7.b),(4,.g 2),(11,.c qji.b)] [.sel [1,2,4,22] [0,1]]) S17_ (qpc) (fun f v K=>f (v.i 4 0) (v.b 3 0) (v.i 3 1) (v.i 3 2) (v.b 7 0) (v.i 7 1) (v.i 7 2) (v.i 7 3) (qbjc (v.i 4 0) (v.b 3 0) (v.i 3 1) (v.i 3 2) (v.b 7 0) (v.i 7 1) (v.i 7 2) (v.i 7 3) K))
def qvb (Aa:Bool)(Ab Ac v1:Int):Option (AV×Bool):=
 (q7v v1 Aa Ab Ac false (0:Int) (0:Int) (0:Int) (fun v22q1=>(bif v22q1 then(some ((.agg [(.bool false),(.int .u64 (0:Int)),(.int .u64 (0:Int)),(.int .i64 (0:Int))]),false))else(oB (qhi Aa) fun r2=>(oB (qqa (IntKind.i64.wrap (r2-v1))) fun r3=>(some ((.agg [(.bool Aa),(.int .u64 (IntKind.u64.wrap (Ab-(qbi .and .u64 Ab r3.1)))),(.int .u64 (IntKind.u64.wrap (Ac-(qbi .and .u64 Ac r3.2)))),(.int .i64 v1)]),true)))))))
def q6m:=hull qvb
theorem qbpu:q6m=qvb:=qa _
def qbs2 {R:Type}:EntF Tryz.prog R:=entB (nt:=53) (dec:=q5l) (enc:=(fun r=>.tup [qcg (.st [.b,(.i .u64),(.i .u64),(.i .i64)]) r.1,.bool r.2])) tabOk follows Tryz.func176 [(.cell 4 true 4),.t 5] (hdeN fun _=>rfl) (.s .z (.s (.s (.sub [.sel [1,2,4] [0,1]] qblh []) .z) (.s (.r [(2,.c qji.b),(5,.c qxa.b)] []) .z))) S18_ qvb (fun f v=>f (v.b 1 0) (v.i 1 1) (v.i 1 2) (v.i 4 0))
def S100_:Shp:=⟨[(2,.one (.ptr 0 0)),(3,.one (.ptr 1 0))],[.box true (lk qe),.box true (lk qd0)]⟩
def q42 (Av:Bool)(Aw Ax Ay:Int)(Ad:Bool)(Ae Af:Int)(K:Ex->Env->Mem->Option Bool):=(fun z_v22=>K .norm (qk [(2,(.ptr 0 0)),(3,(.ptr 1 0)),(22,(.bool z_v22))]) (qh [(some (.box true (qc Av Aw Ax Ay))),(some (.box true (qhd Ad Ae Af)))]))
def qil (Av:Bool)(Aw Ax Ay:Int)(Ad:Bool)(Ae Af:Int)(kn:Bool->Option Bool):Option Bool:=
 (oB (qfq Av Aw Ax Ay) fun r1=>(bif(!r1)then(kn true)else(oB (qk0 Ad Ae Af) fun r2=>(kn ((!r2)||(!((Av==Ad)&&true)))))))
def qxc:=hull (qil)
theorem q43:qxc=qil:=qa _
def q6n:SubB Tryz.prog (TIof Tryz.prog) 33 0 (kret [.t 4] decB):=jnB tabOk follows Tryz.f129 9 (.r [(1,.c qid.b),(5,.c qo7.b),(9,.g 6)] [.sel [2,3,22] [0,1]]) S100_ (qil) (fun f v K=>f (v.b 3 0) (v.i 3 1) (v.i 3 2) (v.i 3 3) (v.b 7 0) (v.i 7 1) (v.i 7 2) (q42 (v.b 3 0) (v.i 3 1) (v.i 3 2) (v.i 3 3) (v.b 7 0) (v.i 7 1) (v.i 7 2) K))
def qlk (Aa:Bool)(Ab Ac Bt:Int)(B7:Bool)(B8 B9:Int):Option Bool:=
 (qxc Aa Ab Ac Bt B7 B8 B9 (fun v22q1=>(bif v22q1 then(some false)else(oB (q6m B7 B8 B9 Bt) fun r2=>(some (((gB r2.1.cells 0)==Aa)&&(((gI r2.1.cells 1)==Ab)&&(((gI r2.1.cells 2)==Ac)&&(((gI r2.1.cells 3)==Bt)&&true)))))))))
def qnr:=hull qlk
theorem q99:qnr=qlk:=qa _
def qye {R:Type}:EntF Tryz.prog R:=entB (nt:=33) (dec:=decB) (enc:=AV.bool) tabOk follows Tryz.func129 [.t 4] hdeB (.s .z (.s (.s (.sub [.sel [2,3] [0,1]] q6n []) .z) (.s (.r [(3,.c qbs2.b)] []) .z))) S19_ qlk (fun f v=>f (v.b 1 0) (v.i 1 1) (v.i 1 2) (v.i 1 3) (v.b 5 0) (v.i 5 1) (v.i 5 2))
def qns (Aa:Bool)(Ab Ac Bt:Int)(B7:Bool)(B8 B9 Ca:Int):Option Bool:=
 (oB (qfq Aa Ab Ac Bt) fun r1=>(bif(r1&&(decide (Bt>=Ca)))then(oB (qnr B7 B8 B9 Ca Aa Ab Ac) fun r2=>(some r2))else(some false)))
def qjj:=hull qns
theorem qbfn:qjj=qns:=qa _
def qj6 {R:Type}:EntF Tryz.prog R:=entB (nt:=20) (dec:=decB) (enc:=AV.bool) tabOk follows Tryz.func128 [.t 4] hdeB (.s .z (.s (.r [(1,.c qid.b),(3,.g 5),(13,.c qye.b)] []) .z)) S20_ qns (fun f v=>f (v.b 1 0) (v.i 1 1) (v.i 1 2) (v.i 1 3) (v.b 5 0) (v.i 5 1) (v.i 5 2) (v.i 5 3))
def qqb (Aa:Bool)(Ab Ac Bt:Int)(B7:Bool)(B8 B9 Ca:Int):Option Bool:=
 (oB (qjj Aa Ab Ac Bt B7 B8 B9 Ca) fun r1=>(some (r1&&(decide (Bt>Ca)))))
def qkt:=hull qqb
theorem q7w:qkt=qqb:=qa _
def qlx {R:Type}:EntF Tryz.prog R:=entB (nt:=15) (dec:=decB) (enc:=AV.bool) tabOk follows Tryz.func103 [.t 4] hdeB (.s .z (.s (.r [(2,.c qj6.b),(4,.g 5)] []) .z)) S20_ qqb (fun f v=>f (v.b 1 0) (v.i 1 1) (v.i 1 2) (v.i 1 3) (v.b 5 0) (v.i 5 1) (v.i 5 2) (v.i 5 3))
def qnt (Aa:Bool)(Ab Ac Bt Bu:Int)(Bv Bw:LU)(Bx:Int)(B7:Bool)(B8 B9 Ca Cb:Int)(Cc Cd:LU)(Ce:Int):Option Bool:=
 (oB (qkt Aa Ab Ac Bt B7 B8 B9 Ca) fun r1=>(bif r1 then(bif(Cb==3)then(some true)else(bif(Cb==2)then(some (Bu != (3:Int)))else(some false)))else(some false)))
def qmh:=hull qnt
theorem qbfo:qmh=qnt:=qa _
def q11 {R:Type}:EntF Tryz.prog R:=entB (nt:=25) (dec:=decB) (enc:=AV.bool) tabOk follows Tryz.func78 [.t 4] hdeB (.s .z (.s (.r [(4,.c qlx.b)] []) .z)) S21_ qnt (fun f v=>f (v.b 1 0) (v.i 1 1) (v.i 1 2) (v.i 1 3) (v.i 1 4) (v.s 1 5) (v.s 1 6) (v.i 1 7) (v.b 5 0) (v.i 5 1) (v.i 5 2) (v.i 5 3) (v.i 5 4) (v.s 5 5) (v.s 5 6) (v.i 5 7))
def S101_:Shp:=⟨[(0,.one (.l (.sl 8))),(3,.one (.l (.i .i64)))],[]⟩
def S102_:Shp:=⟨[(0,.one (.l (.sl 8))),(3,.one (.l (.i .i64))),(4,.one (.l (.i .i64)))],[]⟩
def q7x (v0:LA)(v3:Int)(K:Ex->Env->Mem->Option Int):=(fun z_v43=>K .norm (qk [(0,(.sl 8 v0)),(3,(.int .i64 v3)),(43,(.bool z_v43))]) (qh []))
def qkd (v0:LA)(v3:Int)(kn:Bool->Option Int):Option Int:=
 (bif(decide (v3>0))then(oB (ixB v0 (IntKind.i64.wrap (v3-1))) fun y1=>(bif fitC qb y1.cells then(oB (ixB v0 v3) fun y2=>(bif fitC qb y2.cells then(oB (qpb (gB y1.cells 0) (gI y1.cells 1) (gI y1.cells 2) (gI y1.cells 3) (gB y2.cells 0) (gI y2.cells 1) (gI y2.cells 2) (gI y2.cells 3)) fun r3=>(kn (decide (r3>0))))else none))else none))else(kn false))
def q0a:=hull (qkd)
theorem q7y:q0a=qkd:=qa _
def qbaa:SubB Tryz.prog (TIof Tryz.prog) 74 0 (kret [.t 2] (decI .i64)):=jnB tabOk follows Tryz.f28 9803 (.d [] [(6,.e 33 qb),(11,.e 38 qb)] [(0,.c qz9.b)] [.sel [0,3,43] []]) S101_ (qkd) (fun f v K=>f (v.l 0 0) (v.i 12 0) (q7x (v.l 0 0) (v.i 12 0) K))
def q7z (v0:LA)(v3:Int)(K:Ex->Env->Mem->Option Int):=(fun z_v59=>K .norm (qk [(0,(.sl 8 v0)),(3,(.int .i64 v3)),(59,(.bool z_v59))]) (qh []))
def qke (v0:LA)(v3:Int)(kn:Bool->Option Int):Option Int:=
 (bif(decide (v3>0))then(oB (ixB v0 (IntKind.i64.wrap (v3-1))) fun y1=>(bif fitC qb y1.cells then(oB (ixB v0 v3) fun y2=>(bif fitC qb y2.cells then(kn (((gB y1.cells 0)==(gB y2.cells 0))&&(((gI y1.cells 1)==(gI y2.cells 1))&&(((gI y1.cells 2)==(gI y2.cells 2))&&(((gI y1.cells 3)==(gI y2.cells 3))&&true)))))else none))else none))else(kn false))
def q0b:=hull (qke)
theorem q70:q0b=qke:=qa _
def qbab:SubB Tryz.prog (TIof Tryz.prog) 74 0 (kret [.t 2] (decI .i64)):=jnB tabOk follows Tryz.f28 20043 (.d [] [(6,.e 50 qb),(11,.e 55 qb)] [] [.sel [0,3,59] []]) S101_ (qke) (fun f v K=>f (v.l 0 0) (v.i 12 0) (q7z (v.l 0 0) (v.i 12 0) K))
def quh (v0:LA)(v3:Int)(K:Ex->Env->Mem->Option Int):=(fun(_:Unit)=>K (.exit 2) (qk [(0,(.sl 8 v0)),(3,(.int .i64 v3))]) (qh []))
def qgl (v0:LA)(v3 v4:Int)(next:Int->Option Int)(kx2:Unit->Option Int):Option Int:=
 (bif(decide (v4<v3))then(oB (ixB v0 v3) fun y1=>(bif fitC qb y1.cells then(oB (ixB v0 v4) fun y2=>(bif fitC qb y2.cells then(oB (qmh (gB y1.cells 0) (gI y1.cells 1) (gI y1.cells 2) (gI y1.cells 3) (gI y1.cells 4) (gS y1.cells 5) (gS y1.cells 6) (gI y1.cells 7) (gB y2.cells 0) (gI y2.cells 1) (gI y2.cells 2) (gI y2.cells 3) (gI y2.cells 4) (gS y2.cells 5) (gS y2.cells 6) (gI y2.cells 7)) fun r3=>(bif r3 then(some (24:Int))else(next (IntKind.i64.wrap (v4+1)))))else none))else none))else(kx2 ()))
def qgm (v0:LA)(v3:Int)(kx2:Unit->Option Int):Nat->Int->Option Int
 |0=>(fun _=>none)
 |n+1=>(fun v4=>qgl v0 v3 v4 (qgm v0 v3 kx2 n) kx2)
def qsh:=hull (qgm)
theorem q71:qsh=qgm:=qa _
def qbac:SubB Tryz.prog (TIof Tryz.prog) 74 0 (kret [.t 2] (decI .i64)):=lpB tabOk follows Tryz.f28 81483 (.s (.s .z (.s .z (.v [.sel [0,3] []]))) (.s (.b (.s (.d [] [(2,.e 67 qb),(6,.e 71 qb)] [(0,.c q11.b)] []) .z)) (.v [.sel [0,3,4] []]))) S102_ (qgm) (fun f v K n=>f (v.l 0 0) (v.i 12 0) (quh (v.l 0 0) (v.i 12 0) K) n) (fun v f K=>qgl (v.l 0 0) (v.i 12 0) (v.i 16 0) f (quh (v.l 0 0) (v.i 12 0) K)) (fun f v=>f (v.i 16 0)) (fun k v=>(fun z0=>k (v.ui 16 0 z0)))
def qui (K:Ex->Env->Mem->Option Int):=(fun(_:Unit)=>K (.exit 0) (qk []) (qh []))
def qgn (v0:LA)(v3:Int)(next:Int->Option Int)(kx0:Unit->Option Int):Option Int:=
 (bif(decide (v3<(v0.length:Int)))then(oB (ixB v0 v3) fun y1=>(bif fitC qb y1.cells then(oB (qfq (gB y1.cells 0) (gI y1.cells 1) (gI y1.cells 2) (gI y1.cells 3)) fun r2=>(bif(!r2)then(some (3:Int))else(oB (ixB v0 v3) fun y3=>(bif fitC qb y3.cells then(oB (qsg (gB y3.cells 0) (gI y3.cells 1) (gI y3.cells 2) (gI y3.cells 3) (gI y3.cells 4) (gS y3.cells 5) (gS y3.cells 6) (gI y3.cells 7)) fun r4=>(bif(!r4)then(some (1:Int))else(q0a v0 v3 (fun v43q5=>(bif v43q5 then(some (7:Int))else(q0b v0 v3 (fun v59q6=>(bif v59q6 then(some (12:Int))else(qsh v0 v3 (fun(_:Unit)=>(next (IntKind.i64.wrap (v3+1)))) FU (0:Int))))))))))else none))))else none))else(kx0 ()))
def qgo (v0:LA)(kx0:Unit->Option Int):Nat->Int->Option Int
 |0=>(fun _=>none)
 |n+1=>(fun v3=>qgn v0 v3 (qgo v0 kx0 n) kx0)
def q0c:=hull (qgo)
theorem q72:q0c=qgo:=qa _
def qbad:SubB Tryz.prog (TIof Tryz.prog) 74 0 (kret [.t 2] (decI .i64)):=lpB tabOk follows Tryz.f28 75 (.s (.s .z (.s .z (.v [.sel [] []]))) (.s (.b (.s (.s (.r [(2,.p (.etac 16 qb)),(5,.c qid.b)] []) .z) (.s (.s (.r [(2,.p (.etac 23 qb)),(4,.c q7u.b)] []) .z) (.s (.s (.sub [.sel [0,3] []] qbaa []) .z) (.s (.s (.sub [.sel [0,3] []] qbab []) .z) (.s .z (.b (.sub [.sel [0,3,4] []] qbac [])))))))) (.v [.sel [0,3] []]))) S101_ (qgo) (fun f v K n=>f (v.l 0 0) (qui K) n) (fun v f K=>qgn (v.l 0 0) (v.i 12 0) f (qui K)) (fun f v=>f (v.i 12 0)) (fun k v=>(fun z0=>k (v.ui 12 0 z0)))
def qpd (v0:LA):Option Int:=
 (bif(decide ((v0.length:Int)>512))then(some (9:Int))else(q0c v0 (fun(_:Unit)=>(some (0:Int))) FU (0:Int)))
def qy1:=hull qpd
theorem qbje:qy1=qpd:=qa _
def qbli {R:Type}:EntF Tryz.prog R:=entB (nt:=74) (dec:=(decI .i64)) (enc:=(AV.int .i64)) tabOk follows Tryz.func28 [.t 2] hdeI (.s .z (.s .z (.s (.s .z (.b (.sub [.sel [0,3] []] qbad []))) .z))) S93_ qpd (fun f v=>f (v.l 0 0))
def S103_:Shp:=⟨[(0,.one (.l .s)),(3,.one (.l (.i .i64))),(4,.one (.l (.i .u8)))],[]⟩
def q44 (v0:LU)(v3:Int)(K:Ex->Env->Mem->Option Bool):=(fun z_v46=>K .norm (qk [(0,(.str v0)),(3,(.int .i64 v3)),(46,(.bool z_v46))]) (qh []))
def qim (v0:LU)(v3 v4:Int)(kn:Bool->Option Bool):Option Bool:=
 (bif((decide (v4>=97))&&(decide (v4<=122)))then(kn false)else(bif(decide (v4>=48))then(kn (!(((decide (v4<=57))||(v4==45))||(v4==95))))else(kn (!((v4==45)||(v4==95))))))
def qpe:=hull (qim)
theorem q45:qpe=qim:=qa _
def q6o:SubB Tryz.prog (TIof Tryz.prog) 47 0 (kret [.t 2] decB):=jnB tabOk follows Tryz.f136 5271 (.r [(3,.g 2),(15,.g 2),(19,.g 2)] [.sel [0,3,46] []]) S103_ (qim) (fun f v K=>f (v.s 0 0) (v.i 12 0) (v.i 16 0) (q44 (v.s 0 0) (v.i 12 0) K))
def qsi (K:Ex->Env->Mem->Option Bool):=(fun(_:Unit)=>K (.exit 0) (qk []) (qh []))
def qfc (v0:LU)(v3:Int)(next:Int->Option Bool)(kx0:Unit->Option Bool):Option Bool:=
 (bif(decide (v3<(v0.length:Int)))then(oB (ixB v0 v3) fun c1=>(qpe v0 v3 (c1.toNat:Int) (fun v46q2=>(bif v46q2 then(some false)else(next (IntKind.i64.wrap (v3+1)))))))else(kx0 ()))
def qfd (v0:LU)(kx0:Unit->Option Bool):Nat->Int->Option Bool
 |0=>(fun _=>none)
 |n+1=>(fun v3=>qfc v0 v3 (qfd v0 kx0 n) kx0)
def qxd:=hull (qfd)
theorem q46:qxd=qfd:=qa _
def q6p:SubB Tryz.prog (TIof Tryz.prog) 47 0 (kret [.t 2] decB):=lpB tabOk follows Tryz.f136 151 (.s (.s .z (.s .z (.v [.sel [] []]))) (.s (.b (.s .z (.s (.sub [.sel [0,3,4] []] q6o []) .z))) (.v [.sel [0,3] []]))) S99_ (qfd) (fun f v K n=>f (v.s 0 0) (qsi K) n) (fun v f K=>qfc (v.s 0 0) (v.i 12 0) f (qsi K)) (fun f v=>f (v.i 12 0)) (fun k v=>(fun z0=>k (v.ui 12 0 z0)))
def qmi (v0:LU):Option Bool:=
 (bif(v0==([42]:List UInt8))then(some true)else(bif((decide ((v0.length:Int)<1))||(decide ((v0.length:Int)>63)))then(some false)else(qxd v0 (fun(_:Unit)=>(some true)) FU (0:Int))))
def qvm:=hull qmi
theorem qbdi:qvm=qmi:=qa _
def qbfp {R:Type}:EntF Tryz.prog R:=entB (nt:=47) (dec:=decB) (enc:=AV.bool) tabOk follows Tryz.func136 [.t 2] hdeB (.s .z (.s .z (.s (.s (.r [(4,.g 3)] []) .z) (.s (.s .z (.b (.sub [.sel [0,3] []] q6p []))) .z)))) S69_ qmi (fun f v=>f (v.s 0 0))
def S104_:Shp:=⟨[(0,.one (.l .s)),(4,.one (.own 0)),(5,.one (.l (.i .i64))),(6,.one (.l (.i .i64))),(7,.one (.l .s))],[.arr true 1]⟩
def S105_:Shp:=⟨[(0,.one (.l .s)),(4,.one (.own 0)),(5,.one (.l (.i .i64))),(6,.one (.l (.i .i64)))],[.arr true 1]⟩
def qmj:AV->Option ((List AV)×Bool):=decN [(.one (.fr true 1)),(.one .b)] fun z=>(aL (gC (tpL z) 0),aB (gC (tpL z) 1))
def q73 (v0:LU)(K:Ex->Env->Mem->Option ((List AV)×Bool)):=(fun z_v25=>K .norm (qk [(0,(.str v0)),(25,(.bool z_v25))]) (qh []))
def qkf (v0:LU)(kn:Bool->Option ((List AV)×Bool)):Option ((List AV)×Bool):=
 (bif((decide ((v0.length:Int)<2))||(decide ((v0.length:Int)>254)))then(kn true)else(oB (ixB v0 (IntKind.i64.wrap ((v0.length:Int)-1))) fun c1=>(kn ((c1.toNat:Int) != (46:Int)))))
def q0d:=hull (qkf)
theorem q74:q0d=qkf:=qa _
def qbae:SubB Tryz.prog (TIof Tryz.prog) 58 0 (kret [.t 2,.t 3] qmj):=jnB tabOk follows Tryz.f82 19 (.r [(4,.g 3)] [.sel [0,25] []]) S69_ (qkf) (fun f v K=>f (v.s 0 0) (q73 (v.s 0 0) K))
def q75 (v0:LU)(v6:Int)(v7:LU)(a0:LA)(K:Ex->Env->Mem->Option ((List AV)×Bool)):=(fun z_v50=>K .norm (qk [(0,(.str v0)),(4,(.own 0 a0.length)),(6,(.int .i64 v6)),(7,(.str v7)),(50,(.bool z_v50))]) (qh [(some (.arr true 1 a0))]))
def qkg (v0:LU)(v5 v6:Int)(v7:LU)(a0:LA)(kn:Bool->Option ((List AV)×Bool)):Option ((List AV)×Bool):=
 (oB (qvm v7) fun r1=>(bif(!r1)then(kn true)else(bif(v7==([42]:List UInt8))then(kn (decide (v5>0)))else(kn false))))
def q0e:=hull (qkg)
theorem q76:q0e=qkg:=qa _
def qbaf:SubB Tryz.prog (TIof Tryz.prog) 58 0 (kret [.t 2,.t 3] qmj):=jnB tabOk follows Tryz.f82 78431 (.r [(1,.c qbfp.b)] [.sel [0,4,6,7,50] [0]]) S104_ (qkg) (fun f v K=>f (v.s 0 0) (v.i 20 0) (v.i 24 0) (v.s 28 0) (v.r 0) (q75 (v.s 0 0) (v.i 24 0) (v.s 28 0) (v.r 0) K))
def quj (K:Ex->Env->Mem->Option ((List AV)×Bool)):=(fun z_a0=>K (.exit 0) (qk [(4,(.own 0 z_a0.length))]) (qh [(some (.arr true 1 z_a0))]))
def qgp (v0:LU)(v5 v6:Int)(a0:LA)(next:Int->Int->(List AV)->Option ((List AV)×Bool))(kx0:(List AV)->Option ((List AV)×Bool)):Option ((List AV)×Bool):=
 (bif(decide (v6<(v0.length:Int)))then(oB (ixB v0 v6) fun c1=>(bif((c1.toNat:Int) != (46:Int))then(next v5 (IntKind.i64.wrap (v6+1)) a0)else(oB (cutI v0 (some v5) (some v6)) fun s2=>(bif(hd a0 (a0.length)&&true)then(q0e v0 v5 v6 s2 a0 (fun v50q3=>(bif v50q3 then(bif hd ([]:List AV) (([]:List AV).length)then(some (([]:List AV),false))else none)else(bif hd a0 a0.length then(bif hd ([(.str s2)]:List AV) (([(.str s2)]:List AV).length)then(bif decide ((a0.length+([(.str s2)]:List AV).length)*16<=140737488355328)then(next (IntKind.i64.wrap (v6+1)) (IntKind.i64.wrap (v6+1)) (a0++([(.str s2)]:List AV)))else none)else none)else none))))else none))))else(kx0 a0))
def qgq (v0:LU)(kx0:(List AV)->Option ((List AV)×Bool)):Nat->Int->Int->(List AV)->Option ((List AV)×Bool)
 |0=>(fun _ _ _=>none)
 |n+1=>(fun v5 v6 a0=>qgp v0 v5 v6 a0 (qgq v0 kx0 n) kx0)
def qsj:=hull (qgq)
theorem q77:qsj=qgq:=qa _
def qbag:SubB Tryz.prog (TIof Tryz.prog) 58 0 (kret [.t 2,.t 3] qmj):=lpB tabOk follows Tryz.f82 607 (.s (.s .z (.s .z (.v [.sel [4] [0]]))) (.s (.b (.s .z (.s .z (.s (.s (.sub [.sel [0,4,5,6,7] [0]] qbaf []) (.s (.s .z (.v [.own 2 1])) .z)) .z)))) (.v [.sel [0,4,5,6] [0]]))) S105_ (qgq) (fun f v K n=>f (v.s 0 0) (quj K) n) (fun v f K=>qgp (v.s 0 0) (v.i 20 0) (v.i 24 0) (v.r 0) f (quj K)) (fun f v=>f (v.i 20 0) (v.i 24 0) (v.r 0)) (fun k v=>(fun z0 z1 z2=>k (((v.ui 20 0 z0).ui 24 0 z1).ur 0 z2)))
def qpf (v0:LU):Option ((List AV)×Bool):=
 (bif(v0==([46]:List UInt8))then(bif hd ([]:List AV) (([]:List AV).length)then(some (([]:List AV),true))else none)else(q0d v0 (fun v25q1=>(bif v25q1 then(bif hd ([]:List AV) (([]:List AV).length)then(some (([]:List AV),false))else none)else(bif(hd ([]:List AV) (([]:List AV).length)&&true)then(qsj v0 (fun a0q2=>(bif hd a0q2 a0q2.length then(some (a0q2,true))else none)) FU (0:Int) (0:Int) ([]:List AV))else none)))))
def qfr:=hull qpf
theorem qbjf:qfr=qpf:=qa _
def qie {R:Type}:EntF Tryz.prog R:=entB (nt:=58) (dec:=qmj) (enc:=(fun r=>.tup [.fr true 1 r.1,.bool r.2])) tabOk follows Tryz.func82 [.t 2,.t 3] (hdeN fun _=>rfl) (.s .z (.s (.s .z (.s (.s .z (.v [.own 2 1])) .z)) (.s (.s (.sub [.sel [0] []] qbae []) (.s (.s .z (.v [.own 2 1])) .z)) (.s .z (.s .z (.s (.s .z (.b (.sub [.own 4 1,.sel [0,4,5,6] [0]] qbag []))) .z)))))) S69_ qpf (fun f v=>f (v.s 0 0))
def qpg (v0:LU):Option Bool:=
 (oB (qfr v0) fun r1=>(some r1.2))
def qoc:=hull qpg
theorem qbjg:qoc=qpg:=qa _
def qvn {R:Type}:EntF Tryz.prog R:=entB (nt:=11) (dec:=decB) (enc:=AV.bool) tabOk follows Tryz.func30 [.t 2] hdeB (.s .z (.s (.r [(1,.k qie.b)] []) .z)) S69_ qpg (fun f v=>f (v.s 0 0))
def qnu (v0:LU):Option (List AV):=
 (oB (qfr v0) fun r1=>(some r1.1))
def qxe:=hull qnu
theorem qbfq:qxe=qnu:=qa _
def qbjh {R:Type}:EntF Tryz.prog R:=entB (nt:=11) (dec:=(decX (.one (.sl 1)) fun z=>aL z)) (enc:=(fun r=>.sl 1 r)) tabOk follows Tryz.func135 [.t 2] (hdeX fun _=>rfl) (.s .z (.s (.r [(1,.k qie.b)] []) .z)) S69_ qnu (fun f v=>f (v.s 0 0))
def qmk (v0:LU):Option Bool:=
 (oB (qxe v0) fun r1=>(bif(decide ((r1.length:Int)>0))then(oB (ixB r1 (0:Int)) fun y2=>(bif fitC [.s] y2.cells then(some ((gS y2.cells 0)==([42]:List UInt8)))else none))else(some false)))
def qvo:=hull qmk
theorem qbdj:qvo=qmk:=qa _
def qbfr {R:Type}:EntF Tryz.prog R:=entB (nt:=15) (dec:=decB) (enc:=AV.bool) tabOk follows Tryz.func79 [.t 2] hdeB (.s .z (.s (.r [(1,.k qbjh.b)] []) (.s (.r [(5,.p (.etac 11 [.s]))] []) .z))) S69_ qmk (fun f v=>f (v.s 0 0))
def qrp (v0 v1:LU):Option Int:=
 (bif(Op.bytesLess v0 v1)then(some (-1:Int))else(bif(!(Op.bytesLess v0 v1||v0==v1))then(some (1:Int))else(some (0:Int))))
def qvc:=hull qrp
theorem qblj:qvc=qrp:=qa _
def q5m {R:Type}:EntF Tryz.prog R:=entB (nt:=11) (dec:=(decI .i64)) (enc:=(AV.int .i64)) tabOk follows Tryz.func83 [.t 4] hdeI (.z) S62_ qrp (fun f v=>f (v.s 0 0) (v.s 4 0))
def S106_:Shp:=⟨[(0,.one (.l (.sl 1))),(1,.one (.l (.sl 1))),(5,.one (.l (.i .i64)))],[]⟩
def S107_:Shp:=⟨[(0,.one (.l (.sl 1))),(1,.one (.l (.sl 1)))],[]⟩
def qbdk (v0 v1:LA)(v5:Int)(K:Ex->Env->Mem->Option Int):=(fun z_v34=>K .norm (qk [(0,(.sl 1 v0)),(1,(.sl 1 v1)),(5,(.int .i64 v5)),(34,(.bool z_v34))]) (qh []))
def qml (v0 v1:LA)(v5:Int)(kn:Bool->Option Int):Option Int:=
 (bif(decide (v5<(v0.length:Int)))then(bif(decide (v5<(v1.length:Int)))then(oB (ixB v0 (IntKind.i64.wrap ((IntKind.i64.wrap ((v0.length:Int)-1))-v5))) fun y1=>(bif fitC [.s] y1.cells then(oB (ixB v1 (IntKind.i64.wrap ((IntKind.i64.wrap ((v1.length:Int)-1))-v5))) fun y2=>(bif fitC [.s] y2.cells then(kn ((gS y1.cells 0)==(gS y2.cells 0)))else none))else none))else(kn false))else(kn false))
def q3q:=hull (qml)
theorem qbdl:q3q=qml:=qa _
def qbfs:SubB Tryz.prog (TIof Tryz.prog) 38 0 (kret [.t 4] (decI .i64)):=jnB tabOk follows Tryz.f84 131 (.d [] [(17,.e 23 [.s]),(25,.e 31 [.s])] [] [.sel [0,1,5,34] []]) S106_ (qml) (fun f v K=>f (v.l 0 0) (v.l 4 0) (v.i 20 0) (qbdk (v.l 0 0) (v.l 4 0) (v.i 20 0) K))
def qxf (K:Ex->Env->Mem->Option Int):=(fun z_v5=>K (.exit 0) (qk [(5,(.int .i64 z_v5))]) (qh []))
def qmm (v0 v1:LA)(v5:Int)(next:Int->Option Int)(kx0:Int->Option Int):Option Int:=
 (q3q v0 v1 v5 (fun v34q1=>(bif v34q1 then(next (IntKind.i64.wrap (v5+1)))else(kx0 v5))))
def qfs (v0 v1:LA)(kx0:Int->Option Int):Nat->Int->Option Int
 |0=>(fun _=>none)
 |n+1=>(fun v5=>qmm v0 v1 v5 (qfs v0 v1 kx0 n) kx0)
def q3r:=hull (qfs)
theorem qbdm:q3r=qfs:=qa _
def qbft:SubB Tryz.prog (TIof Tryz.prog) 38 0 (kret [.t 4] (decI .i64)):=lpB tabOk follows Tryz.f84 35 (.s (.s (.sub [.sel [0,1,5] []] qbfs []) (.s .z (.v [.sel [5] []]))) (.b (.v [.sel [0,1,5] []]))) S106_ (qfs) (fun f v K n=>f (v.l 0 0) (v.l 4 0) (qxf K) n) (fun v f K=>qmm (v.l 0 0) (v.l 4 0) (v.i 20 0) f (qxf K)) (fun f v=>f (v.i 20 0)) (fun k v=>(fun z0=>k (v.ui 20 0 z0)))
def qrq (v0 v1:LA):Option Int:=
 (q3r v0 v1 (fun v5q1=>(some v5q1)) FU (0:Int))
def qqc:=hull qrq
theorem qblk:qqc=qrq:=qa _
def q5n {R:Type}:EntF Tryz.prog R:=entB (nt:=38) (dec:=(decI .i64)) (enc:=(AV.int .i64)) tabOk follows Tryz.func84 [.t 4] hdeI (.s .z (.s .z (.s (.b (.sub [.sel [0,1,5] []] qbft [])) .z))) S107_ qrq (fun f v=>f (v.l 0 0) (v.l 4 0))
def qmn (v0 v1:LU):Option Int:=
 (oB (qfr v0) fun r1=>(oB (qfr v1) fun r2=>(bif((!r1.2)||(!r2.2))then(bif r1.2 then(some (-1:Int))else(bif r2.2 then(some (1:Int))else(oB (qvc v0 v1) fun r3=>(some r3))))else(oB (qqc r1.1 r2.1) fun r4=>(bif((decide (r4<(r1.1.length:Int)))&&(decide (r4<(r2.1.length:Int))))then(oB (ixB r1.1 (IntKind.i64.wrap ((IntKind.i64.wrap ((r1.1.length:Int)-1))-r4))) fun y5=>(bif fitC [.s] y5.cells then(oB (ixB r2.1 (IntKind.i64.wrap ((IntKind.i64.wrap ((r2.1.length:Int)-1))-r4))) fun y6=>(bif fitC [.s] y6.cells then(oB (qvc (gS y5.cells 0) (gS y6.cells 0)) fun r7=>(some r7))else none))else none))else(bif(decide ((r1.1.length:Int)<(r2.1.length:Int)))then(some (-1:Int))else(bif(decide ((r1.1.length:Int)>(r2.1.length:Int)))then(some (1:Int))else(some (0:Int)))))))))
def qph:=hull qmn
theorem qbdn:qph=qmn:=qa _
def q0f {R:Type}:EntF Tryz.prog R:=entB (nt:=71) (dec:=(decI .i64)) (enc:=(AV.int .i64)) tabOk follows Tryz.func31 [.t 4] hdeI (.s .z (.s (.r [(1,.k qie.b)] []) (.s (.r [(1,.k qie.b)] []) (.s (.s (.r [(3,.g 2)] []) (.s (.s .z (.s .z (.s (.r [(2,.c q5m.b)] []) .z))) .z)) (.s (.r [(2,.c q5n.b)] []) (.s (.s (.r [(5,.g 4)] []) (.s (.s (.d [] [(6,.e 50 [.s]),(14,.e 58 [.s])] [(0,.c q5m.b)] []) .z) .z)) .z)))))) S62_ qmn (fun f v=>f (v.s 0 0) (v.s 4 0))
def qnv (Aa:LU)(Ab:Bool)(Ac Bt Bu:Int)(B7:LU)(B8:Bool)(B9 Ca Cb:Int):Option Bool:=
 (oB (qpa Ab Ac Bt B8 B9 Ca) fun r1=>(bif(decide (r1<0))then(some true)else(bif(r1==0)then(oB (qph Aa B7) fun r2=>(some (decide (r2<0))))else(some false))))
def qrr:=hull qnv
theorem qbfu:qrr=qnv:=qa _
def q12 {R:Type}:EntF Tryz.prog R:=entB (nt:=25) (dec:=decB) (enc:=AV.bool) tabOk follows Tryz.func81 [.t 4] hdeB (.s .z (.s (.r [(4,.c qz8.b)] []) (.s (.r [(10,.c q0f.b)] []) .z))) S75_ qnv (fun f v=>f (v.s 1 0) (v.b 1 1) (v.i 1 2) (v.i 1 3) (v.i 1 4) (v.s 5 0) (v.b 5 1) (v.i 5 2) (v.i 5 3) (v.i 5 4))
def S108_:Shp:=⟨[(0,.one (.l (.sl 5))),(3,.one (.l (.i .i64))),(4,.one (.ptr 0 0))],[.box true (lk qj)]⟩
def S109_:Shp:=⟨[(0,.one (.l (.sl 5))),(3,.one (.l (.i .i64)))],[]⟩
def q78 (v0:LA)(v3:Int)(Av:LU)(Aw:Bool)(Ax Ay Az:Int)(K:Ex->Env->Mem->Option Int):=(fun z_v26=>K .norm (qk [(0,(.sl 5 v0)),(3,(.int .i64 v3)),(4,(.ptr 0 0)),(26,(.bool z_v26))]) (qh [(some (.box true (qfj Av Aw Ax Ay Az)))]))
def qkh (v0:LA)(v3:Int)(Av:LU)(Aw:Bool)(Ax Ay Az:Int)(kn:Bool->Option Int):Option Int:=
 (oB (qoc Av) fun r1=>(bif(!r1)then(kn true)else(oB (qvo Av) fun r2=>(kn r2))))
def qsk:=hull (qkh)
theorem q79:qsk=qkh:=qa _
def qbah:SubB Tryz.prog (TIof Tryz.prog) 74 0 (kret [.t 2] (decI .i64)):=jnB tabOk follows Tryz.f29 4683 (.r [(2,.c qvn.b),(7,.c qbfr.b)] [.sel [0,3,4,26] [0]]) S108_ (qkh) (fun f v K=>f (v.l 0 0) (v.i 12 0) (v.s 3 0) (v.b 3 1) (v.i 3 2) (v.i 3 3) (v.i 3 4) (q78 (v.l 0 0) (v.i 12 0) (v.s 3 0) (v.b 3 1) (v.i 3 2) (v.i 3 3) (v.i 3 4) K))
def q8a (v0:LA)(v3:Int)(Av:LU)(Aw:Bool)(Ax Ay Az:Int)(K:Ex->Env->Mem->Option Int):=(fun z_v49=>K .norm (qk [(0,(.sl 5 v0)),(3,(.int .i64 v3)),(4,(.ptr 0 0)),(49,(.bool z_v49))]) (qh [(some (.box true (qfj Av Aw Ax Ay Az)))]))
def qki (v0:LA)(v3:Int)(Av:LU)(Aw:Bool)(Ax Ay Az:Int)(kn:Bool->Option Int):Option Int:=
 (bif(decide (v3>0))then(oB (ixB v0 (IntKind.i64.wrap (v3-1))) fun y1=>(bif fitC qj y1.cells then(oB (qrr Av Aw Ax Ay Az (gS y1.cells 0) (gB y1.cells 1) (gI y1.cells 2) (gI y1.cells 3) (gI y1.cells 4)) fun r2=>(kn r2))else none))else(kn false))
def qsl:=hull (qki)
theorem q8b:qsl=qki:=qa _
def qbai:SubB Tryz.prog (TIof Tryz.prog) 74 0 (kret [.t 2] (decI .i64)):=jnB tabOk follows Tryz.f29 40523 (.d [] [(7,.e 46 qj)] [(0,.c q12.b)] [.sel [0,3,4,49] [0]]) S108_ (qki) (fun f v K=>f (v.l 0 0) (v.i 12 0) (v.s 3 0) (v.b 3 1) (v.i 3 2) (v.i 3 3) (v.i 3 4) (q8a (v.l 0 0) (v.i 12 0) (v.s 3 0) (v.b 3 1) (v.i 3 2) (v.i 3 3) (v.i 3 4) K))
def q8c (v0:LA)(v3:Int)(K:Ex->Env->Mem->Option Int):=(fun z_v73=>K .norm (qk [(0,(.sl 5 v0)),(3,(.int .i64 v3)),(73,(.bool z_v73))]) (qh []))
def qkj (v0:LA)(v3:Int)(Av:LU)(Aw:Bool)(Ax Ay Az:Int)(kn:Bool->Option Int):Option Int:=
 (bif(decide (v3>0))then(oB (ixB v0 (IntKind.i64.wrap (v3-1))) fun y1=>(bif fitC qj y1.cells then(bif(Av==(gS y1.cells 0))then(oB (ixB v0 (IntKind.i64.wrap (v3-1))) fun y2=>(bif fitC qj y2.cells then(kn ((Aw==(gB y2.cells 1))&&((Ax==(gI y2.cells 2))&&((Ay==(gI y2.cells 3))&&true))))else none))else(kn false))else none))else(kn false))
def qsm:=hull (qkj)
theorem q8d:qsm=qkj:=qa _
def qbaj:SubB Tryz.prog (TIof Tryz.prog) 74 0 (kret [.t 2] (decI .i64)):=jnB tabOk follows Tryz.f29 48715 (.d [] [(8,.e 58 qj),(19,.e 69 qj)] [] [.sel [0,3,73] []]) S108_ (qkj) (fun f v K=>f (v.l 0 0) (v.i 12 0) (v.s 3 0) (v.b 3 1) (v.i 3 2) (v.i 3 3) (v.i 3 4) (q8c (v.l 0 0) (v.i 12 0) K))
def quk (K:Ex->Env->Mem->Option Int):=(fun(_:Unit)=>K (.exit 0) (qk []) (qh []))
def qgr (v0:LA)(v3:Int)(next:Int->Option Int)(kx0:Unit->Option Int):Option Int:=
 (bif(decide (v3<(v0.length:Int)))then(oB (ixB v0 v3) fun y1=>(bif fitC qj y1.cells then(qsk v0 v3 (gS y1.cells 0) (gB y1.cells 1) (gI y1.cells 2) (gI y1.cells 3) (gI y1.cells 4) (fun v26q2=>(bif v26q2 then(some (2:Int))else(oB (qk0 (gB y1.cells 1) (gI y1.cells 2) (gI y1.cells 3)) fun r3=>(bif(!r3)then(some (3:Int))else(bif((decide ((gI y1.cells 4)<0))||(decide ((gI y1.cells 4)>2147483647)))then(some (1:Int))else(qsl v0 v3 (gS y1.cells 0) (gB y1.cells 1) (gI y1.cells 2) (gI y1.cells 3) (gI y1.cells 4) (fun v49q4=>(bif v49q4 then(some (7:Int))else(qsm v0 v3 (gS y1.cells 0) (gB y1.cells 1) (gI y1.cells 2) (gI y1.cells 3) (gI y1.cells 4) (fun v73q5=>(bif v73q5 then(some (12:Int))else(next (IntKind.i64.wrap (v3+1)))))))))))))))else none))else(kx0 ()))
def qgs (v0:LA)(kx0:Unit->Option Int):Nat->Int->Option Int
 |0=>(fun _=>none)
 |n+1=>(fun v3=>qgr v0 v3 (qgs v0 kx0 n) kx0)
def q0g:=hull (qgs)
theorem q8e:q0g=qgs:=qa _
def qbak:SubB Tryz.prog (TIof Tryz.prog) 74 0 (kret [.t 2] (decI .i64)):=lpB tabOk follows Tryz.f29 75 (.s (.s .z (.s .z (.v [.sel [] []]))) (.s (.b (.s (.r [(2,.p (.etac 16 qj))] []) (.s (.s (.sub [.sel [0,3,4] [0]] qbah []) .z) (.s (.s (.r [(2,.c qo7.b)] []) .z) (.s (.s (.r [(4,.g 3)] []) .z) (.s (.s (.sub [.sel [0,3,4] [0]] qbai []) .z) (.s (.sub [.sel [0,3,4] [0]] qbaj []) .z))))))) (.v [.sel [0,3] []]))) S109_ (qgs) (fun f v K n=>f (v.l 0 0) (quk K) n) (fun v f K=>qgr (v.l 0 0) (v.i 12 0) f (quk K)) (fun f v=>f (v.i 12 0)) (fun k v=>(fun z0=>k (v.ui 12 0 z0)))
def qpi (v0:LA):Option Int:=
 (bif(decide ((v0.length:Int)>256))then(some (9:Int))else(q0g v0 (fun(_:Unit)=>(some (0:Int))) FU (0:Int)))
def qtm:=hull qpi
theorem qbji:qtm=qpi:=qa _
def q3s {R:Type}:EntF Tryz.prog R:=entB (nt:=74) (dec:=(decI .i64)) (enc:=(AV.int .i64)) tabOk follows Tryz.func29 [.t 2] hdeI (.s .z (.s .z (.s (.s .z (.b (.sub [.sel [0,3] []] qbak []))) .z))) S77_ qpi (fun f v=>f (v.l 0 0))
def S110_:Shp:=⟨[(0,.one (.l (.sl 8))),(3,.one (.ptr 0 0)),(4,.one (.ptr 1 0)),(6,.one (.l (.i .i64))),(7,.one (.l (.i .i64)))],[.box true (lk qd0),.box true (lk qb)]⟩
def qqx:AV->Option (AV×Bool):=decN [(.st [.b,(.i .u64),(.i .u64),(.i .i64),(.i .i64),.s,.s,(.i .i64)]),(.one .b)] fun z=>((gC (tpL z) 0),aB (gC (tpL z) 1))
def q6q (v0:LA)(v6 v7:Int)(Av:Bool)(Aw Ax:Int)(Ad:Bool)(Ae Af Ag Ah:Int)(Ai Aj:LU)(Ak:Int)(K:Ex->Env->Mem->Option (AV×Bool)):=(fun z_v39=>K .norm (qk [(0,(.sl 8 v0)),(3,(.ptr 0 0)),(4,(.ptr 1 0)),(6,(.int .i64 v6)),(7,(.int .i64 v7)),(39,(.bool z_v39))]) (qh [(some (.box true (qhd Av Aw Ax))),(some (.box true (qn Ad Ae Af Ag Ah Ai Aj Ak)))]))
def qjk (v0:LA)(v6 v7:Int)(Av:Bool)(Aw Ax:Int)(Ad:Bool)(Ae Af Ag Ah:Int)(Ai Aj:LU)(Ak:Int)(kn:Bool->Option (AV×Bool)):Option (AV×Bool):=
 (oB (ixB v0 v7) fun y1=>(bif fitC qb y1.cells then(oB (qnr (gB y1.cells 0) (gI y1.cells 1) (gI y1.cells 2) (gI y1.cells 3) Av Aw Ax) fun r2=>(bif r2 then(bif(decide (v6<0))then(kn true)else(oB (ixB v0 v7) fun y3=>(bif fitC qb y3.cells then(oB (ixB v0 v6) fun y4=>(bif fitC qb y4.cells then(kn (decide ((gI y3.cells 3)>(gI y4.cells 3))))else none))else none)))else(kn false)))else none))
def qyf:=hull (qjk)
theorem q6r:qyf=qjk:=qa _
def q8f:SubB Tryz.prog (TIof Tryz.prog) 48 0 (kret [(.cell 4 true 8),.t 5] qqx):=jnB tabOk follows Tryz.f85 1099 (.d [] [(2,.e 16 qb),(6,.c qye.b),(13,.e 27 qb),(19,.e 33 qb)] [] [.sel [0,3,4,6,7,39] [0,1]]) S110_ (qjk) (fun f v K=>f (v.l 0 0) (v.i 24 0) (v.i 28 0) (v.b 3 0) (v.i 3 1) (v.i 3 2) (v.b 7 0) (v.i 7 1) (v.i 7 2) (v.i 7 3) (v.i 7 4) (v.s 7 5) (v.s 7 6) (v.i 7 7) (q6q (v.l 0 0) (v.i 24 0) (v.i 28 0) (v.b 3 0) (v.i 3 1) (v.i 3 2) (v.b 7 0) (v.i 7 1) (v.i 7 2) (v.i 7 3) (v.i 7 4) (v.s 7 5) (v.s 7 6) (v.i 7 7) K))
def qul (v0:LA)(Ad:Bool)(Ae Af Ag Ah:Int)(Ai Aj:LU)(Ak:Int)(K:Ex->Env->Mem->Option (AV×Bool)):=(fun z_v6=>K (.exit 0) (qk [(0,(.sl 8 v0)),(4,(.ptr 0 0)),(6,(.int .i64 z_v6))]) (qh [(some (.box true (qn Ad Ae Af Ag Ah Ai Aj Ak)))]))
def qgt (v0:LA)(v6 v7:Int)(Av:Bool)(Aw Ax:Int)(Ad:Bool)(Ae Af Ag Ah:Int)(Ai Aj:LU)(Ak:Int)(next:Int->Int->Option (AV×Bool))(kx0:Int->Option (AV×Bool)):Option (AV×Bool):=
 (bif(decide (v7<(v0.length:Int)))then(qyf v0 v6 v7 Av Aw Ax Ad Ae Af Ag Ah Ai Aj Ak (fun v39q1=>(bif v39q1 then(next v7 (IntKind.i64.wrap (v7+1)))else(next v6 (IntKind.i64.wrap (v7+1))))))else(kx0 v6))
def qev (v0:LA)(Av:Bool)(Aw Ax:Int)(Ad:Bool)(Ae Af Ag Ah:Int)(Ai Aj:LU)(Ak:Int)(kx0:Int->Option (AV×Bool)):Nat->Int->Int->Option (AV×Bool)
 |0=>(fun _ _=>none)
 |n+1=>(fun v6 v7=>qgt v0 v6 v7 Av Aw Ax Ad Ae Af Ag Ah Ai Aj Ak (qev v0 Av Aw Ax Ad Ae Af Ag Ah Ai Aj Ak kx0 n) kx0)
def q0h:=hull (qev)
theorem q8g:q0h=qev:=qa _
def qbal:SubB Tryz.prog (TIof Tryz.prog) 48 0 (kret [(.cell 4 true 8),.t 5] qqx):=lpB tabOk follows Tryz.f85 75 (.s (.s .z (.s .z (.v [.sel [0,4,6] [1]]))) (.s (.b (.s (.sub [.sel [0,3,4,6,7] [0,1]] q8f []) .z)) (.v [.sel [0,3,4,6,7] [0,1]]))) S110_ (qev) (fun f v K n=>f (v.l 0 0) (v.b 3 0) (v.i 3 1) (v.i 3 2) (v.b 7 0) (v.i 7 1) (v.i 7 2) (v.i 7 3) (v.i 7 4) (v.s 7 5) (v.s 7 6) (v.i 7 7) (qul (v.l 0 0) (v.b 7 0) (v.i 7 1) (v.i 7 2) (v.i 7 3) (v.i 7 4) (v.s 7 5) (v.s 7 6) (v.i 7 7) K) n) (fun v f K=>qgt (v.l 0 0) (v.i 24 0) (v.i 28 0) (v.b 3 0) (v.i 3 1) (v.i 3 2) (v.b 7 0) (v.i 7 1) (v.i 7 2) (v.i 7 3) (v.i 7 4) (v.s 7 5) (v.s 7 6) (v.i 7 7) f (qul (v.l 0 0) (v.b 7 0) (v.i 7 1) (v.i 7 2) (v.i 7 3) (v.i 7 4) (v.s 7 5) (v.s 7 6) (v.i 7 7) K)) (fun f v=>f (v.i 24 0) (v.i 28 0)) (fun k v=>(fun z0 z1=>k ((v.ui 24 0 z0).ui 28 0 z1)))
def qnw (v0:LA)(B7:Bool)(B8 B9:Int):Option (AV×Bool):=
 (q0h v0 B7 B8 B9 false (0:Int) (0:Int) (0:Int) (0:Int) ([]:List UInt8) ([]:List UInt8) (0:Int) (fun v6q1=>(bif(decide (v6q1<0))then(some ((.agg [(.bool false),(.int .u64 (0:Int)),(.int .u64 (0:Int)),(.int .i64 (0:Int)),(.int .i64 (0:Int)),(.str ([]:List UInt8)),(.str ([]:List UInt8)),(.int .i64 (0:Int))]),false))else(oB (ixB v0 v6q1) fun y2=>(bif fitC qb y2.cells then(some ((.agg [(.bool (gB y2.cells 0)),(.int .u64 (gI y2.cells 1)),(.int .u64 (gI y2.cells 2)),(.int .i64 (gI y2.cells 3)),(.int .i64 (gI y2.cells 4)),(.str (gS y2.cells 5)),(.str (gS y2.cells 6)),(.int .i64 (gI y2.cells 7))]),true))else none)))) FU (-1:Int) (0:Int))
def qxg:=hull qnw
theorem qbfv:qxg=qnw:=qa _
def qbjj {R:Type}:EntF Tryz.prog R:=entB (nt:=48) (dec:=qqx) (enc:=(fun r=>.tup [qcg (.st [.b,(.i .u64),(.i .u64),(.i .i64),(.i .i64),.s,.s,(.i .i64)]) r.1,.bool r.2])) tabOk follows Tryz.func85 [(.cell 4 true 8),.t 5] (hdeN fun _=>rfl) (.s .z (.s .z (.s (.s .z (.b (.sub [.sel [0,3,4,6,7] [0,1]] qbal []))) (.s .z (.s (.r [(2,.p (.etac 46 qb))] []) .z))))) S39_ qnw (fun f v=>f (v.l 0 0) (v.b 5 0) (v.i 5 1) (v.i 5 2))
def qmo (v0:LA)(B7:Bool)(B8 B9:Int):Option Bool:=
 (oB (qxg v0 B7 B8 B9) fun r1=>(bif r1.2 then(bif((gI r1.1.cells 4)==2)then(some true)else(some ((gI r1.1.cells 4)==3)))else(some false)))
def qk7:=hull qmo
theorem qbdo:qk7=qmo:=qa _
def qsn {R:Type}:EntF Tryz.prog R:=entB (nt:=24) (dec:=decB) (enc:=AV.bool) tabOk follows Tryz.func32 [.t 4] hdeB (.s .z (.s (.r [(2,.c qbjj.b)] []) .z)) S39_ qmo (fun f v=>f (v.l 0 0) (v.b 5 0) (v.i 5 1) (v.i 5 2))
def qpj (v0 v1:LU):Option Bool:=
 (oB (qfr v0) fun r1=>(oB (qfr v1) fun r2=>(bif(r1.2&&r2.2)then(oB (qqc r1.1 r2.1) fun r3=>(some (r3==(r2.1.length:Int))))else(some false))))
def qy2:=hull qpj
theorem qbjk:qy2=qpj:=qa _
def qbll {R:Type}:EntF Tryz.prog R:=entB (nt:=31) (dec:=decB) (enc:=AV.bool) tabOk follows Tryz.func86 [.t 4] hdeB (.s .z (.s (.r [(1,.k qie.b)] []) (.s (.r [(1,.k qie.b)] []) (.s (.r [(2,.g 1),(7,.c q5n.b)] []) .z)))) S62_ qpj (fun f v=>f (v.s 0 0) (v.s 4 0))
def S111_:Shp:=⟨[(0,.one (.l (.sl 1))),(1,.one (.l .s)),(5,.one (.l (.i .i64)))],[]⟩
def qv8 (K:Ex->Env->Mem->Option Bool):=(fun(_:Unit)=>K (.exit 0) (qk []) (qh []))
def qhz (v0:LA)(v1:LU)(v5:Int)(next:Int->Option Bool)(kx0:Unit->Option Bool):Option Bool:=
 (bif(decide (v5<(v0.length:Int)))then(oB (ixB v0 v5) fun y1=>(bif fitC [.s] y1.cells then(oB (qy2 v1 (gS y1.cells 0)) fun r2=>(bif r2 then(some true)else(next (IntKind.i64.wrap (v5+1)))))else none))else(kx0 ()))
def qh0 (v0:LA)(v1:LU)(kx0:Unit->Option Bool):Nat->Int->Option Bool
 |0=>(fun _=>none)
 |n+1=>(fun v5=>qhz v0 v1 v5 (qh0 v0 v1 kx0 n) kx0)
def q13:=hull (qh0)
theorem qbam:q13=qh0:=qa _
def qbdp:SubB Tryz.prog (TIof Tryz.prog) 18 0 (kret [.t 4] decB):=lpB tabOk follows Tryz.f33 37 (.s (.s .z (.s .z (.v [.sel [] []]))) (.s (.b (.s (.r [(3,.p (.etac 15 [.s])),(5,.c qbll.b)] []) .z)) (.v [.sel [0,1,5] []]))) S111_ (qh0) (fun f v K n=>f (v.l 0 0) (v.s 4 0) (qv8 K) n) (fun v f K=>qhz (v.l 0 0) (v.s 4 0) (v.i 20 0) f (qv8 K)) (fun f v=>f (v.i 20 0)) (fun k v=>(fun z0=>k (v.ui 20 0 z0)))
def qpk (v0:LA)(v1:LU):Option Bool:=
 (q13 v0 v1 (fun(_:Unit)=>(some false)) FU (0:Int))
def qod:=hull qpk
theorem qbjl:qod=qpk:=qa _
def qvp {R:Type}:EntF Tryz.prog R:=entB (nt:=18) (dec:=decB) (enc:=AV.bool) tabOk follows Tryz.func33 [.t 4] hdeB (.s .z (.s (.s .z (.b (.sub [.sel [0,1,5] []] qbdp []))) .z)) S84_ qpk (fun f v=>f (v.l 0 0) (v.s 4 0))
def S112_:Shp:=⟨[(1,.one (.ptr 0 0)),(5,.one (.l (.i .i64)))],[.box true (lk qds)]⟩
def S113_:Shp:=⟨[(1,.one (.ptr 0 0)),(6,.one (.l (.i .i64)))],[.box true (lk qds)]⟩
def q8h (v5:Int)(Av Aw Ax:LA)(K:Ex->Env->Mem->Option Int):=(fun z_v55=>K .norm (qk [(1,(.ptr 0 0)),(5,(.int .i64 v5)),(55,(.bool z_v55))]) (qh [(some (.box true (qcl Av Aw Ax)))]))
def qkk (v5:Int)(Av Aw Ax:LA)(kn:Bool->Option Int):Option Int:=
 (oB (ixB Ax v5) fun y1=>(bif fitC [.s] y1.cells then(oB (qoc (gS y1.cells 0)) fun r2=>(bif(!r2)then(kn true)else(bif(decide (v5>0))then(oB (ixB Ax (IntKind.i64.wrap (v5-1))) fun y3=>(bif fitC [.s] y3.cells then(oB (ixB Ax v5) fun y4=>(bif fitC [.s] y4.cells then(oB (qph (gS y3.cells 0) (gS y4.cells 0)) fun r5=>(kn (decide (r5>=0))))else none))else none))else(kn false))))else none))
def qso:=hull (qkk)
theorem q8i:qso=qkk:=qa _
def qban:SubB Tryz.prog (TIof Tryz.prog) 83 0 (kret [.t 2] (decI .i64)):=jnB tabOk follows Tryz.f12 4399 (.d [] [(3,.e 33 [.s]),(5,.c qvn.b),(15,.e 45 [.s]),(20,.e 50 [.s])] [(0,.c q0f.b)] [.sel [1,5,55] [0]]) S112_ (qkk) (fun f v K=>f (v.i 20 0) (v.l 3 0) (v.l 3 1) (v.l 3 2) (q8h (v.i 20 0) (v.l 3 0) (v.l 3 1) (v.l 3 2) K))
def qum (Av Aw Ax:LA)(K:Ex->Env->Mem->Option Int):=(fun(_:Unit)=>K (.exit 0) (qk [(1,(.ptr 0 0))]) (qh [(some (.box true (qcl Av Aw Ax)))]))
def qgu (v5:Int)(Av Aw Ax:LA)(next:Int->Option Int)(kx0:Unit->Option Int):Option Int:=
 (bif(decide (v5<(Ax.length:Int)))then(qso v5 Av Aw Ax (fun v55q1=>(bif v55q1 then(some (2:Int))else(next (IntKind.i64.wrap (v5+1))))))else(kx0 ()))
def qgv (Av Aw Ax:LA)(kx0:Unit->Option Int):Nat->Int->Option Int
 |0=>(fun _=>none)
 |n+1=>(fun v5=>qgu v5 Av Aw Ax (qgv Av Aw Ax kx0 n) kx0)
def q0i:=hull (qgv)
theorem q8j:q0i=qgv:=qa _
def qbao:SubB Tryz.prog (TIof Tryz.prog) 83 0 (kret [.t 2] (decI .i64)):=lpB tabOk follows Tryz.f12 303 (.s (.s .z (.s .z (.v [.sel [1] [0]]))) (.s (.b (.s (.sub [.sel [1,5] [0]] qban []) .z)) (.v [.sel [1,5] [0]]))) S112_ (qgv) (fun f v K n=>f (v.l 3 0) (v.l 3 1) (v.l 3 2) (qum (v.l 3 0) (v.l 3 1) (v.l 3 2) K) n) (fun v f K=>qgu (v.i 20 0) (v.l 3 0) (v.l 3 1) (v.l 3 2) f (qum (v.l 3 0) (v.l 3 1) (v.l 3 2) K)) (fun f v=>f (v.i 20 0)) (fun k v=>(fun z0=>k (v.ui 20 0 z0)))
def qun (K:Ex->Env->Mem->Option Int):=(fun(_:Unit)=>K (.exit 2) (qk []) (qh []))
def qgw (v6:Int)(Av Aw Ax:LA)(next:Int->Option Int)(kx2:Unit->Option Int):Option Int:=
 (bif(decide (v6<(Aw.length:Int)))then(oB (ixB Aw v6) fun y1=>(bif fitC qj y1.cells then(oB (qk7 Av (gB y1.cells 1) (gI y1.cells 2) (gI y1.cells 3)) fun r2=>(bif(!r2)then(some (25:Int))else(oB (ixB Aw v6) fun y3=>(bif fitC qj y3.cells then(oB (qod Ax (gS y3.cells 0)) fun r4=>(bif(!r4)then(some (13:Int))else(next (IntKind.i64.wrap (v6+1)))))else none))))else none))else(kx2 ()))
def qgx (Av Aw Ax:LA)(kx2:Unit->Option Int):Nat->Int->Option Int
 |0=>(fun _=>none)
 |n+1=>(fun v6=>qgw v6 Av Aw Ax (qgx Av Aw Ax kx2 n) kx2)
def qsp:=hull (qgx)
theorem q8k:qsp=qgx:=qa _
def qbap:SubB Tryz.prog (TIof Tryz.prog) 83 0 (kret [.t 2] (decI .i64)):=lpB tabOk follows Tryz.f12 607 (.s (.s .z (.s .z (.v [.sel [] []]))) (.s (.b (.s (.s (.d [] [(5,.e 68 qj)] [(0,.c qsn.b)] []) .z) (.s (.d [] [(5,.e 78 qj)] [(0,.c qvp.b)] []) .z))) (.v [.sel [1,6] [0]]))) S113_ (qgx) (fun f v K n=>f (v.l 3 0) (v.l 3 1) (v.l 3 2) (qun K) n) (fun v f K=>qgw (v.i 24 0) (v.l 3 0) (v.l 3 1) (v.l 3 2) f (qun K)) (fun f v=>f (v.i 24 0)) (fun k v=>(fun z0=>k (v.ui 24 0 z0)))
def qpl (Aa Ab Ac:LA):Option Int:=
 (oB (qy1 Aa) fun r1=>(bif(r1 != (0:Int))then(some r1)else(oB (qtm Ab) fun r2=>(bif(r2 != (0:Int))then(some r2)else(bif(decide ((Ac.length:Int)>32))then(some (9:Int))else(q0i Aa Ab Ac (fun(_:Unit)=>(qsp Aa Ab Ac (fun(_:Unit)=>(some (0:Int))) FU (0:Int))) FU (0:Int)))))))
def qy3:=hull qpl
theorem qbjm:qy3=qpl:=qa _
def qblm {R:Type}:EntF Tryz.prog R:=entB (nt:=83) (dec:=(decI .i64)) (enc:=(AV.int .i64)) tabOk follows Tryz.func12 [.t 2] hdeI (.s .z (.s (.s (.r [(2,.c qbli.b)] []) .z) (.s (.s (.r [(2,.c q3s.b)] []) .z) (.s .z (.s (.s .z (.b (.sub [.sel [1,5] [0]] qbao []))) (.s (.s .z (.b (.sub [.sel [1,6] [0]] qbap []))) .z)))))) S4_ qpl (fun f v=>f (v.l 1 0) (v.l 1 1) (v.l 1 2))
def S114_:Shp:=⟨[(1,.one (.ptr 0 0)),(2,.one (.ptr 1 0)),(3,.one (.ptr 2 0))],[.box true (lk qd3),.box true (lk qd3),.box true (lk qd3)]⟩
def qbdq (Ad:Int)(Ae:Bool)(Af Ag Ah Ai:Int)(Aj Ak:LU)(Al Am An:Int)(Ao:LU)(Ap:Bool)(Aq Ar As:Int)(At:LU)(Au:Int)(K:Ex->Env->Mem->Option AV):=(fun z_b1_1 z_b1_2 z_b1_3 z_b1_4 z_b1_5 z_b1_6 z_b1_7 z_b1_8 z_b1_9 z_b1_10 z_b1_11 z_b1_12 z_b1_13 z_b1_14 z_b1_15 z_b1_16=>K .norm (qk [(2,(.ptr 0 0)),(3,(.ptr 1 0))]) (qh [(some (.box true (qgd Ad Ae Af Ag Ah Ai Aj Ak Al Am An Ao Ap Aq Ar As At))),(some (.box true (qgd Au z_b1_1 z_b1_2 z_b1_3 z_b1_4 z_b1_5 z_b1_6 z_b1_7 z_b1_8 z_b1_9 z_b1_10 z_b1_11 z_b1_12 z_b1_13 z_b1_14 z_b1_15 z_b1_16)))]))
def qmp (Av:Int)(Aw:Bool)(Ax Ay Az A0:Int)(A1 A2:LU)(A3 A4 A5:Int)(A6:LU)(A7:Bool)(A8 A9 Ba:Int)(Bb:LU)(Ad:Int)(Ae:Bool)(Af Ag Ah Ai:Int)(Aj Ak:LU)(Al Am An:Int)(Ao:LU)(Ap:Bool)(Aq Ar As:Int)(At:LU)(Au:Int)(Bc:Bool)(Bd Be Bf Bg:Int)(Bh Bi:LU)(Bj Bl Bm:Int)(Bn:LU)(Bo:Bool)(Bp Bq Br:Int)(Bs:LU)(kn:Bool->Int->Int->Int->Int->(List UInt8)->(List UInt8)->Int->Int->Int->(List UInt8)->Bool->Int->Int->Int->(List UInt8)->Option AV):Option AV:=
 (bif(Av==1)then(kn Aw Ax Ay Az A0 A1 A2 A3 Bl Bm Bn Bo Bp Bq Br Bs)else(bif(Av==2)then(kn Aw Ax Ay Az Bg Bh Bi Bj Bl Bm Bn Bo Bp Bq Br Bs)else(bif(Av==3)then(kn Aw Ax Ay Az Bg A1 A2 Bj A4 A5 Bn Bo Bp Bq Br Bs)else(bif(Av==4)then(kn Bc Bd Be Bf Bg Bh Bi Bj Bl Bm A6 A7 A8 A9 Ba Bs)else(bif(Av==5)then(kn Bc Bd Be Bf Bg Bh Bi Bj Bl Bm A6 A7 A8 A9 Br Bs)else(bif(Av==6)then(kn Bc Bd Be Bf Bg Bh Bi Bj Bl Bm A6 A7 A8 A9 Br Bb)else(kn Bc Bd Be Bf Bg Bh Bi Bj Bl Bm Bn Bo Bp Bq Br Bs)))))))
def q3t:=hull (qmp)
theorem qbdr:q3t=qmp:=qa _
def qbfw:SubB Tryz.prog (TIof Tryz.prog) 77 0 (kret [(.cell 2 true 17)] (decT [(.i .i64),.b,(.i .u64),(.i .u64),(.i .i64),(.i .i64),.s,.s,(.i .i64),(.i .i64),(.i .i64),.s,.b,(.i .u64),(.i .u64),(.i .i64),.s])):=jnB tabOk follows Tryz.f46 23 (.s .z (.b (.s .z (.s (.v [.sel [2,3] [1,2]]) (.s .z (.s (.v [.sel [2,3] [1,2]]) (.s .z (.s (.s .z (.s .z (.s .z (.s .z (.v [.sel [2,3] [1,2]]))))) (.s .z (.s (.v [.sel [2,3] [1,2]]) (.s .z (.s (.s .z (.v [.sel [2,3] [1,2]])) (.s .z (.s (.s .z (.s .z (.v [.sel [2,3] [1,2]]))) (.v [.sel [2,3] [1,2]]))))))))))))))) S114_ (qmp) (fun f v K=>f (v.i 3 0) (v.b 3 1) (v.i 3 2) (v.i 3 3) (v.i 3 4) (v.i 3 5) (v.s 3 6) (v.s 3 7) (v.i 3 8) (v.i 3 9) (v.i 3 10) (v.s 3 11) (v.b 3 12) (v.i 3 13) (v.i 3 14) (v.i 3 15) (v.s 3 16) (v.i 7 0) (v.b 7 1) (v.i 7 2) (v.i 7 3) (v.i 7 4) (v.i 7 5) (v.s 7 6) (v.s 7 7) (v.i 7 8) (v.i 7 9) (v.i 7 10) (v.s 7 11) (v.b 7 12) (v.i 7 13) (v.i 7 14) (v.i 7 15) (v.s 7 16) (v.i 11 0) (v.b 11 1) (v.i 11 2) (v.i 11 3) (v.i 11 4) (v.i 11 5) (v.s 11 6) (v.s 11 7) (v.i 11 8) (v.i 11 9) (v.i 11 10) (v.s 11 11) (v.b 11 12) (v.i 11 13) (v.i 11 14) (v.i 11 15) (v.s 11 16) (qbdq (v.i 7 0) (v.b 7 1) (v.i 7 2) (v.i 7 3) (v.i 7 4) (v.i 7 5) (v.s 7 6) (v.s 7 7) (v.i 7 8) (v.i 7 9) (v.i 7 10) (v.s 7 11) (v.b 7 12) (v.i 7 13) (v.i 7 14) (v.i 7 15) (v.s 7 16) (v.i 11 0) K))
def qrs (Aa:Int)(Ab:Bool)(Ac Bt Bu Bv:Int)(Bw Bx:LU)(By Bz B0:Int)(B1:LU)(B2:Bool)(B3 B4 B5:Int)(B6:LU):Option AV:=
 (q3t Aa Ab Ac Bt Bu Bv Bw Bx By Bz B0 B1 B2 B3 B4 B5 B6 (0:Int) false (0:Int) (0:Int) (0:Int) (0:Int) ([]:List UInt8) ([]:List UInt8) (0:Int) (0:Int) (0:Int) ([]:List UInt8) false (0:Int) (0:Int) (0:Int) ([]:List UInt8) Aa false (0:Int) (0:Int) (0:Int) (0:Int) ([]:List UInt8) ([]:List UInt8) (0:Int) (0:Int) (0:Int) ([]:List UInt8) false (0:Int) (0:Int) (0:Int) ([]:List UInt8) (fun b1_1q1 b1_2q2 b1_3q3 b1_4q4 b1_5q5 b1_6q6 b1_7q7 b1_8q8 b1_9q9 b1_10q10 b1_11q11 b1_12q12 b1_13q13 b1_14q14 b1_15q15 b1_16q16=>(some (.agg [(.int .i64 Aa),(.bool b1_1q1),(.int .u64 b1_2q2),(.int .u64 b1_3q3),(.int .i64 b1_4q4),(.int .i64 b1_5q5),(.str b1_6q6),(.str b1_7q7),(.int .i64 b1_8q8),(.int .i64 b1_9q9),(.int .i64 b1_10q10),(.str b1_11q11),(.bool b1_12q12),(.int .u64 b1_13q13),(.int .u64 b1_14q14),(.int .i64 b1_15q15),(.str b1_16q16)]))))
def q1h:=hull qrs
theorem qbln:q1h=qrs:=qa _
def qbm6 {R:Type}:EntF Tryz.prog R:=entB (nt:=77) (dec:=(decT [(.i .i64),.b,(.i .u64),(.i .u64),(.i .i64),(.i .i64),.s,.s,(.i .i64),(.i .i64),(.i .i64),.s,.b,(.i .u64),(.i .u64),(.i .i64),.s])) (enc:=(qcg (.st [(.i .i64),.b,(.i .u64),(.i .u64),(.i .i64),(.i .i64),.s,.s,(.i .i64),(.i .i64),(.i .i64),.s,.b,(.i .u64),(.i .u64),(.i .i64),.s]))) tabOk follows Tryz.func46 [(.cell 2 true 17)] hdeT (.s .z (.s .z (.s .z (.s (.sub [.sel [1,2,3] [0,1,2]] qbfw []) .z)))) S3_ qrs (fun f v=>f (v.i 1 0) (v.b 1 1) (v.i 1 2) (v.i 1 3) (v.i 1 4) (v.i 1 5) (v.s 1 6) (v.s 1 7) (v.i 1 8) (v.i 1 9) (v.i 1 10) (v.s 1 11) (v.b 1 12) (v.i 1 13) (v.i 1 14) (v.i 1 15) (v.s 1 16))
def S115_:Shp:=⟨[(0,.one (.l (.sl 8))),(3,.one (.ptr 0 0)),(4,.one (.ptr 1 0)),(6,.one (.l (.i .i64)))],[.box true (lk qe),.box true (lk qb)]⟩
def q14:AV->Option (AV×Bool):=decN [(.st [.b,(.i .u64),(.i .u64),(.i .i64),(.i .i64),.s,.s,(.i .i64)]),(.one .b)] fun z=>((gC (tpL z) 0),aB (gC (tpL z) 1))
def qxh (Ad:Bool)(Ae Af Ag Ah:Int)(Ai Aj:LU)(Ak:Int)(K:Ex->Env->Mem->Option (AV×Bool)):=(fun(_:Unit)=>K (.exit 0) (qk [(4,(.ptr 0 0))]) (qh [(some (.box true (qn Ad Ae Af Ag Ah Ai Aj Ak)))]))
def qi1 (v0:LA)(v6:Int)(Av:Bool)(Aw Ax Ay:Int)(Ad:Bool)(Ae Af Ag Ah:Int)(Ai Aj:LU)(Ak:Int)(next:Int->Option (AV×Bool))(kx0:Unit->Option (AV×Bool)):Option (AV×Bool):=
 (bif(decide (v6<(v0.length:Int)))then(oB (ixB v0 v6) fun y1=>(bif fitC qb y1.cells then(bif(((gB y1.cells 0)==Av)&&(((gI y1.cells 1)==Aw)&&(((gI y1.cells 2)==Ax)&&(((gI y1.cells 3)==Ay)&&true))))then(oB (ixB v0 v6) fun y2=>(bif fitC qb y2.cells then(some ((.agg [(.bool (gB y2.cells 0)),(.int .u64 (gI y2.cells 1)),(.int .u64 (gI y2.cells 2)),(.int .i64 (gI y2.cells 3)),(.int .i64 (gI y2.cells 4)),(.str (gS y2.cells 5)),(.str (gS y2.cells 6)),(.int .i64 (gI y2.cells 7))]),true))else none))else(next (IntKind.i64.wrap (v6+1))))else none))else(kx0 ()))
def qi2 (v0:LA)(Av:Bool)(Aw Ax Ay:Int)(Ad:Bool)(Ae Af Ag Ah:Int)(Ai Aj:LU)(Ak:Int)(kx0:Unit->Option (AV×Bool)):Nat->Int->Option (AV×Bool)
 |0=>(fun _=>none)
 |n+1=>(fun v6=>qi1 v0 v6 Av Aw Ax Ay Ad Ae Af Ag Ah Ai Aj Ak (qi2 v0 Av Aw Ax Ay Ad Ae Af Ag Ah Ai Aj Ak kx0 n) kx0)
def qvq:=hull (qi2)
theorem qbds:qvq=qi2:=qa _
def qbfx:SubB Tryz.prog (TIof Tryz.prog) 25 0 (kret [(.cell 4 true 8),.t 5] q14):=lpB tabOk follows Tryz.f54 37 (.s (.s .z (.s .z (.v [.sel [4] [1]]))) (.s (.b (.s (.d [] [(2,.e 15 qb)] [] []) (.s (.s (.r [(2,.p (.etac 22 qb))] []) .z) .z))) (.v [.sel [0,3,4,6] [0,1]]))) S115_ (qi2) (fun f v K n=>f (v.l 0 0) (v.b 3 0) (v.i 3 1) (v.i 3 2) (v.i 3 3) (v.b 7 0) (v.i 7 1) (v.i 7 2) (v.i 7 3) (v.i 7 4) (v.s 7 5) (v.s 7 6) (v.i 7 7) (qxh (v.b 7 0) (v.i 7 1) (v.i 7 2) (v.i 7 3) (v.i 7 4) (v.s 7 5) (v.s 7 6) (v.i 7 7) K) n) (fun v f K=>qi1 (v.l 0 0) (v.i 24 0) (v.b 3 0) (v.i 3 1) (v.i 3 2) (v.i 3 3) (v.b 7 0) (v.i 7 1) (v.i 7 2) (v.i 7 3) (v.i 7 4) (v.s 7 5) (v.s 7 6) (v.i 7 7) f (qxh (v.b 7 0) (v.i 7 1) (v.i 7 2) (v.i 7 3) (v.i 7 4) (v.s 7 5) (v.s 7 6) (v.i 7 7) K)) (fun f v=>f (v.i 24 0)) (fun k v=>(fun z0=>k (v.ui 24 0 z0)))
def qrt (v0:LA)(B7:Bool)(B8 B9 Ca:Int):Option (AV×Bool):=
 (qvq v0 B7 B8 B9 Ca false (0:Int) (0:Int) (0:Int) (0:Int) ([]:List UInt8) ([]:List UInt8) (0:Int) (fun(_:Unit)=>(some ((.agg [(.bool false),(.int .u64 (0:Int)),(.int .u64 (0:Int)),(.int .i64 (0:Int)),(.int .i64 (0:Int)),(.str ([]:List UInt8)),(.str ([]:List UInt8)),(.int .i64 (0:Int))]),false))) FU (0:Int))
def qhj:=hull qrt
theorem qblo:qhj=qrt:=qa _
def qmq {R:Type}:EntF Tryz.prog R:=entB (nt:=25) (dec:=q14) (enc:=(fun r=>.tup [qcg (.st [.b,(.i .u64),(.i .u64),(.i .i64),(.i .i64),.s,.s,(.i .i64)]) r.1,.bool r.2])) tabOk follows Tryz.func54 [(.cell 4 true 8),.t 5] (hdeN fun _=>rfl) (.s .z (.s (.s .z (.b (.sub [.sel [0,3,4,6] [0,1]] qbfx []))) .z)) S16_ qrt (fun f v=>f (v.l 0 0) (v.b 5 0) (v.i 5 1) (v.i 5 2) (v.i 5 3))
def S116_:Shp:=⟨[(0,.one (.l (.sl 8))),(3,.one (.ptr 0 0)),(5,.one (.own 1)),(6,.one (.l .b)),(7,.one (.l (.i .i64)))],[.box true (lk qb),.arr true 8]⟩
def qbdt (v0:LA)(v6:Bool)(v7:Int)(Av:Bool)(Aw Ax Ay Az:Int)(A0 A1:LU)(A2:Int)(a1:LA)(K:Ex->Env->Mem->Option (List AV)):=(fun z_v26=>K .norm (qk [(0,(.sl 8 v0)),(3,(.ptr 0 0)),(5,(.own 1 a1.length)),(6,(.bool v6)),(7,(.int .i64 v7)),(26,(.bool z_v26))]) (qh [(some (.box true (qn Av Aw Ax Ay Az A0 A1 A2))),(some (.arr true 8 a1))]))
def qmr (v0:LA)(v6:Bool)(v7:Int)(Av:Bool)(Aw Ax Ay Az:Int)(A0 A1:LU)(A2:Int)(a1:LA)(kn:Bool->Option (List AV)):Option (List AV):=
 (bif(!v6)then(oB (ixB v0 v7) fun y1=>(bif fitC qb y1.cells then(oB (qpb (gB y1.cells 0) (gI y1.cells 1) (gI y1.cells 2) (gI y1.cells 3) Av Aw Ax Ay) fun r2=>(kn (decide (r2>0))))else none))else(kn false))
def q3u:=hull (qmr)
theorem qbdu:q3u=qmr:=qa _
def qbfy:SubB Tryz.prog (TIof Tryz.prog) 45 0 (kret [.t 4] (decF true 8)):=jnB tabOk follows Tryz.f104 4247 (.d [] [(5,.e 19 qb)] [(0,.c qz9.b)] [.sel [0,3,5,6,7,26] [0,1]]) S116_ (qmr) (fun f v K=>f (v.l 0 0) (v.b 24 0) (v.i 28 0) (v.b 3 0) (v.i 3 1) (v.i 3 2) (v.i 3 3) (v.i 3 4) (v.s 3 5) (v.s 3 6) (v.i 3 7) (v.r 1) (qbdt (v.l 0 0) (v.b 24 0) (v.i 28 0) (v.b 3 0) (v.i 3 1) (v.i 3 2) (v.i 3 3) (v.i 3 4) (v.s 3 5) (v.s 3 6) (v.i 3 7) (v.r 1) K))
def qbdv (v0:LA)(v7:Int)(Av:Bool)(Aw Ax Ay Az:Int)(A0 A1:LU)(A2:Int)(K:Ex->Env->Mem->Option (List AV)):=(fun z_v6 z_a1=>K .norm (qk [(0,(.sl 8 v0)),(3,(.ptr 0 0)),(5,(.own 1 z_a1.length)),(6,(.bool z_v6)),(7,(.int .i64 v7))]) (qh [(some (.box true (qn Av Aw Ax Ay Az A0 A1 A2))),(some (.arr true 8 z_a1))]))
def qms (v0:LA)(v6:Bool)(v7:Int)(Av:Bool)(Aw Ax Ay Az:Int)(A0 A1:LU)(A2:Int)(a1:LA)(kn:Bool->(List AV)->Option (List AV)):Option (List AV):=
 (bif(hd a1 (a1.length)&&true)then(q3u v0 v6 v7 Av Aw Ax Ay Az A0 A1 A2 a1 (fun v26q1=>(bif v26q1 then(bif hd a1 a1.length then(bif hd ([(.agg [(.bool Av),(.int .u64 Aw),(.int .u64 Ax),(.int .i64 Ay),(.int .i64 Az),(.str A0),(.str A1),(.int .i64 A2)])]:List AV) (([(.agg [(.bool Av),(.int .u64 Aw),(.int .u64 Ax),(.int .i64 Ay),(.int .i64 Az),(.str A0),(.str A1),(.int .i64 A2)])]:List AV).length)then(bif decide ((a1.length+([(.agg [(.bool Av),(.int .u64 Aw),(.int .u64 Ax),(.int .i64 Ay),(.int .i64 Az),(.str A0),(.str A1),(.int .i64 A2)])]:List AV).length)*80<=140737488355328)then(kn true (a1++([(.agg [(.bool Av),(.int .u64 Aw),(.int .u64 Ax),(.int .i64 Ay),(.int .i64 Az),(.str A0),(.str A1),(.int .i64 A2)])]:List AV)))else none)else none)else none)else(kn v6 a1))))else none)
def qvr:=hull (qms)
theorem qbdw:qvr=qms:=qa _
def qbfz:SubB Tryz.prog (TIof Tryz.prog) 45 0 (kret [.t 4] (decF true 8)):=jnB tabOk follows Tryz.f104 2199 (.s (.sub [.sel [0,3,5,6,7] [0,1]] qbfy []) (.s (.s .z (.v [.sel [0,3,5,6,7] [0,1]])) (.v [.sel [0,3,5,6,7] [0,1]]))) S116_ (qms) (fun f v K=>f (v.l 0 0) (v.b 24 0) (v.i 28 0) (v.b 3 0) (v.i 3 1) (v.i 3 2) (v.i 3 3) (v.i 3 4) (v.s 3 5) (v.s 3 6) (v.i 3 7) (v.r 1) (qbdv (v.l 0 0) (v.i 28 0) (v.b 3 0) (v.i 3 1) (v.i 3 2) (v.i 3 3) (v.i 3 4) (v.s 3 5) (v.s 3 6) (v.i 3 7) K))
def qxi (Av:Bool)(Aw Ax Ay Az:Int)(A0 A1:LU)(A2:Int)(K:Ex->Env->Mem->Option (List AV)):=(fun z_v6 z_a1=>K (.exit 0) (qk [(3,(.ptr 0 0)),(5,(.own 1 z_a1.length)),(6,(.bool z_v6))]) (qh [(some (.box true (qn Av Aw Ax Ay Az A0 A1 A2))),(some (.arr true 8 z_a1))]))
def qft (v0:LA)(v6:Bool)(v7:Int)(Av:Bool)(Aw Ax Ay Az:Int)(A0 A1:LU)(A2:Int)(a1:LA)(next:Bool->Int->(List AV)->Option (List AV))(kx0:Bool->(List AV)->Option (List AV)):Option (List AV):=
 (bif(decide (v7<(v0.length:Int)))then(bif(hd a1 (a1.length)&&true)then(qvr v0 v6 v7 Av Aw Ax Ay Az A0 A1 A2 a1 (fun v6q1 a1q2=>(oB (ixB v0 v7) fun y3=>(bif fitC qb y3.cells then(bif hd a1q2 a1q2.length then(bif hd ([(.agg [(.bool (gB y3.cells 0)),(.int .u64 (gI y3.cells 1)),(.int .u64 (gI y3.cells 2)),(.int .i64 (gI y3.cells 3)),(.int .i64 (gI y3.cells 4)),(.str (gS y3.cells 5)),(.str (gS y3.cells 6)),(.int .i64 (gI y3.cells 7))])]:List AV) (([(.agg [(.bool (gB y3.cells 0)),(.int .u64 (gI y3.cells 1)),(.int .u64 (gI y3.cells 2)),(.int .i64 (gI y3.cells 3)),(.int .i64 (gI y3.cells 4)),(.str (gS y3.cells 5)),(.str (gS y3.cells 6)),(.int .i64 (gI y3.cells 7))])]:List AV).length)then(bif decide ((a1q2.length+([(.agg [(.bool (gB y3.cells 0)),(.int .u64 (gI y3.cells 1)),(.int .u64 (gI y3.cells 2)),(.int .i64 (gI y3.cells 3)),(.int .i64 (gI y3.cells 4)),(.str (gS y3.cells 5)),(.str (gS y3.cells 6)),(.int .i64 (gI y3.cells 7))])]:List AV).length)*80<=140737488355328)then(next v6q1 (IntKind.i64.wrap (v7+1)) (a1q2++([(.agg [(.bool (gB y3.cells 0)),(.int .u64 (gI y3.cells 1)),(.int .u64 (gI y3.cells 2)),(.int .i64 (gI y3.cells 3)),(.int .i64 (gI y3.cells 4)),(.str (gS y3.cells 5)),(.str (gS y3.cells 6)),(.int .i64 (gI y3.cells 7))])]:List AV)))else none)else none)else none)else none))))else none)else(kx0 v6 a1))
def qfu (v0:LA)(Av:Bool)(Aw Ax Ay Az:Int)(A0 A1:LU)(A2:Int)(kx0:Bool->(List AV)->Option (List AV)):Nat->Bool->Int->(List AV)->Option (List AV)
 |0=>(fun _ _ _=>none)
 |n+1=>(fun v6 v7 a1=>qft v0 v6 v7 Av Aw Ax Ay Az A0 A1 A2 a1 (qfu v0 Av Aw Ax Ay Az A0 A1 A2 kx0 n) kx0)
def q3v:=hull (qfu)
theorem qbdx:q3v=qfu:=qa _
def qbf0:SubB Tryz.prog (TIof Tryz.prog) 45 0 (kret [.t 4] (decF true 8)):=lpB tabOk follows Tryz.f104 151 (.s (.s .z (.s .z (.v [.sel [3,5,6] [0,1]]))) (.s (.b (.s (.sub [.sel [0,3,5,6,7] [0,1]] qbfz []) (.r [(3,.p (.etac 34 qb))] []))) (.v [.sel [0,3,5,6,7] [0,1]]))) S116_ (qfu) (fun f v K n=>f (v.l 0 0) (v.b 3 0) (v.i 3 1) (v.i 3 2) (v.i 3 3) (v.i 3 4) (v.s 3 5) (v.s 3 6) (v.i 3 7) (qxi (v.b 3 0) (v.i 3 1) (v.i 3 2) (v.i 3 3) (v.i 3 4) (v.s 3 5) (v.s 3 6) (v.i 3 7) K) n) (fun v f K=>qft (v.l 0 0) (v.b 24 0) (v.i 28 0) (v.b 3 0) (v.i 3 1) (v.i 3 2) (v.i 3 3) (v.i 3 4) (v.s 3 5) (v.s 3 6) (v.i 3 7) (v.r 1) f (qxi (v.b 3 0) (v.i 3 1) (v.i 3 2) (v.i 3 3) (v.i 3 4) (v.s 3 5) (v.s 3 6) (v.i 3 7) K)) (fun f v=>f (v.b 24 0) (v.i 28 0) (v.r 1)) (fun k v=>(fun z0 z1 z2=>k (((v.ub 24 0 z0).ui 28 0 z1).ur 1 z2)))
def qtn (v0:LA)(B7:Bool)(B8 B9 Ca Cb:Int)(Cc Cd:LU)(Ce:Int):Option (List AV):=
 (bif(hd ([]:List AV) (([]:List AV).length)&&true)then(q3v v0 B7 B8 B9 Ca Cb Cc Cd Ce (fun v6q1 a1q2=>(bif(!v6q1)then(bif hd a1q2 a1q2.length then(bif hd ([(.agg [(.bool B7),(.int .u64 B8),(.int .u64 B9),(.int .i64 Ca),(.int .i64 Cb),(.str Cc),(.str Cd),(.int .i64 Ce)])]:List AV) (([(.agg [(.bool B7),(.int .u64 B8),(.int .u64 B9),(.int .i64 Ca),(.int .i64 Cb),(.str Cc),(.str Cd),(.int .i64 Ce)])]:List AV).length)then(bif decide ((a1q2.length+([(.agg [(.bool B7),(.int .u64 B8),(.int .u64 B9),(.int .i64 Ca),(.int .i64 Cb),(.str Cc),(.str Cd),(.int .i64 Ce)])]:List AV).length)*80<=140737488355328)then(bif hd (a1q2++([(.agg [(.bool B7),(.int .u64 B8),(.int .u64 B9),(.int .i64 Ca),(.int .i64 Cb),(.str Cc),(.str Cd),(.int .i64 Ce)])]:List AV)) ((a1q2++([(.agg [(.bool B7),(.int .u64 B8),(.int .u64 B9),(.int .i64 Ca),(.int .i64 Cb),(.str Cc),(.str Cd),(.int .i64 Ce)])]:List AV)).length)then(some (a1q2++([(.agg [(.bool B7),(.int .u64 B8),(.int .u64 B9),(.int .i64 Ca),(.int .i64 Cb),(.str Cc),(.str Cd),(.int .i64 Ce)])]:List AV)))else none)else none)else none)else none)else(bif hd a1q2 a1q2.length then(some a1q2)else none))) FU false (0:Int) ([]:List AV))else none)
def q3w:=hull qtn
theorem qbm7:q3w=qtn:=qa _
def qbpv {R:Type}:EntF Tryz.prog R:=entB (nt:=45) (dec:=(decF true 8)) (enc:=(AV.fr true 8)) tabOk follows Tryz.func104 [.t 4] hdeF (.s .z (.s .z (.s .z (.s (.s .z (.b (.sub [.own 5 8,.sel [0,3,5,6,7] [0,1]] qbf0 []))) .z)))) S25_ qtn (fun f v=>f (v.l 0 0) (v.b 5 0) (v.i 5 1) (v.i 5 2) (v.i 5 3) (v.i 5 4) (v.s 5 5) (v.s 5 6) (v.i 5 7))
def S117_:Shp:=⟨[(0,.one (.l (.sl 8))),(3,.one (.ptr 0 0)),(8,.one (.l (.i .i64)))],[.box true (lk qb)]⟩
def q3x:AV->Option ((List AV)×Int):=decN [(.one (.sl 8)),(.one (.i .i64))] fun z=>(aL (gC (tpL z) 0),aI (gC (tpL z) 1))
def qxj (v0:LA)(Av:Bool)(Aw Ax Ay Az:Int)(A0 A1:LU)(A2:Int)(K:Ex->Env->Mem->Option ((List AV)×Int)):=(fun(_:Unit)=>K (.exit 0) (qk [(0,(.sl 8 v0)),(3,(.ptr 0 0))]) (qh [(some (.box true (qn Av Aw Ax Ay Az A0 A1 A2)))]))
def qi3 (v0:LA)(v8:Int)(Av:Bool)(Aw Ax Ay Az:Int)(A0 A1:LU)(A2:Int)(next:Int->Option ((List AV)×Int))(kx0:Unit->Option ((List AV)×Int)):Option ((List AV)×Int):=
 (bif(decide (v8<(v0.length:Int)))then(oB (ixB v0 v8) fun y1=>(bif fitC qb y1.cells then(oB (qmh Av Aw Ax Ay Az A0 A1 A2 (gB y1.cells 0) (gI y1.cells 1) (gI y1.cells 2) (gI y1.cells 3) (gI y1.cells 4) (gS y1.cells 5) (gS y1.cells 6) (gI y1.cells 7)) fun r2=>(bif r2 then(some (([]:List AV),(24:Int)))else(oB (ixB v0 v8) fun y3=>(bif fitC qb y3.cells then(oB (qkt (gB y3.cells 0) (gI y3.cells 1) (gI y3.cells 2) (gI y3.cells 3) Av Aw Ax Ay) fun r4=>(bif r4 then(some (([]:List AV),(24:Int)))else(next (IntKind.i64.wrap (v8+1)))))else none))))else none))else(kx0 ()))
def qi4 (v0:LA)(Av:Bool)(Aw Ax Ay Az:Int)(A0 A1:LU)(A2:Int)(kx0:Unit->Option ((List AV)×Int)):Nat->Int->Option ((List AV)×Int)
 |0=>(fun _=>none)
 |n+1=>(fun v8=>qi3 v0 v8 Av Aw Ax Ay Az A0 A1 A2 (qi4 v0 Av Aw Ax Ay Az A0 A1 A2 kx0 n) kx0)
def qvs:=hull (qi4)
theorem qbdy:qvs=qi4:=qa _
def qbf1:SubB Tryz.prog (TIof Tryz.prog) 52 0 (kret [.t 4,.t 5] q3x):=lpB tabOk follows Tryz.f47 607 (.s (.s .z (.s .z (.v [.sel [0,3] [0]]))) (.s (.b (.s (.d [] [(3,.e 33 qb),(5,.c q11.b),(9,.e 39 qb)] [(0,.c qlx.b)] []) (.s (.s .z (.v [.eta 4 (.one (.sl 8))])) .z))) (.v [.sel [0,3,8] [0]]))) S117_ (qi4) (fun f v K n=>f (v.l 0 0) (v.b 3 0) (v.i 3 1) (v.i 3 2) (v.i 3 3) (v.i 3 4) (v.s 3 5) (v.s 3 6) (v.i 3 7) (qxj (v.l 0 0) (v.b 3 0) (v.i 3 1) (v.i 3 2) (v.i 3 3) (v.i 3 4) (v.s 3 5) (v.s 3 6) (v.i 3 7) K) n) (fun v f K=>qi3 (v.l 0 0) (v.i 32 0) (v.b 3 0) (v.i 3 1) (v.i 3 2) (v.i 3 3) (v.i 3 4) (v.s 3 5) (v.s 3 6) (v.i 3 7) f (qxj (v.l 0 0) (v.b 3 0) (v.i 3 1) (v.i 3 2) (v.i 3 3) (v.i 3 4) (v.s 3 5) (v.s 3 6) (v.i 3 7) K)) (fun f v=>f (v.i 32 0)) (fun k v=>(fun z0=>k (v.ui 32 0 z0)))
def qto (v0:LA)(B7:Bool)(B8 B9 Ca Cb:Int)(Cc Cd:LU)(Ce:Int):Option ((List AV)×Int):=
 (oB (qfq B7 B8 B9 Ca) fun r1=>(bif(!r1)then(some (([]:List AV),(3:Int)))else(oB (qsg B7 B8 B9 Ca Cb Cc Cd Ce) fun r2=>(bif(!r2)then(some (([]:List AV),(1:Int)))else(oB (qhj v0 B7 B8 B9 Ca) fun r3=>(bif r3.2 then(some (([]:List AV),(12:Int)))else(qvs v0 B7 B8 B9 Ca Cb Cc Cd Ce (fun(_:Unit)=>(bif(decide ((v0.length:Int)>=512))then(some (([]:List AV),(9:Int)))else(oB (q3w v0 B7 B8 B9 Ca Cb Cc Cd Ce) fun r4=>(some (r4,(0:Int)))))) FU (0:Int))))))))
def qxk:=hull qto
theorem qbm8:qxk=qto:=qa _
def q8l {R:Type}:EntF Tryz.prog R:=entB (nt:=52) (dec:=q3x) (enc:=(fun r=>.tup [.sl 8 r.1,.int .i64 r.2])) tabOk follows Tryz.func47 [.t 4,.t 5] (hdeN fun _=>rfl) (.s .z (.s (.s (.r [(2,.c qid.b)] []) (.s (.s .z (.v [.eta 4 (.one (.sl 8))])) .z)) (.s (.s (.r [(1,.c q7u.b)] []) (.s (.s .z (.v [.eta 4 (.one (.sl 8))])) .z)) (.s (.r [(3,.c qmq.b)] []) (.s (.s .z (.s (.s .z (.v [.eta 4 (.one (.sl 8))])) .z)) (.s (.s .z (.b (.sub [.sel [0,3,8] [0]] qbf1 []))) (.s (.s .z (.s (.s .z (.v [.eta 4 (.one (.sl 8))])) .z)) (.s (.r [(2,.k qbpv.b)] []) .z)))))))) S25_ qto (fun f v=>f (v.l 0 0) (v.b 5 0) (v.i 5 1) (v.i 5 2) (v.i 5 3) (v.i 5 4) (v.s 5 5) (v.s 5 6) (v.i 5 7))
def S118_:Shp:=⟨[(0,.one (.l (.sl 8))),(3,.one (.ptr 0 0)),(5,.one (.l (.i .i64)))],[.box true (lk qe)]⟩
def qv9 (K:Ex->Env->Mem->Option Bool):=(fun(_:Unit)=>K (.exit 0) (qk []) (qh []))
def qh1 (v0:LA)(v5:Int)(Av:Bool)(Aw Ax Ay:Int)(next:Int->Option Bool)(kx0:Unit->Option Bool):Option Bool:=
 (bif(decide (v5<(v0.length:Int)))then(oB (ixB v0 v5) fun y1=>(bif fitC qb y1.cells then(oB (qkt (gB y1.cells 0) (gI y1.cells 1) (gI y1.cells 2) (gI y1.cells 3) Av Aw Ax Ay) fun r2=>(bif r2 then(some true)else(next (IntKind.i64.wrap (v5+1)))))else none))else(kx0 ()))
def qh2 (v0:LA)(Av:Bool)(Aw Ax Ay:Int)(kx0:Unit->Option Bool):Nat->Int->Option Bool
 |0=>(fun _=>none)
 |n+1=>(fun v5=>qh1 v0 v5 Av Aw Ax Ay (qh2 v0 Av Aw Ax Ay kx0 n) kx0)
def q15:=hull (qh2)
theorem qbaq:q15=qh2:=qa _
def qbdz:SubB Tryz.prog (TIof Tryz.prog) 19 0 (kret [.t 4] decB):=lpB tabOk follows Tryz.f105 37 (.s (.s .z (.s .z (.v [.sel [] []]))) (.s (.b (.s (.d [] [(2,.e 14 qb)] [(0,.c qlx.b)] []) .z)) (.v [.sel [0,3,5] [0]]))) S118_ (qh2) (fun f v K n=>f (v.l 0 0) (v.b 3 0) (v.i 3 1) (v.i 3 2) (v.i 3 3) (qv9 K) n) (fun v f K=>qh1 (v.l 0 0) (v.i 20 0) (v.b 3 0) (v.i 3 1) (v.i 3 2) (v.i 3 3) f (qv9 K)) (fun f v=>f (v.i 20 0)) (fun k v=>(fun z0=>k (v.ui 20 0 z0)))
def qpm (v0:LA)(B7:Bool)(B8 B9 Ca:Int):Option Bool:=
 (q15 v0 B7 B8 B9 Ca (fun(_:Unit)=>(some false)) FU (0:Int))
def qy4:=hull qpm
theorem qbjn:qy4=qpm:=qa _
def qblp {R:Type}:EntF Tryz.prog R:=entB (nt:=19) (dec:=decB) (enc:=AV.bool) tabOk follows Tryz.func105 [.t 4] hdeB (.s .z (.s (.s .z (.b (.sub [.sel [0,3,5] [0]] qbdz []))) .z)) S16_ qpm (fun f v=>f (v.l 0 0) (v.b 5 0) (v.i 5 1) (v.i 5 2) (v.i 5 3))
def S119_:Shp:=⟨[(0,.one (.l (.sl 8))),(3,.one (.ptr 0 0)),(5,.one (.own 1)),(6,.one (.l (.i .i64)))],[.box true (lk qe),.arr true 8]⟩
def qty (K:Ex->Env->Mem->Option (List AV)):=(fun z_a0=>K (.exit 0) (qk [(5,(.own 0 z_a0.length))]) (qh [(some (.arr true 8 z_a0))]))
def qfv (v0:LA)(v6:Int)(Av:Bool)(Aw Ax Ay:Int)(a1:LA)(next:Int->(List AV)->Option (List AV))(kx0:(List AV)->Option (List AV)):Option (List AV):=
 (bif(decide (v6<(v0.length:Int)))then(oB (ixB v0 v6) fun y1=>(bif fitC qb y1.cells then(bif(!(((gB y1.cells 0)==Av)&&(((gI y1.cells 1)==Aw)&&(((gI y1.cells 2)==Ax)&&(((gI y1.cells 3)==Ay)&&true)))))then(oB (ixB v0 v6) fun y2=>(bif fitC qb y2.cells then(bif hd a1 a1.length then(bif hd ([(.agg [(.bool (gB y2.cells 0)),(.int .u64 (gI y2.cells 1)),(.int .u64 (gI y2.cells 2)),(.int .i64 (gI y2.cells 3)),(.int .i64 (gI y2.cells 4)),(.str (gS y2.cells 5)),(.str (gS y2.cells 6)),(.int .i64 (gI y2.cells 7))])]:List AV) (([(.agg [(.bool (gB y2.cells 0)),(.int .u64 (gI y2.cells 1)),(.int .u64 (gI y2.cells 2)),(.int .i64 (gI y2.cells 3)),(.int .i64 (gI y2.cells 4)),(.str (gS y2.cells 5)),(.str (gS y2.cells 6)),(.int .i64 (gI y2.cells 7))])]:List AV).length)then(bif decide ((a1.length+([(.agg [(.bool (gB y2.cells 0)),(.int .u64 (gI y2.cells 1)),(.int .u64 (gI y2.cells 2)),(.int .i64 (gI y2.cells 3)),(.int .i64 (gI y2.cells 4)),(.str (gS y2.cells 5)),(.str (gS y2.cells 6)),(.int .i64 (gI y2.cells 7))])]:List AV).length)*80<=140737488355328)then(next (IntKind.i64.wrap (v6+1)) (a1++([(.agg [(.bool (gB y2.cells 0)),(.int .u64 (gI y2.cells 1)),(.int .u64 (gI y2.cells 2)),(.int .i64 (gI y2.cells 3)),(.int .i64 (gI y2.cells 4)),(.str (gS y2.cells 5)),(.str (gS y2.cells 6)),(.int .i64 (gI y2.cells 7))])]:List AV)))else none)else none)else none)else none))else(next (IntKind.i64.wrap (v6+1)) a1))else none))else(kx0 a1))
def qfw (v0:LA)(Av:Bool)(Aw Ax Ay:Int)(kx0:(List AV)->Option (List AV)):Nat->Int->(List AV)->Option (List AV)
 |0=>(fun _ _=>none)
 |n+1=>(fun v6 a1=>qfv v0 v6 Av Aw Ax Ay a1 (qfw v0 Av Aw Ax Ay kx0 n) kx0)
def qyg:=hull (qfw)
theorem q6s:qyg=qfw:=qa _
def q8m:SubB Tryz.prog (TIof Tryz.prog) 28 0 (kret [.t 4] (decF true 8)):=lpB tabOk follows Tryz.f106 75 (.s (.s .z (.s .z (.v [.sel [5] [1]]))) (.s (.b (.s (.d [] [(2,.e 15 qb)] [] []) (.s (.r [(3,.p (.etac 23 qb))] []) .z))) (.v [.sel [0,3,5,6] [0,1]]))) S119_ (qfw) (fun f v K n=>f (v.l 0 0) (v.b 3 0) (v.i 3 1) (v.i 3 2) (v.i 3 3) (qty K) n) (fun v f K=>qfv (v.l 0 0) (v.i 24 0) (v.b 3 0) (v.i 3 1) (v.i 3 2) (v.i 3 3) (v.r 1) f (qty K)) (fun f v=>f (v.i 24 0) (v.r 1)) (fun k v=>(fun z0 z1=>k ((v.ui 24 0 z0).ur 1 z1)))
def qmt (v0:LA)(B7:Bool)(B8 B9 Ca:Int):Option (List AV):=
 (bif(hd ([]:List AV) (([]:List AV).length)&&true)then(qyg v0 B7 B8 B9 Ca (fun a0q1=>(bif hd a0q1 a0q1.length then(some a0q1)else none)) FU (0:Int) ([]:List AV))else none)
def qvt:=hull qmt
theorem qbd0:qvt=qmt:=qa _
def qbf2 {R:Type}:EntF Tryz.prog R:=entB (nt:=28) (dec:=(decF true 8)) (enc:=(AV.fr true 8)) tabOk follows Tryz.func106 [.t 4] hdeF (.s .z (.s .z (.s (.s .z (.b (.sub [.own 5 8,.sel [0,3,5,6] [0,1]] q8m []))) .z))) S16_ qmt (fun f v=>f (v.l 0 0) (v.b 5 0) (v.i 5 1) (v.i 5 2) (v.i 5 3))
def qbd1:AV->Option ((List AV)×Int):=decN [(.one (.sl 8)),(.one (.i .i64))] fun z=>(aL (gC (tpL z) 0),aI (gC (tpL z) 1))
def qnx (v0:LA)(B7:Bool)(B8 B9 Ca:Int):Option ((List AV)×Int):=
 (oB (qhj v0 B7 B8 B9 Ca) fun r1=>(bif(!r1.2)then(some (([]:List AV),(11:Int)))else(oB (qy4 v0 B7 B8 B9 Ca) fun r2=>(bif r2 then(some (([]:List AV),(25:Int)))else(oB (qvt v0 B7 B8 B9 Ca) fun r3=>(some (r3,(0:Int))))))))
def qxl:=hull qnx
theorem qbf3:qxl=qnx:=qa _
def qbjo {R:Type}:EntF Tryz.prog R:=entB (nt:=22) (dec:=qbd1) (enc:=(fun r=>.tup [.sl 8 r.1,.int .i64 r.2])) tabOk follows Tryz.func48 [.t 4,.t 5] (hdeN fun _=>rfl) (.s .z (.s (.r [(2,.c qmq.b)] []) (.s (.s .z (.s (.s .z (.v [.eta 4 (.one (.sl 8))])) .z)) (.s (.s (.r [(2,.c qblp.b)] []) (.s (.s .z (.v [.eta 4 (.one (.sl 8))])) .z)) (.s (.r [(2,.k qbf2.b)] []) .z))))) S16_ qnx (fun f v=>f (v.l 0 0) (v.b 5 0) (v.i 5 1) (v.i 5 2) (v.i 5 3))
def qny (Aa:Bool)(Ab Ac Bt:Int):Option Int:=
 (bif Aa then(some (128:Int))else(some (32:Int)))
def qxm:=hull qny
theorem qbf4:qxm=qny:=qa _
def qbjp {R:Type}:EntF Tryz.prog R:=entB (nt:=6) (dec:=(decI .i64)) (enc:=(AV.int .i64)) tabOk follows Tryz.func181 [.t 2] hdeI (.z) S8_ qny (fun f v=>f (v.b 1 0) (v.i 1 1) (v.i 1 2) (v.i 1 3))
def S120_:Shp:=⟨[(0,.st (lk qe)),(1,.one (.l (.i .i64)))],[]⟩
def qkl (Aa:Bool)(Ab Ac Bt v1:Int):Option Bool:=
 (bif(decide (v1>=Bt))then(oB (qxm Aa Ab Ac Bt) fun r1=>(some (decide (v1<=r1))))else(some false))
def q0j:=hull qkl
theorem q8n:q0j=qkl:=qa _
def qbar {R:Type}:EntF Tryz.prog R:=entB (nt:=15) (dec:=decB) (enc:=AV.bool) tabOk follows Tryz.func161 [.t 4] hdeB (.s .z (.s (.r [(7,.c qbjp.b)] []) .z)) S120_ qkl (fun f v=>f (v.b 1 0) (v.i 1 1) (v.i 1 2) (v.i 1 3) (v.i 4 0))
def S121_:Shp:=⟨[(0,.one (.l (.sl 8))),(3,.one (.ptr 0 0)),(5,.one (.own 1)),(6,.one (.l (.i .i64))),(7,.one (.l .b)),(8,.one (.l (.i .i64)))],[.box true (lk qe),.arr true 8]⟩
def qru (v0:LA)(v6:Int)(Av:Bool)(Aw Ax Ay:Int)(a1:LA)(K:Ex->Env->Mem->Option (List AV)):=(fun z_v7=>K (.exit 2) (qk [(0,(.sl 8 v0)),(3,(.ptr 0 0)),(5,(.own 1 a1.length)),(6,(.int .i64 v6)),(7,(.bool z_v7))]) (qh [(some (.box true (qc Av Aw Ax Ay))),(some (.arr true 8 a1))]))
def qez (v0:LA)(v6:Int)(v7:Bool)(v8:Int)(Av:Bool)(Aw Ax Ay:Int)(a1:LA)(next:Bool->Int->Option (List AV))(kx2:Bool->Option (List AV)):Option (List AV):=
 (bif(decide (v8<(v0.length:Int)))then(oB (ixB v0 v8) fun y1=>(bif fitC qb y1.cells then(oB (qkt (gB y1.cells 0) (gI y1.cells 1) (gI y1.cells 2) (gI y1.cells 3) Av Aw Ax Ay) fun r2=>(bif r2 then(oB (ixB v0 v6) fun y3=>(bif fitC qb y3.cells then(oB (ixB v0 v8) fun y4=>(bif fitC qb y4.cells then(oB (qkt (gB y3.cells 0) (gI y3.cells 1) (gI y3.cells 2) (gI y3.cells 3) (gB y4.cells 0) (gI y4.cells 1) (gI y4.cells 2) (gI y4.cells 3)) fun r5=>(bif r5 then(next false (IntKind.i64.wrap (v8+1)))else(next v7 (IntKind.i64.wrap (v8+1)))))else none))else none))else(next v7 (IntKind.i64.wrap (v8+1)))))else none))else(kx2 v7))
def qe0 (v0:LA)(v6:Int)(Av:Bool)(Aw Ax Ay:Int)(a1:LA)(kx2:Bool->Option (List AV)):Nat->Bool->Int->Option (List AV)
 |0=>(fun _ _=>none)
 |n+1=>(fun v7 v8=>qez v0 v6 v7 v8 Av Aw Ax Ay a1 (qe0 v0 v6 Av Aw Ax Ay a1 kx2 n) kx2)
def qoe:=hull (qe0)
theorem q3y:qoe=qe0:=qa _
def q47:SubB Tryz.prog (TIof Tryz.prog) 58 0 (kret [.t 4] (decF true 8)):=lpB tabOk follows Tryz.f183 38475 (.s (.s .z (.s .z (.v [.sel [0,3,5,6,7] [0,1]]))) (.s (.b (.s (.d [] [(2,.e 31 qb),(6,.c qlx.b),(10,.e 39 qb),(15,.e 44 qb)] [(0,.c qlx.b)] []) .z)) (.v [.sel [0,3,5,6,7,8] [0,1]]))) S121_ (qe0) (fun f v K n=>f (v.l 0 0) (v.i 24 0) (v.b 3 0) (v.i 3 1) (v.i 3 2) (v.i 3 3) (v.r 1) (qru (v.l 0 0) (v.i 24 0) (v.b 3 0) (v.i 3 1) (v.i 3 2) (v.i 3 3) (v.r 1) K) n) (fun v f K=>qez (v.l 0 0) (v.i 24 0) (v.b 28 0) (v.i 32 0) (v.b 3 0) (v.i 3 1) (v.i 3 2) (v.i 3 3) (v.r 1) f (qru (v.l 0 0) (v.i 24 0) (v.b 3 0) (v.i 3 1) (v.i 3 2) (v.i 3 3) (v.r 1) K)) (fun f v=>f (v.b 28 0) (v.i 32 0)) (fun k v=>(fun z0 z1=>k ((v.ub 28 0 z0).ui 32 0 z1)))
def qsq (K:Ex->Env->Mem->Option (List AV)):=(fun z_a0=>K (.exit 0) (qk [(5,(.own 0 z_a0.length))]) (qh [(some (.arr true 8 z_a0))]))
def qfe (v0:LA)(v6:Int)(Av:Bool)(Aw Ax Ay:Int)(a1:LA)(next:Int->(List AV)->Option (List AV))(kx0:(List AV)->Option (List AV)):Option (List AV):=
 (bif(decide (v6<(v0.length:Int)))then(oB (ixB v0 v6) fun y1=>(bif fitC qb y1.cells then(oB (qkt (gB y1.cells 0) (gI y1.cells 1) (gI y1.cells 2) (gI y1.cells 3) Av Aw Ax Ay) fun r2=>(bif(!r2)then(next (IntKind.i64.wrap (v6+1)) a1)else(bif(hd a1 (a1.length)&&true)then(qoe v0 v6 Av Aw Ax Ay a1 (fun v7q3=>(bif v7q3 then(oB (ixB v0 v6) fun y4=>(bif fitC qb y4.cells then(bif hd a1 a1.length then(bif hd ([(.agg [(.bool (gB y4.cells 0)),(.int .u64 (gI y4.cells 1)),(.int .u64 (gI y4.cells 2)),(.int .i64 (gI y4.cells 3)),(.int .i64 (gI y4.cells 4)),(.str (gS y4.cells 5)),(.str (gS y4.cells 6)),(.int .i64 (gI y4.cells 7))])]:List AV) (([(.agg [(.bool (gB y4.cells 0)),(.int .u64 (gI y4.cells 1)),(.int .u64 (gI y4.cells 2)),(.int .i64 (gI y4.cells 3)),(.int .i64 (gI y4.cells 4)),(.str (gS y4.cells 5)),(.str (gS y4.cells 6)),(.int .i64 (gI y4.cells 7))])]:List AV).length)then(bif decide ((a1.length+([(.agg [(.bool (gB y4.cells 0)),(.int .u64 (gI y4.cells 1)),(.int .u64 (gI y4.cells 2)),(.int .i64 (gI y4.cells 3)),(.int .i64 (gI y4.cells 4)),(.str (gS y4.cells 5)),(.str (gS y4.cells 6)),(.int .i64 (gI y4.cells 7))])]:List AV).length)*80<=140737488355328)then(next (IntKind.i64.wrap (v6+1)) (a1++([(.agg [(.bool (gB y4.cells 0)),(.int .u64 (gI y4.cells 1)),(.int .u64 (gI y4.cells 2)),(.int .i64 (gI y4.cells 3)),(.int .i64 (gI y4.cells 4)),(.str (gS y4.cells 5)),(.str (gS y4.cells 6)),(.int .i64 (gI y4.cells 7))])]:List AV)))else none)else none)else none)else none))else(next (IntKind.i64.wrap (v6+1)) a1))) FU true (0:Int))else none)))else none))else(kx0 a1))
def qff (v0:LA)(Av:Bool)(Aw Ax Ay:Int)(kx0:(List AV)->Option (List AV)):Nat->Int->(List AV)->Option (List AV)
 |0=>(fun _ _=>none)
 |n+1=>(fun v6 a1=>qfe v0 v6 Av Aw Ax Ay a1 (qff v0 Av Aw Ax Ay kx0 n) kx0)
def qxn:=hull (qff)
theorem q48:qxn=qff:=qa _
def q6t:SubB Tryz.prog (TIof Tryz.prog) 58 0 (kret [.t 4] (decF true 8)):=lpB tabOk follows Tryz.f183 75 (.s (.s .z (.s .z (.v [.sel [5] [1]]))) (.s (.b (.s (.s (.d [] [(2,.e 17 qb)] [(0,.c qlx.b)] []) .z) (.s .z (.s (.s .z (.b (.sub [.sel [0,3,5,6,7,8] [0,1]] q47 []))) (.s .z (.s (.r [(3,.p (.etac 53 qb))] []) .z)))))) (.v [.sel [0,3,5,6] [0,1]]))) S119_ (qff) (fun f v K n=>f (v.l 0 0) (v.b 3 0) (v.i 3 1) (v.i 3 2) (v.i 3 3) (qsq K) n) (fun v f K=>qfe (v.l 0 0) (v.i 24 0) (v.b 3 0) (v.i 3 1) (v.i 3 2) (v.i 3 3) (v.r 1) f (qsq K)) (fun f v=>f (v.i 24 0) (v.r 1)) (fun k v=>(fun z0 z1=>k ((v.ui 24 0 z0).ur 1 z1)))
def qll (v0:LA)(B7:Bool)(B8 B9 Ca:Int):Option (List AV):=
 (bif(hd ([]:List AV) (([]:List AV).length)&&true)then(qxn v0 B7 B8 B9 Ca (fun a0q1=>(bif hd a0q1 a0q1.length then(some a0q1)else none)) FU (0:Int) ([]:List AV))else none)
def qt8:=hull qll
theorem qbas:qt8=qll:=qa _
def qbd2 {R:Type}:EntF Tryz.prog R:=entB (nt:=58) (dec:=(decF true 8)) (enc:=(AV.fr true 8)) tabOk follows Tryz.func183 [.t 4] hdeF (.s .z (.s .z (.s (.s .z (.b (.sub [.own 5 8,.sel [0,3,5,6] [0,1]] q6t []))) .z))) S16_ qll (fun f v=>f (v.l 0 0) (v.b 5 0) (v.i 5 1) (v.i 5 2) (v.i 5 3))
def qmu (Aa:Bool)(Ab Ac Bt:Int)(B7:Bool)(B8 B9 Ca:Int):Option Bool:=
 (oB (qjj Aa Ab Ac Bt B7 B8 B9 Ca) fun r1=>(bif r1 then(some true)else(oB (qjj B7 B8 B9 Ca Aa Ab Ac Bt) fun r2=>(some r2))))
def qvu:=hull qmu
theorem qbd3:qvu=qmu:=qa _
def q0k {R:Type}:EntF Tryz.prog R:=entB (nt:=13) (dec:=decB) (enc:=AV.bool) tabOk follows Tryz.func192 [.t 4] hdeB (.s .z (.s (.r [(2,.c qj6.b),(6,.c qj6.b)] []) .z)) S20_ qmu (fun f v=>f (v.b 1 0) (v.i 1 1) (v.i 1 2) (v.i 1 3) (v.b 5 0) (v.i 5 1) (v.i 5 2) (v.i 5 3))
def S122_:Shp:=⟨[(1,.one (.l (.i .i64))),(3,.one (.ptr 0 0)),(6,.one (.ptr 1 0)),(10,.one (.l (.i .u64))),(11,.one (.l (.i .u64))),(12,.one (.l (.i .i64)))],[.box true (lk qe),.box true (lk qe)]⟩
def qt9:AV->Option (AV×Bool):=decN [(.st [.b,(.i .u64),(.i .u64),(.i .i64)]),(.one .b)] fun z=>((gC (tpL z) 0),aB (gC (tpL z) 1))
def qbd4 (v1 v2:Int)(Av:Bool)(Aw Ax Ay:Int)(Ad:Bool)(Ae Af Ag:Int)(K:Ex->Env->Mem->Option (AV×Bool)):=(fun z_v30=>K .norm (qk [(1,(.int .i64 v1)),(2,(.int .u64 v2)),(3,(.ptr 0 0)),(6,(.ptr 1 0)),(30,(.bool z_v30))]) (qh [(some (.box true (qc Av Aw Ax Ay))),(some (.box true (qc Ad Ae Af Ag)))]))
def qmv (v1 v2:Int)(Av:Bool)(Aw Ax Ay:Int)(Ad:Bool)(Ae Af Ag:Int)(kn:Bool->Option (AV×Bool)):Option (AV×Bool):=
 (oB (qfq Av Aw Ax Ay) fun r1=>(bif((!r1)||(decide (v1<Ay)))then(kn true)else(oB (qhi Av) fun r2=>(kn (decide (v1>r2))))))
def qvv:=hull (qmv)
theorem qbd5:qvv=qmv:=qa _
def qbf5:SubB Tryz.prog (TIof Tryz.prog) 78 0 (kret [(.cell 6 true 4),.t 7] qt9):=jnB tabOk follows Tryz.f165 9 (.r [(1,.c qid.b),(4,.g 4),(14,.c qji.b)] [.sel [1,2,3,6,30] [0,1]]) S44_ (qmv) (fun f v K=>f (v.i 4 0) (v.i 8 0) (v.b 3 0) (v.i 3 1) (v.i 3 2) (v.i 3 3) (v.b 7 0) (v.i 7 1) (v.i 7 2) (v.i 7 3) (qbd4 (v.i 4 0) (v.i 8 0) (v.b 3 0) (v.i 3 1) (v.i 3 2) (v.i 3 3) (v.b 7 0) (v.i 7 1) (v.i 7 2) (v.i 7 3) K))
def qwa (v1:Int)(Av:Bool)(Aw Ax Ay:Int)(Ad:Bool)(Ae Af Ag:Int)(K:Ex->Env->Mem->Option (AV×Bool)):=(fun z_v10 z_v11=>K (.exit 0) (qk [(1,(.int .i64 v1)),(3,(.ptr 0 0)),(6,(.ptr 1 0)),(10,(.int .u64 z_v10)),(11,(.int .u64 z_v11))]) (qh [(some (.box true (qc Av Aw Ax Ay))),(some (.box true (qc Ad Ae Af Ag)))]))
def qlm (v1 v10 v11 v12:Int)(Av:Bool)(Aw Ax Ay:Int)(Ad:Bool)(Ae Af Ag:Int)(next:Int->Int->Int->Option (AV×Bool))(kx0:Int->Int->Option (AV×Bool)):Option (AV×Bool):=
 (oB (qhi Av) fun r1=>(bif(decide (v12<r1))then(next (IntKind.u64.wrap ((IntKind.u64.wrap (v10*2))+(IntKind.u64.wrap (v11.tdiv (9223372036854775808:Int))))) (IntKind.u64.wrap (v11*2)) (IntKind.i64.wrap (v12+1)))else(kx0 v10 v11)))
def qee (v1:Int)(Av:Bool)(Aw Ax Ay:Int)(Ad:Bool)(Ae Af Ag:Int)(kx0:Int->Int->Option (AV×Bool)):Nat->Int->Int->Int->Option (AV×Bool)
 |0=>(fun _ _ _=>none)
 |n+1=>(fun v10 v11 v12=>qlm v1 v10 v11 v12 Av Aw Ax Ay Ad Ae Af Ag (qee v1 Av Aw Ax Ay Ad Ae Af Ag kx0 n) kx0)
def q16:=hull (qee)
theorem qbat:q16=qee:=qa _
def qbd6:SubB Tryz.prog (TIof Tryz.prog) 78 0 (kret [(.cell 6 true 4),.t 7] qt9):=lpB tabOk follows Tryz.f165 607 (.s (.s (.r [(4,.c qji.b)] []) (.s .z (.v [.sel [1,3,6,10,11] [0,1]]))) (.s .z (.v [.sel [1,3,6,10,11,12] [0,1]]))) S122_ (qee) (fun f v K n=>f (v.i 4 0) (v.b 3 0) (v.i 3 1) (v.i 3 2) (v.i 3 3) (v.b 7 0) (v.i 7 1) (v.i 7 2) (v.i 7 3) (qwa (v.i 4 0) (v.b 3 0) (v.i 3 1) (v.i 3 2) (v.i 3 3) (v.b 7 0) (v.i 7 1) (v.i 7 2) (v.i 7 3) K) n) (fun v f K=>qlm (v.i 4 0) (v.i 40 0) (v.i 44 0) (v.i 48 0) (v.b 3 0) (v.i 3 1) (v.i 3 2) (v.i 3 3) (v.b 7 0) (v.i 7 1) (v.i 7 2) (v.i 7 3) f (qwa (v.i 4 0) (v.b 3 0) (v.i 3 1) (v.i 3 2) (v.i 3 3) (v.b 7 0) (v.i 7 1) (v.i 7 2) (v.i 7 3) K)) (fun f v=>f (v.i 40 0) (v.i 44 0) (v.i 48 0)) (fun k v=>(fun z0 z1 z2=>k (((v.ui 40 0 z0).ui 44 0 z1).ui 48 0 z2)))
def qrv (Aa:Bool)(Ab Ac Bt v1 v2:Int):Option (AV×Bool):=
 (qvv v1 v2 Aa Ab Ac Bt false (0:Int) (0:Int) (0:Int) (fun v30q1=>(bif v30q1 then(some ((.agg [(.bool false),(.int .u64 (0:Int)),(.int .u64 (0:Int)),(.int .i64 (0:Int))]),false))else(oB (qqa (IntKind.i64.wrap (v1-Bt))) fun r2=>(bif(decide (v2>r2.2))then(some ((.agg [(.bool false),(.int .u64 (0:Int)),(.int .u64 (0:Int)),(.int .i64 (0:Int))]),false))else(q16 v1 Aa Ab Ac Bt false (0:Int) (0:Int) (0:Int) (fun v10q3 v11q4=>(some ((.agg [(.bool Aa),(.int .u64 (IntKind.u64.wrap (Ab+v10q3))),(.int .u64 (IntKind.u64.wrap (Ac+v11q4))),(.int .i64 v1)]),true))) FU (0:Int) v2 v1))))))
def qhk:=hull qrv
theorem qblq:qhk=qrv:=qa _
def qxo {R:Type}:EntF Tryz.prog R:=entB (nt:=78) (dec:=qt9) (enc:=(fun r=>.tup [qcg (.st [.b,(.i .u64),(.i .u64),(.i .i64)]) r.1,.bool r.2])) tabOk follows Tryz.func165 [(.cell 6 true 4),.t 7] (hdeN fun _=>rfl) (.s .z (.s (.s (.sub [.sel [1,2,3,6] [0,1]] qbf5 []) .z) (.s (.r [(4,.c qxa.b)] []) (.s .z (.s .z (.s (.s .z (.b (.sub [.sel [1,3,6,10,11,12] [0,1]] qbd6 []))) .z)))))) S47_ qrv (fun f v=>f (v.b 1 0) (v.i 1 1) (v.i 1 2) (v.i 1 3) (v.i 4 0) (v.i 8 0))
def qbd7:AV->Option (AV×AV×Bool):=decN [(.st [.b,(.i .u64),(.i .u64),(.i .i64)]),(.st [.b,(.i .u64),(.i .u64),(.i .i64)]),(.one .b)] fun z=>((gC (tpL z) 0),(gC (tpL z) 1),aB (gC (tpL z) 2))
def qnz (Aa:Bool)(Ab Ac Bt:Int):Option (AV×AV×Bool):=
 (oB (qhk Aa Ab Ac Bt (IntKind.i64.wrap (Bt+1)) (0:Int)) fun r1=>(oB (qhk Aa Ab Ac Bt (IntKind.i64.wrap (Bt+1)) (1:Int)) fun r2=>(bif(!r2.2)then(some ((.agg [(.bool false),(.int .u64 (0:Int)),(.int .u64 (0:Int)),(.int .i64 (0:Int))]),(.agg [(.bool false),(.int .u64 (0:Int)),(.int .u64 (0:Int)),(.int .i64 (0:Int))]),false))else(some ((.agg [(.bool (gB r1.1.cells 0)),(.int .u64 (gI r1.1.cells 1)),(.int .u64 (gI r1.1.cells 2)),(.int .i64 (gI r1.1.cells 3))]),(.agg [(.bool (gB r2.1.cells 0)),(.int .u64 (gI r2.1.cells 1)),(.int .u64 (gI r2.1.cells 2)),(.int .i64 (gI r2.1.cells 3))]),true)))))
def qrw:=hull qnz
theorem qbf6:qrw=qnz:=qa _
def qua {R:Type}:EntF Tryz.prog R:=entB (nt:=31) (dec:=qbd7) (enc:=(fun r=>.tup [qcg (.st [.b,(.i .u64),(.i .u64),(.i .i64)]) r.1,qcg (.st [.b,(.i .u64),(.i .u64),(.i .i64)]) r.2.1,.bool r.2.2])) tabOk follows Tryz.func164 [(.cell 2 true 4),(.cell 3 true 4),.t 4] (hdeN fun _=>rfl) (.s .z (.s (.r [(4,.c qxo.b)] []) (.s (.r [(4,.c qxo.b)] []) .z))) S8_ qnz (fun f v=>f (v.b 1 0) (v.i 1 1) (v.i 1 2) (v.i 1 3))
def q17:Shp:=⟨[(0,.one (.l (.sl 8))),(1,.st (lk qe))],[]⟩
def qc6 {R:Type}(rec:(List AV)->Bool->Int->Int->Int->Option (List AV))(xs:LA)(K:AV->Option R):Option R:=chk (fitS q17 (qbp xs) Mem.none) (oB (rec (gL [(qbp xs) 0] 0) (gB ((qbp xs) 1).cells 0) (gI ((qbp xs) 1).cells 1) (gI ((qbp xs) 1).cells 2) (gI ((qbp xs) 1).cells 3)) fun r=>K ((AV.fr true 4) r))
def qkm (v0:LA)(Av:Bool)(Aw Ax Ay:Int)(K:Ex->Env->Mem->Option (List AV)):=(fun z_v5=>K (.exit 0) (qk [(0,(.sl 8 v0)),(3,(.ptr 0 0)),(5,(.bool z_v5))]) (qh [(some (.box true (qc Av Aw Ax Ay)))]))
def qbau:Shp:=⟨[(0,.one (.l (.sl 8))),(3,.one (.ptr 0 0)),(5,.one (.l .b)),(6,.one (.l (.i .i64)))],[.box true (lk qe)]⟩
def qqy (v0:LA)(v5:Bool)(v6:Int)(Av:Bool)(Aw Ax Ay:Int):Env:=qk [(0,(.sl 8 v0)),(3,(.ptr 0 0)),(5,(.bool v5)),(6,(.int .i64 v6))]
def qqz (v0:LA)(v5:Bool)(v6:Int)(Av:Bool)(Aw Ax Ay:Int):Mem:=qh [(some (.box true (qc Av Aw Ax Ay)))]
def qfx (rec:(List AV)->Bool->Int->Int->Int->Option (List AV))(v0:LA)(v5:Bool)(v6:Int)(Av:Bool)(Aw Ax Ay:Int)(next:Bool->Int->Option (List AV))(kx0:Bool->Option (List AV)):Option (List AV):=
 (bif(decide (v6<(v0.length:Int)))then(oB (ixB v0 v6) fun y1=>(bif fitC qb y1.cells then(oB (qjj Av Aw Ax Ay (gB y1.cells 0) (gI y1.cells 1) (gI y1.cells 2) (gI y1.cells 3)) fun r2=>(bif r2 then(bif hd ([]:List AV) (([]:List AV).length)then(some ([]:List AV))else none)else(oB (ixB v0 v6) fun y3=>(bif fitC qb y3.cells then(oB (qvu Av Aw Ax Ay (gB y3.cells 0) (gI y3.cells 1) (gI y3.cells 2) (gI y3.cells 3)) fun r4=>(bif r4 then(next true (IntKind.i64.wrap (v6+1)))else(next v5 (IntKind.i64.wrap (v6+1)))))else none))))else none))else(kx0 v5))
def qmw (rec:(List AV)->Bool->Int->Int->Int->Option (List AV))(v0:LA)(Av:Bool)(Aw Ax Ay:Int)(kx0:Bool->Option (List AV)):Nat->Bool->Int->Option (List AV)
 |0=>(fun _ _=>none)
 |n+1=>(fun v5 v6=>qfx rec v0 v5 v6 Av Aw Ax Ay (qmw rec v0 Av Aw Ax Ay kx0 n) kx0)
def qk8 (rec:(List AV)->Bool->Int->Int->Int->Option (List AV)):=hull (qmw rec)
theorem qyh (rec:(List AV)->Bool->Int->Int->Int->Option (List AV)):qk8 rec=qmw rec:=qa _
def qfy (rec:(List AV)->Bool->Int->Int->Int->Option (List AV)):AC (List AV):=
 .seq (.seq (.reg [ao 11 (.mv 6),
 ao 12 (.mv 0),
 ao 13 (.len false 12),
 ao 14 (.bin .lss 11 13)]) (.cond 14 (.skip) (.seq (.view [.sel [0,3,5] [0]]) (.exit 0)))) (.seq (.block 1 (.seq (.seq (.draw [] [ao 17 (.load true 4 3),
 ao 18 (.mv 0),
 ao 19 (.mv 6),
 ao 20 (.ia 8 18 19),
 .et 20 qb,
 ao 21 (.fa 0 20),
 ao 22 (.load true 4 21)] [.call (po 23 (.call 128 [17,22])) 128 qj6.e]) (.cond 23 (.seq (.reg [ao 4 (.mv (.c .nils))]) (.seq (.view [.own 4 4]) (.ret))) (.skip))) (.seq (.draw [] [ao 24 (.load true 4 3),
 ao 25 (.mv 0),
 ao 26 (.mv 6),
 ao 27 (.ia 8 25 26),
 .et 27 qb,
 ao 28 (.fa 0 27),
 ao 29 (.load true 4 28)] [.call (po 30 (.call 192 [24,29])) 192 q0k.e]) (.cond 30 (.reg [ao 5 (.mv (.c (.bool true)))]) (.skip))))) (.seq (.reg [ao 15 (.mv 6),
 ao 16 (.bin .add 15 (.c (.int .i64 1))),
 ao 6 (.mv 16)]) (.view [.sel [0,3,5,6] [0]])))
theorem qbd8 (rec:(List AV)->Bool->Int->Int->Int->Option (List AV))(hrec:qdi Tryz.prog 182 (qc6 (R:=(List AV)) rec)):AC.ok Tryz.prog (TIof Tryz.prog) 53 0 (kret [.t 4] (decF true 4)) (qfy rec):=qbti (zA (qdi.ok qj6.h) (zA rfl (zA (qdi.ok q0k.h) (zA rfl trivial))))
theorem qbav (rec:(List AV)->Bool->Int->Int->Int->Option (List AV))(v0:LA)(v5:Bool)(v6:Int)(Av:Bool)(Aw Ax Ay:Int)(K:Ex->Env->Mem->Option (List AV)):den 0 (kret [.t 4] (decF true 4)) (qfy rec) (qqy v0 v5 v6 Av Aw Ax Ay) (qqz v0 v5 v6 Av Aw Ax Ay) K=qfx rec v0 v5 v6 Av Aw Ax Ay (fun z_v5 z_v6=>K .norm (qqy v0 z_v5 z_v6 Av Aw Ax Ay) (qqz v0 z_v5 z_v6 Av Aw Ax Ay)) (qkm v0 Av Aw Ax Ay K):=by kernel_rfl
theorem qbf7 (rec:(List AV)->Bool->Int->Int->Int->Option (List AV))(v0:LA)(Av:Bool)(Aw Ax Ay:Int)(K:Ex->Env->Mem->Option (List AV)):∀(n:Nat) (v5:Bool) (v6:Int),qvg (den 0 (kret [.t 4] (decF true 4)) (qfy rec)) n (qqy v0 v5 v6 Av Aw Ax Ay) (qqz v0 v5 v6 Av Aw Ax Ay) K=qk8 rec v0 Av Aw Ax Ay (qkm v0 Av Aw Ax Ay K) n v5 v6:=by
 rw[qyh]
 intro n
 induction n with
 |zero=>intros;rfl
 |succ n ih=>
 intro v5 v6
 exact(qbav rec v0 v5 v6 Av Aw Ax Ay (itK (den 0 (kret [.t 4] (decF true 4)) (qfy rec)) n K)).trans (congrArg (fun q=>qfx rec v0 v5 v6 Av Aw Ax Ay q (qkm v0 Av Aw Ax Ay K)) (funext fun v5=>funext fun v6=>ih v5 v6))
def q0l (rec:(List AV)->Bool->Int->Int->Int->Option (List AV)):=subE (R:=(List AV)) qbau fun t m K=>q5d (bxC (m.s 0)) (qk8 rec (gL [t 0] 0)) (qkm (gL [t 0] 0) (gB (bxC (m.s 0)) 0) (gI (bxC (m.s 0)) 1) (gI (bxC (m.s 0)) 2) (gI (bxC (m.s 0)) 3) K) FU (gB [t 5] 0) (gI [t 6] 0)
theorem qbf8 (rec:(List AV)->Bool->Int->Int->Int->Option (List AV))(hrec:qdi Tryz.prog 182 (qc6 (R:=(List AV)) rec)):q2j Tryz.prog (TIof Tryz.prog) 53 0 (kret [.t 4] (decF true 4)) (.loop (scOf (qfy rec))) (q0l rec):=
 qbqb tabOk follows (qbd8 rec hrec) (qbhy (by kernel_rfl)) fun t m K=>qbf7 rec _ _ _ _ _ K FU _ _
def qmx (rec:(List AV)->Bool->Int->Int->Int->Option (List AV))(v0:LA)(B7:Bool)(B8 B9 Ca:Int):Option (List AV):=
 (qk8 rec v0 B7 B8 B9 Ca (fun v5q1=>(bif(!v5q1)then(bif hd ([(.agg [(.bool B7),(.int .u64 B8),(.int .u64 B9),(.int .i64 Ca)])]:List AV) (([(.agg [(.bool B7),(.int .u64 B8),(.int .u64 B9),(.int .i64 Ca)])]:List AV).length)then(some ([(.agg [(.bool B7),(.int .u64 B8),(.int .u64 B9),(.int .i64 Ca)])]:List AV))else none)else(oB (qrw B7 B8 B9 Ca) fun r2=>(bif(!r2.2.2)then(bif hd ([]:List AV) (([]:List AV).length)then(some ([]:List AV))else none)else(oB (rec v0 (gB r2.1.cells 0) (gI r2.1.cells 1) (gI r2.1.cells 2) (gI r2.1.cells 3)) fun r3=>(bif decide ((([]:List AV).length+r3.length)*32<=140737488355328)then(oB (rec v0 (gB r2.2.1.cells 0) (gI r2.2.1.cells 1) (gI r2.2.1.cells 2) (gI r2.2.1.cells 3)) fun r4=>(bif hd r3 r3.length then(bif decide ((r3.length+r4.length)*32<=140737488355328)then(bif hd (r3++r4) ((r3++r4).length)then(some (r3++r4))else none)else none)else none))else none)))))) FU false (0:Int))
def qcn:Nat->(List AV)->Bool->Int->Int->Int->Option (List AV)
 |0=>(fun _ _ _ _ _=>none)
 |n+1=>(fun v0 B7 B8 B9 Ca=>qmx (qcn n) v0 B7 B8 B9 Ca)
def q1i:(List AV)->Bool->Int->Int->Int->Option (List AV):=hull (qcn FU)
theorem q3z:q1i=qcn FU:=qa _
def qmy (rec:(List AV)->Bool->Int->Int->Int->Option (List AV)):AC (List AV):=
 .seq (.reg [ao 3 (.box 1),
 ao 4 (.mv (.c .nils))]) (.seq (.reg [ao 5 (.mv (.c (.bool false)))]) (.seq (.seq (.reg [ao 6 (.mv (.c (.int .i64 0)))]) (.block 0 (.seq (.view [.sel [0,3,5,6] [0]]) (.sub (.loop (scOf (qfy rec))) (q0l rec))))) (.seq (.seq (.reg [ao 31 (.mv 5),
 ao 32 (.un .not 31)]) (.cond 32 (.seq (.reg [ao 33 (.load true 4 3),
 ao 34 (.bsl 4 [33]),
 ao 4 (.mv 34)]) (.ret)) (.skip))) (.seq (.reg [ao 36 (.load true 4 3),
 .call (po 37 (.call 164 [36])) 164 qua.e,
 ao 35 (.mv 37),
 ao 38 (.ext 35 0),
 ao 39 (.ext 35 1),
 ao 40 (.ext 35 2),
 ao 7 (.alloc [(.bool false),(.int .u64 0),(.int .u64 0),(.int .i64 0)]),
 ao 8 (.alloc [(.bool false),(.int .u64 0),(.int .u64 0),(.int .i64 0)]),
 an (.store 4 7 38),
 an (.store 4 8 39),
 ao 9 (.mv 40)]) (.seq (.seq (.reg [ao 41 (.mv 9),
 ao 42 (.un .not 41)]) (.cond 42 (.seq (.reg [ao 4 (.mv (.c .nils))]) (.seq (.view [.own 4 4]) (.ret))) (.skip))) (.seq (.reg [ao 10 (.mv (.c .nils))]) (.seq (.reg [ao 43 (.mv 10),
 ao 44 (.mv 0),
 ao 45 (.load true 4 7),
 .callc (po 46 (.call 182 [44,45])) 182 (qc6 rec),
 ao 47 (.app 4 32 43 46),
 ao 10 (.mv 47)]) (.seq (.reg [ao 48 (.mv 10),
 ao 49 (.mv 0),
 ao 50 (.load true 4 8),
 .callc (po 51 (.call 182 [49,50])) 182 (qc6 rec),
 ao 52 (.app 4 32 48 51),
 ao 4 (.mv 52)]) (.ret)))))))))
theorem qblr (rec:(List AV)->Bool->Int->Int->Int->Option (List AV))(hrec:qdi Tryz.prog 182 (qc6 (R:=(List AV)) rec)):AC.ok Tryz.prog (TIof Tryz.prog) 53 0 (kret [.t 4] (decF true 4)) (qmy rec):=qbti (zA (qbf8 rec hrec) (zA (qdi.ok qua.h) (zA (qdi.ok hrec) (zA (qdi.ok hrec) trivial))))
theorem qbm9 (rec:(List AV)->Bool->Int->Int->Int->Option (List AV))(v0:LA)(B7:Bool)(B8 B9 Ca:Int):den 0 (kret [.t 4] (decF true 4)) (qmy rec) (qk [(0,(.sl 8 v0)),(1,.agg (qc B7 B8 B9 Ca))]) (qh []) (kend (kret [.t 4] (decF true 4)))=qmx rec v0 B7 B8 B9 Ca:=by
 kernel_rfl
theorem qbna:cFn (TIof Tryz.prog) Tryz.f182=some ⟨53,[.t 4],scOf (qmy (fun _ _ _ _ _=>none))⟩:=by kernel_rfl
theorem qbnb (rec:(List AV)->Bool->Int->Int->Int->Option (List AV)):(qmy rec).er=some (scOf (qmy (fun _ _ _ _ _=>none))):=by kernel_rfl
theorem q30:∀(k:Nat) {R:Type},qdi Tryz.prog 182 (qc6 (R:=R) (qcn k))
 |0=>fun xs K r h=>by
  unfold qc6 at h
  obtain⟨_,h2,_⟩:=qcv (qk9 h).2
  cases h2
 |k+1=>qbzp (F:=fun xs=>qmx (qcn k) (gL [(qbp xs) 0] 0) (gB ((qbp xs) 1).cells 0) (gI ((qbp xs) 1).cells 1) (gI ((qbp xs) 1).cells 2) (gI ((qbp xs) 1).cells 3)) (enc:=(AV.fr true 4)) tabOk follows Tryz.func182 (by kernel_rfl) qbna (hdeF) (qblr (qcn k) (q30 k)) (qbnb (qcn k)) q17 (fun xs=>qbm9 (qcn k) (gL [(qbp xs) 0] 0) (gB ((qbp xs) 1).cells 0) (gI ((qbp xs) 1).cells 1) (gI ((qbp xs) 1).cells 2) (gI ((qbp xs) 1).cells 3)) (fun xs K r h=>by
 unfold qc6 at h
 exact⟨(qk9 h).1,qcv (qk9 h).2⟩)
def qbjq {R:Type}(xs:LA)(K:AV->Option R):Option R:=qc6 q1i xs K
theorem qbnc {R:Type}:qdi Tryz.prog 182 (qbjq (R:=R)):=by
 have h:=q30 FU (R:=R)
 rw[<-q3z]at h
 exact h
def S123_:Shp:=⟨[(0,.one (.l (.sl 8))),(3,.one (.ptr 0 0)),(5,.one (.ptr 1 0)),(6,.one (.l .b))],[.box true (lk qe),.box true (lk qb)]⟩
def qbd9 (v0:LA)(Av:Bool)(Aw Ax Ay:Int)(K:Ex->Env->Mem->Option (List AV)):=(fun z_v24=>K .norm (qk [(0,(.sl 8 v0)),(3,(.ptr 0 0)),(24,(.bool z_v24))]) (qh [(some (.box true (qc Av Aw Ax Ay)))]))
def qi5 (v0:LA)(v6 Av:Bool)(Aw Ax Ay:Int)(Ad:Bool)(Ae Af Ag Ah:Int)(Ai Aj:LU)(Ak:Int)(kn:Bool->Option (List AV)):Option (List AV):=
 (bif((!v6)||(Ah != (1:Int)))then(kn true)else(oB (qfq Av Aw Ax Ay) fun r1=>(kn (!r1))))
def q31:=hull (qi5)
theorem qyi:q31=qi5:=qa _
def qbf9:SubB Tryz.prog (TIof Tryz.prog) 30 0 (kret [.t 4] (decX (.one (.sl 4)) fun z=>aL z)):=jnB tabOk follows Tryz.f163 19 (.r [(3,.g 3),(9,.c qid.b)] [.sel [0,3,24] [0]]) S123_ (qi5) (fun f v K=>f (v.l 0 0) (v.b 24 0) (v.b 3 0) (v.i 3 1) (v.i 3 2) (v.i 3 3) (v.b 7 0) (v.i 7 1) (v.i 7 2) (v.i 7 3) (v.i 7 4) (v.s 7 5) (v.s 7 6) (v.i 7 7) (qbd9 (v.l 0 0) (v.b 3 0) (v.i 3 1) (v.i 3 2) (v.i 3 3) K))
def qrx (v0:LA)(B7:Bool)(B8 B9 Ca:Int):Option (List AV):=
 (oB (qhj v0 B7 B8 B9 Ca) fun r1=>(q31 v0 r1.2 B7 B8 B9 Ca (gB r1.1.cells 0) (gI r1.1.cells 1) (gI r1.1.cells 2) (gI r1.1.cells 3) (gI r1.1.cells 4) (gS r1.1.cells 5) (gS r1.1.cells 6) (gI r1.1.cells 7) (fun v24q2=>(bif v24q2 then(some ([]:List AV))else(oB (qt8 v0 B7 B8 B9 Ca) fun r3=>(oB (q1i r3 B7 B8 B9 Ca) fun r4=>(some r4)))))))
def qvd:=hull qrx
theorem qbls:qvd=qrx:=qa _
def qbnd {R:Type}:EntF Tryz.prog R:=entB (nt:=30) (dec:=(decX (.one (.sl 4)) fun z=>aL z)) (enc:=(fun r=>.sl 4 r)) tabOk follows Tryz.func163 [.t 4] (hdeX fun _=>rfl) (.s .z (.s (.r [(2,.c qmq.b)] []) (.s (.s (.sub [.sel [0,3,5,6] [0,1]] qbf9 []) (.s (.s .z (.v [.eta 4 (.one (.sl 4))])) .z)) (.s (.d [] [(2,.c qbd2.b)] [(0,.k (eB qbnc))] []) .z)))) S16_ qrx (fun f v=>f (v.l 0 0) (v.b 5 0) (v.i 5 1) (v.i 5 2) (v.i 5 3))
def S124_:Shp:=⟨[(0,.one (.l (.sl 4))),(1,.one (.l (.i .i64))),(2,.one (.l (.i .i64))),(6,.one (.ptr 0 0)),(8,.one (.l .b)),(9,.one (.ptr 1 0)),(10,.one (.l (.i .i64)))],[.box true (lk qe),.box true (lk qe)]⟩
def S125_:Shp:=⟨[(0,.one (.l (.sl 4))),(1,.one (.l (.i .i64))),(2,.one (.l (.i .i64)))],[]⟩
def qsr:AV->Option (AV×Bool):=decN [(.st [.b,(.i .u64),(.i .u64),(.i .i64)]),(.one .b)] fun z=>((gC (tpL z) 0),aB (gC (tpL z) 1))
def q8o (v0:LA)(v1 v2:Int)(v8:Bool)(v10:Int)(Av:Bool)(Aw Ax Ay:Int)(Ad:Bool)(Ae Af Ag:Int)(K:Ex->Env->Mem->Option (AV×Bool)):=(fun z_v41=>K .norm (qk [(0,(.sl 4 v0)),(1,(.int .i64 v1)),(2,(.int .i64 v2)),(6,(.ptr 0 0)),(8,(.bool v8)),(9,(.ptr 1 0)),(10,(.int .i64 v10)),(41,(.bool z_v41))]) (qh [(some (.box true (qc Av Aw Ax Ay))),(some (.box true (qc Ad Ae Af Ag)))]))
def qkn (v0:LA)(v1 v2:Int)(v8:Bool)(v10:Int)(Av:Bool)(Aw Ax Ay:Int)(Ad:Bool)(Ae Af Ag:Int)(kn:Bool->Option (AV×Bool)):Option (AV×Bool):=
 (oB (ixB v0 v10) fun y1=>(bif fitC qe y1.cells then(bif(decide ((gI y1.cells 3)<=v1))then(bif(!v8)then(kn true)else(oB (ixB v0 v10) fun y2=>(bif fitC qe y2.cells then(kn (decide ((IntKind.i64.wrap ((IntKind.i64.wrap ((gI y2.cells 3)-Ag))*v2))>0)))else none)))else(kn false))else none))
def q0m:=hull (qkn)
theorem q8p:q0m=qkn:=qa _
def qbaw:SubB Tryz.prog (TIof Tryz.prog) 48 0 (kret [(.cell 6 true 4),.t 7] qsr):=jnB tabOk follows Tryz.f162 2199 (.d [] [(2,.e 20 qe),(13,.e 31 qe)] [] [.sel [0,1,2,6,8,9,10,41] [0,1]]) S124_ (qkn) (fun f v K=>f (v.l 0 0) (v.i 4 0) (v.i 8 0) (v.b 32 0) (v.i 40 0) (v.b 3 0) (v.i 3 1) (v.i 3 2) (v.i 3 3) (v.b 7 0) (v.i 7 1) (v.i 7 2) (v.i 7 3) (q8o (v.l 0 0) (v.i 4 0) (v.i 8 0) (v.b 32 0) (v.i 40 0) (v.b 3 0) (v.i 3 1) (v.i 3 2) (v.i 3 3) (v.b 7 0) (v.i 7 1) (v.i 7 2) (v.i 7 3) K))
def qup (Av:Bool)(Aw Ax Ay:Int)(K:Ex->Env->Mem->Option (AV×Bool)):=(fun z_v8 z_b1_0 z_b1_1 z_b1_2 z_b1_3=>K (.exit 0) (qk [(6,(.ptr 0 0)),(8,(.bool z_v8)),(9,(.ptr 1 0))]) (qh [(some (.box true (qc Av Aw Ax Ay))),(some (.box true (qc z_b1_0 z_b1_1 z_b1_2 z_b1_3)))]))
def qgy (v0:LA)(v1 v2:Int)(v8:Bool)(v10:Int)(Av:Bool)(Aw Ax Ay:Int)(Ad:Bool)(Ae Af Ag:Int)(next:Bool->Int->Bool->Int->Int->Int->Option (AV×Bool))(kx0:Bool->Bool->Int->Int->Int->Option (AV×Bool)):Option (AV×Bool):=
 (bif(decide (v10<(v0.length:Int)))then(q0m v0 v1 v2 v8 v10 Av Aw Ax Ay Ad Ae Af Ag (fun v41q1=>(bif v41q1 then(oB (ixB v0 v10) fun y2=>(bif fitC qe y2.cells then(next true (IntKind.i64.wrap (v10+1)) (gB y2.cells 0) (gI y2.cells 1) (gI y2.cells 2) (gI y2.cells 3))else none))else(next v8 (IntKind.i64.wrap (v10+1)) Ad Ae Af Ag))))else(kx0 v8 Ad Ae Af Ag))
def qgz (v0:LA)(v1 v2:Int)(Av:Bool)(Aw Ax Ay:Int)(kx0:Bool->Bool->Int->Int->Int->Option (AV×Bool)):Nat->Bool->Int->Bool->Int->Int->Int->Option (AV×Bool)
 |0=>(fun _ _ _ _ _ _=>none)
 |n+1=>(fun v8 v10 Ad Ae Af Ag=>qgy v0 v1 v2 v8 v10 Av Aw Ax Ay Ad Ae Af Ag (qgz v0 v1 v2 Av Aw Ax Ay kx0 n) kx0)
def q0n:=hull (qgz)
theorem q8q:q0n=qgz:=qa _
def qbax:SubB Tryz.prog (TIof Tryz.prog) 48 0 (kret [(.cell 6 true 4),.t 7] qsr):=lpB tabOk follows Tryz.f162 151 (.s (.s .z (.s .z (.v [.sel [6,8,9] [0,1]]))) (.s (.b (.s (.sub [.sel [0,1,2,6,8,9,10] [0,1]] qbaw []) (.s (.s (.r [(2,.p (.etac 44 qe))] []) .z) .z))) (.v [.sel [0,1,2,6,8,9,10] [0,1]]))) S124_ (qgz) (fun f v K n=>f (v.l 0 0) (v.i 4 0) (v.i 8 0) (v.b 3 0) (v.i 3 1) (v.i 3 2) (v.i 3 3) (qup (v.b 3 0) (v.i 3 1) (v.i 3 2) (v.i 3 3) K) n) (fun v f K=>qgy (v.l 0 0) (v.i 4 0) (v.i 8 0) (v.b 32 0) (v.i 40 0) (v.b 3 0) (v.i 3 1) (v.i 3 2) (v.i 3 3) (v.b 7 0) (v.i 7 1) (v.i 7 2) (v.i 7 3) f (qup (v.b 3 0) (v.i 3 1) (v.i 3 2) (v.i 3 3) K)) (fun f v=>f (v.b 32 0) (v.i 40 0) (v.b 7 0) (v.i 7 1) (v.i 7 2) (v.i 7 3)) (fun k v=>(fun z0 z1 z2 z3 z4 z5=>k ((((((v.ub 32 0 z0).ui 40 0 z1).ub 7 0 z2).ui 7 1 z3).ui 7 2 z4).ui 7 3 z5)))
def qpn (v0:LA)(v1 v2:Int):Option (AV×Bool):=
 (q0n v0 v1 v2 false (0:Int) (0:Int) (0:Int) (fun v8q1 b1_0q2 b1_1q3 b1_2q4 b1_3q5=>(some ((.agg [(.bool b1_0q2),(.int .u64 b1_1q3),(.int .u64 b1_2q4),(.int .i64 b1_3q5)]),v8q1))) FU false (0:Int) false (0:Int) (0:Int) (0:Int))
def qk1:=hull qpn
theorem qbjr:qk1=qpn:=qa _
def qblt {R:Type}:EntF Tryz.prog R:=entB (nt:=48) (dec:=qsr) (enc:=(fun r=>.tup [qcg (.st [.b,(.i .u64),(.i .u64),(.i .i64)]) r.1,.bool r.2])) tabOk follows Tryz.func162 [(.cell 6 true 4),.t 7] (hdeN fun _=>rfl) (.s .z (.s .z (.s .z (.s (.s .z (.b (.sub [.sel [0,1,2,6,8,9,10] [0,1]] qbax []))) .z)))) S125_ qpn (fun f v=>f (v.l 0 0) (v.i 4 0) (v.i 8 0))
def S126_:Shp:=⟨[(0,.one (.l (.sl 8))),(2,.one (.l (.i .i64))),(3,.one (.l (.i .i64))),(5,.one (.ptr 0 0)),(8,.one (.ptr 1 0)),(12,.one (.l (.i .i64)))],[.box true (lk qe),.box true (lk qe)]⟩
def S127_:Shp:=⟨[(2,.one (.l (.i .i64))),(3,.one (.l (.i .i64))),(8,.one (.ptr 0 0)),(13,.one (.ptr 1 0))],[.box true (lk qe),.box true (lk qe)]⟩
def qln:AV->Option (AV×Int):=decN [(.st [.b,(.i .u64),(.i .u64),(.i .i64)]),(.one (.i .i64))] fun z=>((gC (tpL z) 0),aI (gC (tpL z) 1))
def q6u (v0:LA)(v2 v3:Int)(Av:Bool)(Aw Ax Ay:Int)(Ad:Bool)(Ae Af Ag:Int)(K:Ex->Env->Mem->Option (AV×Int)):=(fun z_v12=>K .norm (qk [(0,(.sl 8 v0)),(2,(.int .i64 v2)),(3,(.int .i64 v3)),(5,(.ptr 0 0)),(8,(.ptr 1 0)),(12,(.int .i64 z_v12))]) (qh [(some (.box true (qc Av Aw Ax Ay))),(some (.box true (qc Ad Ae Af Ag)))]))
def qjl (v0:LA)(v2 v3 v12:Int)(Av:Bool)(Aw Ax Ay:Int)(Ad:Bool)(Ae Af Ag:Int)(kn:Int->Option (AV×Int)):Option (AV×Int):=
 (bif(v3==2)then(kn (1:Int))else(kn v12))
def qyj:=hull (qjl)
theorem q6v:qyj=qjl:=qa _
def q8r:SubB Tryz.prog (TIof Tryz.prog) 79 0 (kret [(.cell 8 true 4),.t 9] qln):=jnB tabOk follows Tryz.f107 191 (.s .z (.s (.v [.sel [0,2,3,5,8,12] [0,1]]) (.v [.sel [0,2,3,5,8,12] [0,1]]))) S126_ (qjl) (fun f v K=>f (v.l 0 0) (v.i 8 0) (v.i 12 0) (v.i 48 0) (v.b 3 0) (v.i 3 1) (v.i 3 2) (v.i 3 3) (v.b 7 0) (v.i 7 1) (v.i 7 2) (v.i 7 3) (q6u (v.l 0 0) (v.i 8 0) (v.i 12 0) (v.b 3 0) (v.i 3 1) (v.i 3 2) (v.i 3 3) (v.b 7 0) (v.i 7 1) (v.i 7 2) (v.i 7 3) K))
def q6w (v0:LA)(v2 v3:Int)(Av:Bool)(Aw Ax Ay:Int)(Ad:Bool)(Ae Af Ag:Int)(K:Ex->Env->Mem->Option (AV×Int)):=(fun z_v12=>K .norm (qk [(0,(.sl 8 v0)),(2,(.int .i64 v2)),(3,(.int .i64 v3)),(5,(.ptr 0 0)),(8,(.ptr 1 0)),(12,(.int .i64 z_v12))]) (qh [(some (.box true (qc Av Aw Ax Ay))),(some (.box true (qc Ad Ae Af Ag)))]))
def qjm (v0:LA)(v2 v3 v12:Int)(Av:Bool)(Aw Ax Ay:Int)(Ad:Bool)(Ae Af Ag:Int)(kn:Int->Option (AV×Int)):Option (AV×Int):=
 (bif(v3==3)then(kn (-1:Int))else(kn v12))
def qyk:=hull (qjm)
theorem q6x:qyk=qjm:=qa _
def q8s:SubB Tryz.prog (TIof Tryz.prog) 79 0 (kret [(.cell 8 true 4),.t 9] qln):=jnB tabOk follows Tryz.f107 383 (.s .z (.s (.v [.sel [0,2,3,5,8,12] [0,1]]) (.v [.sel [0,2,3,5,8,12] [0,1]]))) S126_ (qjm) (fun f v K=>f (v.l 0 0) (v.i 8 0) (v.i 12 0) (v.i 48 0) (v.b 3 0) (v.i 3 1) (v.i 3 2) (v.i 3 3) (v.b 7 0) (v.i 7 1) (v.i 7 2) (v.i 7 3) (q6w (v.l 0 0) (v.i 8 0) (v.i 12 0) (v.b 3 0) (v.i 3 1) (v.i 3 2) (v.i 3 3) (v.b 7 0) (v.i 7 1) (v.i 7 2) (v.i 7 3) K))
def q6y (v2:Int)(Av:Bool)(Aw Ax Ay:Int)(K:Ex->Env->Mem->Option (AV×Int)):=(fun z_b1_0 z_b1_1 z_b1_2 z_b1_3=>K .norm (qk [(2,(.int .i64 v2)),(8,(.ptr 0 0)),(13,(.ptr 1 0))]) (qh [(some (.box true (qc Av Aw Ax Ay))),(some (.box true (qc z_b1_0 z_b1_1 z_b1_2 z_b1_3)))]))
def qjn (v2 v3:Int)(Av:Bool)(Aw Ax Ay:Int)(Ad:Bool)(Ae Af Ag:Int)(kn:Bool->Int->Int->Int->Option (AV×Int)):Option (AV×Int):=
 (bif((v3==3)&&(decide (Ag<v2)))then(oB (qrw Ad Ae Af Ag) fun r1=>(kn (gB r1.2.1.cells 0) (gI r1.2.1.cells 1) (gI r1.2.1.cells 2) (gI r1.2.1.cells 3)))else(kn Ad Ae Af Ag))
def qlo:=hull (qjn)
theorem q6z:qlo=qjn:=qa _
def q8t:SubB Tryz.prog (TIof Tryz.prog) 79 0 (kret [(.cell 8 true 4),.t 9] qln):=jnB tabOk follows Tryz.f107 3071 (.s (.r [(3,.g 4)] []) (.s (.r [(1,.c qua.b)] [.sel [2,8,13] [0,1]]) (.v [.sel [2,8,13] [0,1]]))) S127_ (qjn) (fun f v K=>f (v.i 8 0) (v.i 12 0) (v.b 3 0) (v.i 3 1) (v.i 3 2) (v.i 3 3) (v.b 7 0) (v.i 7 1) (v.i 7 2) (v.i 7 3) (q6y (v.i 8 0) (v.b 3 0) (v.i 3 1) (v.i 3 2) (v.i 3 3) K))
def qn0 (v0:LA)(B7:Bool)(B8 B9 Ca v2 v3:Int):Option (AV×Int):=
 (oB (qhj v0 B7 B8 B9 Ca) fun r1=>(bif(!r1.2)then(some ((.agg [(.bool false),(.int .u64 (0:Int)),(.int .u64 (0:Int)),(.int .i64 (0:Int))]),(11:Int)))else(bif((gI r1.1.cells 4) != (1:Int))then(some ((.agg [(.bool false),(.int .u64 (0:Int)),(.int .u64 (0:Int)),(.int .i64 (0:Int))]),(21:Int)))else(oB (q0j B7 B8 B9 Ca v2) fun r2=>(bif(((!r2)||(decide (v3<1)))||(decide (v3>3)))then(some ((.agg [(.bool false),(.int .u64 (0:Int)),(.int .u64 (0:Int)),(.int .i64 (0:Int))]),(1:Int)))else(qyj v0 v2 v3 (0:Int) B7 B8 B9 Ca false (0:Int) (0:Int) (0:Int) (fun v12q3=>(qyk v0 v2 v3 v12q3 B7 B8 B9 Ca false (0:Int) (0:Int) (0:Int) (fun v12q4=>(oB (qvd v0 B7 B8 B9 Ca) fun r5=>(oB (qk1 r5 v2 v12q4) fun r6=>(bif(!r6.2)then(some ((.agg [(.bool false),(.int .u64 (0:Int)),(.int .u64 (0:Int)),(.int .i64 (0:Int))]),(22:Int)))else(qlo v2 v3 false (0:Int) (0:Int) (0:Int) (gB r6.1.cells 0) (gI r6.1.cells 1) (gI r6.1.cells 2) (gI r6.1.cells 3) (fun b1_0q7 b1_1q8 b1_2q9 b1_3q10=>(oB (qhk b1_0q7 b1_1q8 b1_2q9 b1_3q10 v2 (0:Int)) fun r11=>(some ((.agg [(.bool (gB r11.1.cells 0)),(.int .u64 (gI r11.1.cells 1)),(.int .u64 (gI r11.1.cells 2)),(.int .i64 (gI r11.1.cells 3))]),(0:Int))))))))))))))))))
def qxp:=hull qn0
theorem qbga:qxp=qn0:=qa _
def qbjs {R:Type}:EntF Tryz.prog R:=entB (nt:=79) (dec:=qln) (enc:=(fun r=>.tup [qcg (.st [.b,(.i .u64),(.i .u64),(.i .i64)]) r.1,.int .i64 r.2])) tabOk follows Tryz.func107 [(.cell 8 true 4),.t 9] (hdeN fun _=>rfl) (.s .z (.s (.r [(2,.c qmq.b)] []) (.s .z (.s .z (.s (.s (.r [(2,.c qbar.b),(5,.g 2),(9,.g 2)] []) .z) (.s .z (.s (.sub [.sel [0,2,3,5,8,12] [0,1]] q8r []) (.s (.sub [.sel [0,2,3,5,8,12] [0,1]] q8s []) (.s (.r [(2,.k qbnd.b),(5,.c qblt.b)] []) (.s .z (.s (.sub [.sel [2,3,8,13] [1,2]] q8t []) (.s (.r [(2,.c qxo.b)] []) .z)))))))))))) S60_ qn0 (fun f v=>f (v.l 0 0) (v.b 5 0) (v.i 5 1) (v.i 5 2) (v.i 5 3) (v.i 8 0) (v.i 12 0))
def q8u:AV->Option ((List AV)×AV×Int):=decN [(.one (.sl 8)),(.st [.b,(.i .u64),(.i .u64),(.i .i64)]),(.one (.i .i64))] fun z=>(aL (gC (tpL z) 0),(gC (tpL z) 1),aI (gC (tpL z) 2))
def qlp (v0:LA)(B7:Bool)(B8 B9 Ca v2 v3:Int)(v4 v5:LU):Option ((List AV)×AV×Int):=
 (oB (qxp v0 B7 B8 B9 Ca v2 v3) fun r1=>(bif(r1.2 != (0:Int))then(some (([]:List AV),(.agg [(.bool false),(.int .u64 (0:Int)),(.int .u64 (0:Int)),(.int .i64 (0:Int))]),r1.2))else(oB (qxk v0 (gB r1.1.cells 0) (gI r1.1.cells 1) (gI r1.1.cells 2) (gI r1.1.cells 3) (2:Int) v4 v5 (0:Int)) fun r2=>(bif(r2.2 != (0:Int))then(some (([]:List AV),(.agg [(.bool false),(.int .u64 (0:Int)),(.int .u64 (0:Int)),(.int .i64 (0:Int))]),r2.2))else(some (r2.1,(.agg [(.bool (gB r1.1.cells 0)),(.int .u64 (gI r1.1.cells 1)),(.int .u64 (gI r1.1.cells 2)),(.int .i64 (gI r1.1.cells 3))]),(0:Int)))))))
def qn1:=hull qlp
theorem qbay:qn1=qlp:=qa _
def qyl {R:Type}:EntF Tryz.prog R:=entB (nt:=45) (dec:=q8u) (enc:=(fun r=>.tup [.sl 8 r.1,qcg (.st [.b,(.i .u64),(.i .u64),(.i .i64)]) r.2.1,.int .i64 r.2.2])) tabOk follows Tryz.func49 [.t 12,(.cell 13 true 4),.t 14] (hdeN fun _=>rfl) (.s .z (.s (.r [(4,.c qbjs.b)] []) (.s (.s .z (.s (.s .z (.v [.eta 12 (.one (.sl 8))])) .z)) (.s (.r [(5,.k q8l.b)] []) (.s (.s .z (.s (.s .z (.v [.eta 12 (.one (.sl 8))])) .z)) .z))))) S61_ qlp (fun f v=>f (v.l 0 0) (v.b 5 0) (v.i 5 1) (v.i 5 2) (v.i 5 3) (v.i 8 0) (v.i 12 0) (v.s 16 0) (v.s 20 0))
def S128_:Shp:=⟨[(0,.one (.l (.sl 5))),(1,.one (.l .s)),(5,.one (.ptr 0 0)),(7,.one (.l (.i .i64)))],[.box true (lk qd0)]⟩
def S129_:Shp:=⟨[(0,.one (.l (.sl 5))),(1,.one (.l .s)),(2,.st (lk qd0))],[]⟩
def qwb (K:Ex->Env->Mem->Option Int):=(fun(_:Unit)=>K (.exit 0) (qk []) (qh []))
def qh3 (v0:LA)(v1:LU)(v7:Int)(Av:Bool)(Aw Ax:Int)(next:Int->Option Int)(kx0:Unit->Option Int):Option Int:=
 (bif(decide (v7<(v0.length:Int)))then(oB (ixB v0 v7) fun y1=>(bif fitC qj y1.cells then(bif((gS y1.cells 0)==v1)then(oB (ixB v0 v7) fun y2=>(bif fitC qj y2.cells then(bif(((gB y2.cells 1)==Av)&&(((gI y2.cells 2)==Aw)&&(((gI y2.cells 3)==Ax)&&true)))then(some v7)else(next (IntKind.i64.wrap (v7+1))))else none))else(next (IntKind.i64.wrap (v7+1))))else none))else(kx0 ()))
def qh4 (v0:LA)(v1:LU)(Av:Bool)(Aw Ax:Int)(kx0:Unit->Option Int):Nat->Int->Option Int
 |0=>(fun _=>none)
 |n+1=>(fun v7=>qh3 v0 v1 v7 Av Aw Ax (qh4 v0 v1 Av Aw Ax kx0 n) kx0)
def q18:=hull (qh4)
theorem qbaz:q18=qh4:=qa _
def qbea:SubB Tryz.prog (TIof Tryz.prog) 31 0 (kret [.t 6] (decI .i64)):=lpB tabOk follows Tryz.f55 37 (.s (.s .z (.s .z (.v [.sel [] []]))) (.s (.b (.s (.d [] [(2,.e 16 qj),(10,.e 24 qj)] [] []) .z)) (.v [.sel [0,1,5,7] [0]]))) S128_ (qh4) (fun f v K n=>f (v.l 0 0) (v.s 4 0) (v.b 3 0) (v.i 3 1) (v.i 3 2) (qwb K) n) (fun v f K=>qh3 (v.l 0 0) (v.s 4 0) (v.i 28 0) (v.b 3 0) (v.i 3 1) (v.i 3 2) f (qwb K)) (fun f v=>f (v.i 28 0)) (fun k v=>(fun z0=>k (v.ui 28 0 z0)))
def qpo (v0:LA)(v1:LU)(Cw:Bool)(Cx Cy:Int):Option Int:=
 (q18 v0 v1 Cw Cx Cy (fun(_:Unit)=>(some (-1:Int))) FU (0:Int))
def qk2:=hull qpo
theorem qbjt:qk2=qpo:=qa _
def qvw {R:Type}:EntF Tryz.prog R:=entB (nt:=31) (dec:=(decI .i64)) (enc:=(AV.int .i64)) tabOk follows Tryz.func55 [.t 6] hdeI (.s .z (.s (.s .z (.b (.sub [.sel [0,1,5,7] [0]] qbea []))) .z)) S129_ qpo (fun f v=>f (v.l 0 0) (v.s 4 0) (v.b 9 0) (v.i 9 1) (v.i 9 2))
def S130_:Shp:=⟨[(0,.one (.l (.sl 5))),(3,.one (.ptr 0 0)),(5,.one (.own 1)),(6,.one (.l .b)),(7,.one (.l (.i .i64)))],[.box true (lk qj),.arr true 5]⟩
def q60 (v0:LA)(v6:Bool)(v7:Int)(Av:LU)(Aw:Bool)(Ax Ay Az:Int)(a1:LA)(K:Ex->Env->Mem->Option (List AV)):=(fun z_v23=>K .norm (qk [(0,(.sl 5 v0)),(3,(.ptr 0 0)),(5,(.own 1 a1.length)),(6,(.bool v6)),(7,(.int .i64 v7)),(23,(.bool z_v23))]) (qh [(some (.box true (qfj Av Aw Ax Ay Az))),(some (.arr true 5 a1))]))
def qjo (v0:LA)(v6:Bool)(v7:Int)(Av:LU)(Aw:Bool)(Ax Ay Az:Int)(a1:LA)(kn:Bool->Option (List AV)):Option (List AV):=
 (bif(!v6)then(oB (ixB v0 v7) fun y1=>(bif fitC qj y1.cells then(oB (qrr Av Aw Ax Ay Az (gS y1.cells 0) (gB y1.cells 1) (gI y1.cells 2) (gI y1.cells 3) (gI y1.cells 4)) fun r2=>(kn r2))else none))else(kn false))
def qym:=hull (qjo)
theorem q61:qym=qjo:=qa _
def q8v:SubB Tryz.prog (TIof Tryz.prog) 42 0 (kret [.t 4] (decF true 5)):=jnB tabOk follows Tryz.f108 4247 (.d [] [(6,.e 20 qj)] [(0,.c q12.b)] [.sel [0,3,5,6,7,23] [0,1]]) S130_ (qjo) (fun f v K=>f (v.l 0 0) (v.b 24 0) (v.i 28 0) (v.s 3 0) (v.b 3 1) (v.i 3 2) (v.i 3 3) (v.i 3 4) (v.r 1) (q60 (v.l 0 0) (v.b 24 0) (v.i 28 0) (v.s 3 0) (v.b 3 1) (v.i 3 2) (v.i 3 3) (v.i 3 4) (v.r 1) K))
def q62 (v0:LA)(v7:Int)(Av:LU)(Aw:Bool)(Ax Ay Az:Int)(K:Ex->Env->Mem->Option (List AV)):=(fun z_v6 z_a1=>K .norm (qk [(0,(.sl 5 v0)),(3,(.ptr 0 0)),(5,(.own 1 z_a1.length)),(6,(.bool z_v6)),(7,(.int .i64 v7))]) (qh [(some (.box true (qfj Av Aw Ax Ay Az))),(some (.arr true 5 z_a1))]))
def qjp (v0:LA)(v6:Bool)(v7:Int)(Av:LU)(Aw:Bool)(Ax Ay Az:Int)(a1:LA)(kn:Bool->(List AV)->Option (List AV)):Option (List AV):=
 (bif(hd a1 (a1.length)&&true)then(qym v0 v6 v7 Av Aw Ax Ay Az a1 (fun v23q1=>(bif v23q1 then(bif hd a1 a1.length then(bif hd ([(.agg [(.str Av),(.bool Aw),(.int .u64 Ax),(.int .u64 Ay),(.int .i64 Az)])]:List AV) (([(.agg [(.str Av),(.bool Aw),(.int .u64 Ax),(.int .u64 Ay),(.int .i64 Az)])]:List AV).length)then(bif decide ((a1.length+([(.agg [(.str Av),(.bool Aw),(.int .u64 Ax),(.int .u64 Ay),(.int .i64 Az)])]:List AV).length)*48<=140737488355328)then(kn true (a1++([(.agg [(.str Av),(.bool Aw),(.int .u64 Ax),(.int .u64 Ay),(.int .i64 Az)])]:List AV)))else none)else none)else none)else(kn v6 a1))))else none)
def qyn:=hull (qjp)
theorem q63:qyn=qjp:=qa _
def q8w:SubB Tryz.prog (TIof Tryz.prog) 42 0 (kret [.t 4] (decF true 5)):=jnB tabOk follows Tryz.f108 2199 (.s (.sub [.sel [0,3,5,6,7] [0,1]] q8v []) (.s (.s .z (.v [.sel [0,3,5,6,7] [0,1]])) (.v [.sel [0,3,5,6,7] [0,1]]))) S130_ (qjp) (fun f v K=>f (v.l 0 0) (v.b 24 0) (v.i 28 0) (v.s 3 0) (v.b 3 1) (v.i 3 2) (v.i 3 3) (v.i 3 4) (v.r 1) (q62 (v.l 0 0) (v.i 28 0) (v.s 3 0) (v.b 3 1) (v.i 3 2) (v.i 3 3) (v.i 3 4) K))
def qtz (Av:LU)(Aw:Bool)(Ax Ay Az:Int)(K:Ex->Env->Mem->Option (List AV)):=(fun z_v6 z_a1=>K (.exit 0) (qk [(3,(.ptr 0 0)),(5,(.own 1 z_a1.length)),(6,(.bool z_v6))]) (qh [(some (.box true (qfj Av Aw Ax Ay Az))),(some (.arr true 5 z_a1))]))
def qfz (v0:LA)(v6:Bool)(v7:Int)(Av:LU)(Aw:Bool)(Ax Ay Az:Int)(a1:LA)(next:Bool->Int->(List AV)->Option (List AV))(kx0:Bool->(List AV)->Option (List AV)):Option (List AV):=
 (bif(decide (v7<(v0.length:Int)))then(bif(hd a1 (a1.length)&&true)then(qyn v0 v6 v7 Av Aw Ax Ay Az a1 (fun v6q1 a1q2=>(oB (ixB v0 v7) fun y3=>(bif fitC qj y3.cells then(bif hd a1q2 a1q2.length then(bif hd ([(.agg [(.str (gS y3.cells 0)),(.bool (gB y3.cells 1)),(.int .u64 (gI y3.cells 2)),(.int .u64 (gI y3.cells 3)),(.int .i64 (gI y3.cells 4))])]:List AV) (([(.agg [(.str (gS y3.cells 0)),(.bool (gB y3.cells 1)),(.int .u64 (gI y3.cells 2)),(.int .u64 (gI y3.cells 3)),(.int .i64 (gI y3.cells 4))])]:List AV).length)then(bif decide ((a1q2.length+([(.agg [(.str (gS y3.cells 0)),(.bool (gB y3.cells 1)),(.int .u64 (gI y3.cells 2)),(.int .u64 (gI y3.cells 3)),(.int .i64 (gI y3.cells 4))])]:List AV).length)*48<=140737488355328)then(next v6q1 (IntKind.i64.wrap (v7+1)) (a1q2++([(.agg [(.str (gS y3.cells 0)),(.bool (gB y3.cells 1)),(.int .u64 (gI y3.cells 2)),(.int .u64 (gI y3.cells 3)),(.int .i64 (gI y3.cells 4))])]:List AV)))else none)else none)else none)else none))))else none)else(kx0 v6 a1))
def qej (v0:LA)(Av:LU)(Aw:Bool)(Ax Ay Az:Int)(kx0:Bool->(List AV)->Option (List AV)):Nat->Bool->Int->(List AV)->Option (List AV)
 |0=>(fun _ _ _=>none)
 |n+1=>(fun v6 v7 a1=>qfz v0 v6 v7 Av Aw Ax Ay Az a1 (qej v0 Av Aw Ax Ay Az kx0 n) kx0)
def qyo:=hull (qej)
theorem q64:qyo=qej:=qa _
def q8x:SubB Tryz.prog (TIof Tryz.prog) 42 0 (kret [.t 4] (decF true 5)):=lpB tabOk follows Tryz.f108 151 (.s (.s .z (.s .z (.v [.sel [3,5,6] [0,1]]))) (.s (.b (.s (.sub [.sel [0,3,5,6,7] [0,1]] q8w []) (.r [(3,.p (.etac 31 qj))] []))) (.v [.sel [0,3,5,6,7] [0,1]]))) S130_ (qej) (fun f v K n=>f (v.l 0 0) (v.s 3 0) (v.b 3 1) (v.i 3 2) (v.i 3 3) (v.i 3 4) (qtz (v.s 3 0) (v.b 3 1) (v.i 3 2) (v.i 3 3) (v.i 3 4) K) n) (fun v f K=>qfz (v.l 0 0) (v.b 24 0) (v.i 28 0) (v.s 3 0) (v.b 3 1) (v.i 3 2) (v.i 3 3) (v.i 3 4) (v.r 1) f (qtz (v.s 3 0) (v.b 3 1) (v.i 3 2) (v.i 3 3) (v.i 3 4) K)) (fun f v=>f (v.b 24 0) (v.i 28 0) (v.r 1)) (fun k v=>(fun z0 z1 z2=>k (((v.ub 24 0 z0).ui 28 0 z1).ur 1 z2)))
def qn2 (v0:LA)(B7:LU)(B8:Bool)(B9 Ca Cb:Int):Option (List AV):=
 (bif(hd ([]:List AV) (([]:List AV).length)&&true)then(qyo v0 B7 B8 B9 Ca Cb (fun v6q1 a1q2=>(bif(!v6q1)then(bif hd a1q2 a1q2.length then(bif hd ([(.agg [(.str B7),(.bool B8),(.int .u64 B9),(.int .u64 Ca),(.int .i64 Cb)])]:List AV) (([(.agg [(.str B7),(.bool B8),(.int .u64 B9),(.int .u64 Ca),(.int .i64 Cb)])]:List AV).length)then(bif decide ((a1q2.length+([(.agg [(.str B7),(.bool B8),(.int .u64 B9),(.int .u64 Ca),(.int .i64 Cb)])]:List AV).length)*48<=140737488355328)then(bif hd (a1q2++([(.agg [(.str B7),(.bool B8),(.int .u64 B9),(.int .u64 Ca),(.int .i64 Cb)])]:List AV)) ((a1q2++([(.agg [(.str B7),(.bool B8),(.int .u64 B9),(.int .u64 Ca),(.int .i64 Cb)])]:List AV)).length)then(some (a1q2++([(.agg [(.str B7),(.bool B8),(.int .u64 B9),(.int .u64 Ca),(.int .i64 Cb)])]:List AV)))else none)else none)else none)else none)else(bif hd a1q2 a1q2.length then(some a1q2)else none))) FU false (0:Int) ([]:List AV))else none)
def qry:=hull qn2
theorem qbgb:qry=qn2:=qa _
def q19 {R:Type}:EntF Tryz.prog R:=entB (nt:=42) (dec:=(decF true 5)) (enc:=(AV.fr true 5)) tabOk follows Tryz.func108 [.t 4] hdeF (.s .z (.s .z (.s .z (.s (.s .z (.b (.sub [.own 5 5,.sel [0,3,5,6,7] [0,1]] q8x []))) .z)))) S80_ qn2 (fun f v=>f (v.l 0 0) (v.s 5 0) (v.b 5 1) (v.i 5 2) (v.i 5 3) (v.i 5 4))
def S131_:Shp:=⟨[(0,.one (.l (.sl 5))),(1,.one (.l (.i .i64))),(5,.one (.own 0)),(6,.one (.l (.i .i64)))],[.arr true 5]⟩
def S132_:Shp:=⟨[(0,.one (.l (.sl 5))),(1,.one (.l (.i .i64)))],[]⟩
def qt0 (K:Ex->Env->Mem->Option (List AV)):=(fun z_a0=>K (.exit 0) (qk [(5,(.own 0 z_a0.length))]) (qh [(some (.arr true 5 z_a0))]))
def qf0 (v0:LA)(v1 v6:Int)(a0:LA)(next:Int->(List AV)->Option (List AV))(kx0:(List AV)->Option (List AV)):Option (List AV):=
 (bif(decide (v6<(v0.length:Int)))then(bif(v6 != v1)then(oB (ixB v0 v6) fun y1=>(bif fitC qj y1.cells then(bif hd a0 a0.length then(bif hd ([(.agg [(.str (gS y1.cells 0)),(.bool (gB y1.cells 1)),(.int .u64 (gI y1.cells 2)),(.int .u64 (gI y1.cells 3)),(.int .i64 (gI y1.cells 4))])]:List AV) (([(.agg [(.str (gS y1.cells 0)),(.bool (gB y1.cells 1)),(.int .u64 (gI y1.cells 2)),(.int .u64 (gI y1.cells 3)),(.int .i64 (gI y1.cells 4))])]:List AV).length)then(bif decide ((a0.length+([(.agg [(.str (gS y1.cells 0)),(.bool (gB y1.cells 1)),(.int .u64 (gI y1.cells 2)),(.int .u64 (gI y1.cells 3)),(.int .i64 (gI y1.cells 4))])]:List AV).length)*48<=140737488355328)then(next (IntKind.i64.wrap (v6+1)) (a0++([(.agg [(.str (gS y1.cells 0)),(.bool (gB y1.cells 1)),(.int .u64 (gI y1.cells 2)),(.int .u64 (gI y1.cells 3)),(.int .i64 (gI y1.cells 4))])]:List AV)))else none)else none)else none)else none))else(next (IntKind.i64.wrap (v6+1)) a0))else(kx0 a0))
def qf1 (v0:LA)(v1:Int)(kx0:(List AV)->Option (List AV)):Nat->Int->(List AV)->Option (List AV)
 |0=>(fun _ _=>none)
 |n+1=>(fun v6 a0=>qf0 v0 v1 v6 a0 (qf1 v0 v1 kx0 n) kx0)
def qyp:=hull (qf1)
theorem q65:qyp=qf1:=qa _
def q8y:SubB Tryz.prog (TIof Tryz.prog) 24 0 (kret [.t 4] (decF true 5)):=lpB tabOk follows Tryz.f109 75 (.s (.s .z (.s .z (.v [.sel [5] [0]]))) (.s (.b (.s .z (.s (.r [(3,.p (.etac 19 qj))] []) .z))) (.v [.sel [0,1,5,6] [0]]))) S131_ (qf1) (fun f v K n=>f (v.l 0 0) (v.i 4 0) (qt0 K) n) (fun v f K=>qf0 (v.l 0 0) (v.i 4 0) (v.i 24 0) (v.r 0) f (qt0 K)) (fun f v=>f (v.i 24 0) (v.r 0)) (fun k v=>(fun z0 z1=>k ((v.ui 24 0 z0).ur 0 z1)))
def qmz (v0:LA)(v1:Int):Option (List AV):=
 (bif(hd ([]:List AV) (([]:List AV).length)&&true)then(qyp v0 v1 (fun a0q1=>(bif hd a0q1 a0q1.length then(some a0q1)else none)) FU (0:Int) ([]:List AV))else none)
def qvx:=hull qmz
theorem qbeb:qvx=qmz:=qa _
def qbgc {R:Type}:EntF Tryz.prog R:=entB (nt:=24) (dec:=(decF true 5)) (enc:=(AV.fr true 5)) tabOk follows Tryz.func109 [.t 4] hdeF (.s .z (.s .z (.s (.s .z (.b (.sub [.own 5 5,.sel [0,1,5,6] [0]] q8y []))) .z))) S132_ qmz (fun f v=>f (v.l 0 0) (v.i 4 0))
def S133_:Shp:=⟨[(2,.one (.ptr 0 0)),(3,.one (.ptr 1 0)),(4,.one (.ptr 2 0)),(6,.one (.ptr 3 0)),(7,.one (.l (.i .i64))),(9,.one (.l (.sl 5)))],[.box true (lk qds),.box true (lk qd3),.box true [(.l .nil),(.l .nil),(.l .nil)],.box true [(.l .nil),(.l .nil),(.l .nil)]]⟩
def q0o:AV->Option (AV×Int):=decN [(.st [(.sl 8),(.sl 5),(.sl 1)]),(.one (.i .i64))] fun z=>((gC (tpL z) 0),aI (gC (tpL z) 1))
def q8z (v7:Int)(v9 Av Aw Ax:LA)(Ad:Int)(Ae:Bool)(Af Ag Ah Ai:Int)(Aj Ak:LU)(Al Am An:Int)(Ao:LU)(Ap:Bool)(Aq Ar As:Int)(At:LU)(K:Ex->Env->Mem->Option (AV×Int)):=(fun z_v90=>K .norm (qk [(2,(.ptr 0 0)),(3,(.ptr 1 0)),(4,(.ptr 2 0)),(6,(.ptr 3 0)),(7,(.int .i64 v7)),(9,(.sl 5 v9)),(90,(.bool z_v90))]) (qh [(some (.box true (qcl Av Aw Ax))),(some (.box true (qgd Ad Ae Af Ag Ah Ai Aj Ak Al Am An Ao Ap Aq Ar As At))),(some (.box true [.nils,.nils,.nils])),(some (.box true [.nils,.nils,.nils]))]))
def qko (v7:Int)(v9 Av Aw Ax:LA)(Ad:Int)(Ae:Bool)(Af Ag Ah Ai:Int)(Aj Ak:LU)(Al Am An:Int)(Ao:LU)(Ap:Bool)(Aq Ar As:Int)(At:LU)(kn:Bool->Option (AV×Int)):Option (AV×Int):=
 (oB (qoc At) fun r1=>(bif(!r1)then(kn true)else(oB (ixB At (0:Int)) fun c2=>(kn ((c2.toNat:Int)==42)))))
def qss:=hull (qko)
theorem q80:qss=qko:=qa _
def qba0:SubB Tryz.prog (TIof Tryz.prog) 129 0 (kret [(.cell 4 true 3),.t 5] q0o):=jnB tabOk follows Tryz.f50 639 (.r [(2,.c qvn.b)] [.sel [2,3,4,6,7,9,90] [0,1,2,3]]) S133_ (qko) (fun f v K=>f (v.i 28 0) (v.l 36 0) (v.l 3 0) (v.l 3 1) (v.l 3 2) (v.i 7 0) (v.b 7 1) (v.i 7 2) (v.i 7 3) (v.i 7 4) (v.i 7 5) (v.s 7 6) (v.s 7 7) (v.i 7 8) (v.i 7 9) (v.i 7 10) (v.s 7 11) (v.b 7 12) (v.i 7 13) (v.i 7 14) (v.i 7 15) (v.s 7 16) (q8z (v.i 28 0) (v.l 36 0) (v.l 3 0) (v.l 3 1) (v.l 3 2) (v.i 7 0) (v.b 7 1) (v.i 7 2) (v.i 7 3) (v.i 7 4) (v.i 7 5) (v.s 7 6) (v.s 7 7) (v.i 7 8) (v.i 7 9) (v.i 7 10) (v.s 7 11) (v.b 7 12) (v.i 7 13) (v.i 7 14) (v.i 7 15) (v.s 7 16) K))
def qpp (Aa Ab Ac:LA)(B7:Int)(B8:Bool)(B9 Ca Cb Cc:Int)(Cd Ce:LU)(C0 C1 C2:Int)(C3:LU)(C4:Bool)(C5 C6 C7:Int)(C8:LU):Option (AV×Int):=
 (oB (qk2 Ab C3 C4 C5 C6) fun r1=>(bif(B7==4)then(bif hd ([(.agg [(.str C3),(.bool C4),(.int .u64 C5),(.int .u64 C6),(.int .i64 C7)])]:List AV) (([(.agg [(.str C3),(.bool C4),(.int .u64 C5),(.int .u64 C6),(.int .i64 C7)])]:List AV).length)then(oB (qtm ([(.agg [(.str C3),(.bool C4),(.int .u64 C5),(.int .u64 C6),(.int .i64 C7)])]:List AV)) fun r2=>(bif(r2 != (0:Int))then(some ((.agg [(.sl 8 ([]:List AV)),(.sl 5 ([]:List AV)),(.sl 1 ([]:List AV))]),r2))else(bif(decide (r1>=0))then(some ((.agg [(.sl 8 ([]:List AV)),(.sl 5 ([]:List AV)),(.sl 1 ([]:List AV))]),(12:Int)))else(bif(decide ((Ab.length:Int)>=256))then(some ((.agg [(.sl 8 ([]:List AV)),(.sl 5 ([]:List AV)),(.sl 1 ([]:List AV))]),(9:Int)))else(oB (qk7 Aa C4 C5 C6) fun r3=>(bif(!r3)then(some ((.agg [(.sl 8 ([]:List AV)),(.sl 5 ([]:List AV)),(.sl 1 ([]:List AV))]),(25:Int)))else(oB (qod Ac C3) fun r4=>(bif(!r4)then(some ((.agg [(.sl 8 ([]:List AV)),(.sl 5 ([]:List AV)),(.sl 1 ([]:List AV))]),(13:Int)))else(oB (qry Ab C3 C4 C5 C6 C7) fun r5=>(some ((.agg [(.sl 8 Aa),(.sl 5 r5),(.sl 1 Ac)]),(0:Int))))))))))))else none)else(bif(decide (r1<0))then(some ((.agg [(.sl 8 ([]:List AV)),(.sl 5 ([]:List AV)),(.sl 1 ([]:List AV))]),(11:Int)))else(oB (qvx Ab r1) fun r6=>(bif(B7==5)then(some ((.agg [(.sl 8 Aa),(.sl 5 r6),(.sl 1 Ac)]),(0:Int)))else(qss r1 r6 Aa Ab Ac B7 B8 B9 Ca Cb Cc Cd Ce C0 C1 C2 C3 C4 C5 C6 C7 C8 (fun v90q7=>(bif v90q7 then(some ((.agg [(.sl 8 ([]:List AV)),(.sl 5 ([]:List AV)),(.sl 1 ([]:List AV))]),(2:Int)))else(oB (qk2 Ab C8 C4 C5 C6) fun r8=>(bif(decide (r8>=0))then(some ((.agg [(.sl 8 ([]:List AV)),(.sl 5 ([]:List AV)),(.sl 1 ([]:List AV))]),(12:Int)))else(oB (qod Ac C8) fun r9=>(bif(!r9)then(some ((.agg [(.sl 8 ([]:List AV)),(.sl 5 ([]:List AV)),(.sl 1 ([]:List AV))]),(13:Int)))else(oB (ixB Ab r1) fun y10=>(bif fitC qj y10.cells then(oB (qry r6 C8 C4 C5 C6 (gI y10.cells 4)) fun r11=>(some ((.agg [(.sl 8 Aa),(.sl 5 r11),(.sl 1 Ac)]),(0:Int))))else none))))))))))))))
def qy5:=hull qpp
theorem qbju:qy5=qpp:=qa _
def qblu {R:Type}:EntF Tryz.prog R:=entB (nt:=129) (dec:=q0o) (enc:=(fun r=>.tup [qcg (.st [(.sl 8),(.sl 5),(.sl 1)]) r.1,.int .i64 r.2])) tabOk follows Tryz.func50 [(.cell 4 true 3),.t 5] (hdeN fun _=>rfl) (.s .z (.s .z (.s (.r [(8,.c qvw.b)] []) (.s (.s .z (.s (.s (.s (.r [(3,.c q3s.b)] []) (.s .z (.s (.s .z (.v [.nilc 2 0 8,.nilc 2 1 5,.nilc 2 2 1])) .z))) (.s (.s .z (.s (.s .z (.v [.nilc 2 0 8,.nilc 2 1 5,.nilc 2 2 1])) .z)) (.s (.s .z (.s (.s .z (.v [.nilc 2 0 8,.nilc 2 1 5,.nilc 2 2 1])) .z)) (.s (.s (.r [(5,.c qsn.b)] []) (.s (.s .z (.v [.nilc 2 0 8,.nilc 2 1 5,.nilc 2 2 1])) .z)) (.s (.s (.r [(5,.c qvp.b)] []) (.s (.s .z (.v [.nilc 2 0 8,.nilc 2 1 5,.nilc 2 2 1])) .z)) (.s (.d [] [(6,.c q19.b)] [] []) .z)))))) .z)) (.s (.s .z (.s (.s .z (.v [.nilc 2 0 8,.nilc 2 1 5,.nilc 2 2 1])) .z)) (.s (.r [(3,.k qbgc.b)] []) (.s .z (.s (.s (.sub [.sel [2,3,4,6,7,9] [0,1,2,3]] qba0 []) (.s (.s .z (.v [.nilc 2 0 8,.nilc 2 1 5,.nilc 2 2 1])) .z)) (.s (.s (.r [(7,.c qvw.b)] []) (.s (.s .z (.v [.nilc 2 0 8,.nilc 2 1 5,.nilc 2 2 1])) .z)) (.s (.s (.r [(4,.c qvp.b)] []) (.s (.s .z (.v [.nilc 2 0 8,.nilc 2 1 5,.nilc 2 2 1])) .z)) (.s (.d [] [(8,.e 117 qj)] [] []) (.s (.d [] [(4,.c q19.b)] [] []) .z)))))))))))) S90_ qpp (fun f v=>f (v.l 1 0) (v.l 1 1) (v.l 1 2) (v.i 5 0) (v.b 5 1) (v.i 5 2) (v.i 5 3) (v.i 5 4) (v.i 5 5) (v.s 5 6) (v.s 5 7) (v.i 5 8) (v.i 5 9) (v.i 5 10) (v.s 5 11) (v.b 5 12) (v.i 5 13) (v.i 5 14) (v.i 5 15) (v.s 5 16))
def S134_:Shp:=⟨[(2,.one (.ptr 0 0)),(3,.one (.ptr 1 0)),(4,.one (.ptr 2 0)),(6,.one (.ptr 3 0))],[.box true (lk qds),.box true (lk qd3),.box true [(.l .nil),(.l .nil),(.l .nil)],.box true [(.l .nil),(.l .nil),(.l .nil)]]⟩
def S135_:Shp:=⟨[(2,.one (.ptr 0 0)),(4,.one (.ptr 1 0)),(6,.one (.ptr 2 0)),(9,.one (.l (.sl 8))),(11,.one (.l (.i .i64)))],[.box true (lk qds),.box true [(.l .nil),(.l .nil),(.l .nil)],.box true [(.l .nil),(.l .nil),(.l .nil)]]⟩
def qst:AV->Option (AV×Int):=decN [(.st [(.sl 8),(.sl 5),(.sl 1)]),(.one (.i .i64))] fun z=>((gC (tpL z) 0),aI (gC (tpL z) 1))
def qba1 (Av Aw Ax:LA)(Ad:Int)(Ae:Bool)(Af Ag Ah Ai:Int)(Aj Ak:LU)(Al Am An:Int)(Ao:LU)(Ap:Bool)(Aq Ar As:Int)(At:LU)(K:Ex->Env->Mem->Option (AV×Int)):=(fun z_v28=>K .norm (qk [(2,(.ptr 0 0)),(3,(.ptr 1 0)),(4,(.ptr 2 0)),(6,(.ptr 3 0)),(28,(.bool z_v28))]) (qh [(some (.box true (qcl Av Aw Ax))),(some (.box true (qgd Ad Ae Af Ag Ah Ai Aj Ak Al Am An Ao Ap Aq Ar As At))),(some (.box true [.nils,.nils,.nils])),(some (.box true [.nils,.nils,.nils]))]))
def qlq (Av Aw Ax:LA)(Ad:Int)(Ae:Bool)(Af Ag Ah Ai:Int)(Aj Ak:LU)(Al Am An:Int)(Ao:LU)(Ap:Bool)(Aq Ar As:Int)(At:LU)(kn:Bool->Option (AV×Int)):Option (AV×Int):=
 (bif(decide (Ad<1))then(kn true)else(bif(decide (Ad>6))then(kn true)else(oB (q1h Ad Ae Af Ag Ah Ai Aj Ak Al Am An Ao Ap Aq Ar As At) fun r1=>(kn (!(((gI r1.cells 0)==Ad)&&(((gB r1.cells 1)==Ae)&&(((gI r1.cells 2)==Af)&&(((gI r1.cells 3)==Ag)&&(((gI r1.cells 4)==Ah)&&(((gI r1.cells 5)==Ai)&&(((gS r1.cells 6)==Aj)&&(((gS r1.cells 7)==Ak)&&(((gI r1.cells 8)==Al)&&(((gI r1.cells 9)==Am)&&(((gI r1.cells 10)==An)&&(((gS r1.cells 11)==Ao)&&(((gB r1.cells 12)==Ap)&&(((gI r1.cells 13)==Aq)&&(((gI r1.cells 14)==Ar)&&(((gI r1.cells 15)==As)&&(((gS r1.cells 16)==At)&&true))))))))))))))))))))))
def qub:=hull (qlq)
theorem qba2:qub=qlq:=qa _
def qbec:SubB Tryz.prog (TIof Tryz.prog) 128 0 (kret [(.cell 4 true 3),.t 5] qst):=jnB tabOk follows Tryz.f15 19 (.d [] [(10,.c qbm6.b)] [] [.sel [2,3,4,6,28] [0,1,2,3]]) S134_ (qlq) (fun f v K=>f (v.l 3 0) (v.l 3 1) (v.l 3 2) (v.i 7 0) (v.b 7 1) (v.i 7 2) (v.i 7 3) (v.i 7 4) (v.i 7 5) (v.s 7 6) (v.s 7 7) (v.i 7 8) (v.i 7 9) (v.i 7 10) (v.s 7 11) (v.b 7 12) (v.i 7 13) (v.i 7 14) (v.i 7 15) (v.s 7 16) (qba1 (v.l 3 0) (v.l 3 1) (v.l 3 2) (v.i 7 0) (v.b 7 1) (v.i 7 2) (v.i 7 3) (v.i 7 4) (v.i 7 5) (v.s 7 6) (v.s 7 7) (v.i 7 8) (v.i 7 9) (v.i 7 10) (v.s 7 11) (v.b 7 12) (v.i 7 13) (v.i 7 14) (v.i 7 15) (v.s 7 16) K))
def quq (v9 Av Aw Ax:LA)(K:Ex->Env->Mem->Option (AV×Int)):=(fun(_:Unit)=>K (.exit 0) (qk [(2,(.ptr 0 0)),(4,(.ptr 1 0)),(9,(.sl 8 v9))]) (qh [(some (.box true (qcl Av Aw Ax))),(some (.box true [.nils,.nils,.nils]))]))
def qg0 (v9:LA)(v11:Int)(Av Aw Ax:LA)(next:Int->Option (AV×Int))(kx0:Unit->Option (AV×Int)):Option (AV×Int):=
 (bif(decide (v11<(Aw.length:Int)))then(oB (ixB Aw v11) fun y1=>(bif fitC qj y1.cells then(oB (qk7 v9 (gB y1.cells 1) (gI y1.cells 2) (gI y1.cells 3)) fun r2=>(bif(!r2)then(some ((.agg [(.sl 8 ([]:List AV)),(.sl 5 ([]:List AV)),(.sl 1 ([]:List AV))]),(25:Int)))else(next (IntKind.i64.wrap (v11+1)))))else none))else(kx0 ()))
def qg1 (v9 Av Aw Ax:LA)(kx0:Unit->Option (AV×Int)):Nat->Int->Option (AV×Int)
 |0=>(fun _=>none)
 |n+1=>(fun v11=>qg0 v9 v11 Av Aw Ax (qg1 v9 Av Aw Ax kx0 n) kx0)
def qsu:=hull (qg1)
theorem q81:qsu=qg1:=qa _
def qba3:SubB Tryz.prog (TIof Tryz.prog) 128 0 (kret [(.cell 4 true 3),.t 5] qst):=lpB tabOk follows Tryz.f15 9647 (.s (.s .z (.s .z (.v [.sel [2,4,9] [0,1]]))) (.s (.b (.s (.r [(4,.p (.etac 78 qj)),(7,.c qsn.b)] []) (.s (.s .z (.v [.nilc 1 0 8,.nilc 1 1 5,.nilc 1 2 1])) .z))) (.v [.sel [2,4,6,9,11] [0,1,2]]))) S135_ (qg1) (fun f v K n=>f (v.l 36 0) (v.l 3 0) (v.l 3 1) (v.l 3 2) (quq (v.l 36 0) (v.l 3 0) (v.l 3 1) (v.l 3 2) K) n) (fun v f K=>qg0 (v.l 36 0) (v.i 44 0) (v.l 3 0) (v.l 3 1) (v.l 3 2) f (quq (v.l 36 0) (v.l 3 0) (v.l 3 1) (v.l 3 2) K)) (fun f v=>f (v.i 44 0)) (fun k v=>(fun z0=>k (v.ui 44 0 z0)))
def qpq (Aa Ab Ac:LA)(B7:Int)(B8:Bool)(B9 Ca Cb Cc:Int)(Cd Ce:LU)(C0 C1 C2:Int)(C3:LU)(C4:Bool)(C5 C6 C7:Int)(C8:LU):Option (AV×Int):=
 (qub Aa Ab Ac B7 B8 B9 Ca Cb Cc Cd Ce C0 C1 C2 C3 C4 C5 C6 C7 C8 (fun v28q1=>(bif v28q1 then(some ((.agg [(.sl 8 ([]:List AV)),(.sl 5 ([]:List AV)),(.sl 1 ([]:List AV))]),(1:Int)))else(bif(B7==1)then(oB (qxk Aa B8 B9 Ca Cb Cc Cd Ce C0) fun r2=>(bif(r2.2 != (0:Int))then(some ((.agg [(.sl 8 ([]:List AV)),(.sl 5 ([]:List AV)),(.sl 1 ([]:List AV))]),r2.2))else(some ((.agg [(.sl 8 r2.1),(.sl 5 Ab),(.sl 1 Ac)]),(0:Int)))))else(bif(B7==2)then(oB (qxl Aa B8 B9 Ca Cb) fun r3=>(bif(r3.2 != (0:Int))then(some ((.agg [(.sl 8 ([]:List AV)),(.sl 5 ([]:List AV)),(.sl 1 ([]:List AV))]),r3.2))else(qsu r3.1 Aa Ab Ac (fun(_:Unit)=>(some ((.agg [(.sl 8 r3.1),(.sl 5 Ab),(.sl 1 Ac)]),(0:Int)))) FU (0:Int))))else(bif(B7==3)then(oB (qn1 Aa B8 B9 Ca Cb C1 C2 Cd Ce) fun r4=>(bif(r4.2.2 != (0:Int))then(some ((.agg [(.sl 8 ([]:List AV)),(.sl 5 ([]:List AV)),(.sl 1 ([]:List AV))]),r4.2.2))else(some ((.agg [(.sl 8 r4.1),(.sl 5 Ab),(.sl 1 Ac)]),(0:Int)))))else(oB (qy5 Aa Ab Ac B7 B8 B9 Ca Cb Cc Cd Ce C0 C1 C2 C3 C4 C5 C6 C7 C8) fun r5=>(some ((.agg [(.sl 8 (gL r5.1.cells 0)),(.sl 5 (gL r5.1.cells 1)),(.sl 1 (gL r5.1.cells 2))]),r5.2)))))))))
def qy6:=hull qpq
theorem qbjv:qy6=qpq:=qa _
def qblv {R:Type}:EntF Tryz.prog R:=entB (nt:=128) (dec:=qst) (enc:=(fun r=>.tup [qcg (.st [(.sl 8),(.sl 5),(.sl 1)]) r.1,.int .i64 r.2])) tabOk follows Tryz.func15 [(.cell 4 true 3),.t 5] (hdeN fun _=>rfl) (.s .z (.s .z (.s (.s (.sub [.sel [2,3,4,6] [0,1,2,3]] qbec []) (.s (.s .z (.v [.nilc 2 0 8,.nilc 2 1 5,.nilc 2 2 1])) .z)) (.s (.s .z (.s (.s (.r [(4,.k q8l.b)] []) (.s (.s .z (.s (.s .z (.v [.nilc 2 0 8,.nilc 2 1 5,.nilc 2 2 1])) .z)) .z)) .z)) (.s (.s .z (.s (.s (.r [(5,.k qbjo.b)] []) (.s (.s .z (.s (.s .z (.v [.nilc 2 0 8,.nilc 2 1 5,.nilc 2 2 1])) .z)) (.s (.s .z (.b (.sub [.sel [2,4,6,9,11] [0,2,3]] qba3 []))) .z))) .z)) (.s (.s .z (.s (.s (.r [(15,.k qyl.b)] []) (.s (.s .z (.s (.s .z (.v [.nilc 2 0 8,.nilc 2 1 5,.nilc 2 2 1])) .z)) .z)) .z)) (.s (.r [(2,.k qblu.b)] []) .z))))))) S90_ qpq (fun f v=>f (v.l 1 0) (v.l 1 1) (v.l 1 2) (v.i 5 0) (v.b 5 1) (v.i 5 2) (v.i 5 3) (v.i 5 4) (v.i 5 5) (v.s 5 6) (v.s 5 7) (v.i 5 8) (v.i 5 9) (v.i 5 10) (v.s 5 11) (v.b 5 12) (v.i 5 13) (v.i 5 14) (v.i 5 15) (v.s 5 16))
def S140_:Shp:=⟨[(2,.one (.ptr 0 0)),(3,.one (.ptr 1 0))],[.box true (lk qds),.box true (lk qd3)]⟩
def qbed:AV->Option (AV×Int):=decN [(.st [(.i .i64),.b,(.i .u64),(.i .u64),(.i .i64),(.i .i64),.s,.s,(.i .i64),(.i .i64),(.i .i64),.s,.b,(.i .u64),(.i .u64),(.i .i64),.s]),(.one (.i .i64))] fun z=>((gC (tpL z) 0),aI (gC (tpL z) 1))
def qn3 (Aa Ab Ac:LA)(B7:Int)(B8:Bool)(B9 Ca Cb Cc:Int)(Cd Ce:LU)(C0 C1 C2:Int)(C3:LU)(C4:Bool)(C5 C6 C7:Int)(C8:LU):Option (AV×Int):=
 (oB (qy6 Aa Ab Ac B7 B8 B9 Ca Cb Cc Cd Ce C0 C1 C2 C3 C4 C5 C6 C7 C8) fun r1=>(bif(r1.2 != (0:Int))then(some ((.agg [(.int .i64 (0:Int)),(.bool false),(.int .u64 (0:Int)),(.int .u64 (0:Int)),(.int .i64 (0:Int)),(.int .i64 (0:Int)),(.str ([]:List UInt8)),(.str ([]:List UInt8)),(.int .i64 (0:Int)),(.int .i64 (0:Int)),(.int .i64 (0:Int)),(.str ([]:List UInt8)),(.bool false),(.int .u64 (0:Int)),(.int .u64 (0:Int)),(.int .i64 (0:Int)),(.str ([]:List UInt8))]),r1.2))else(bif(B7 != (3:Int))then(some ((.agg [(.int .i64 B7),(.bool B8),(.int .u64 B9),(.int .u64 Ca),(.int .i64 Cb),(.int .i64 Cc),(.str Cd),(.str Ce),(.int .i64 C0),(.int .i64 C1),(.int .i64 C2),(.str C3),(.bool C4),(.int .u64 C5),(.int .u64 C6),(.int .i64 C7),(.str C8)]),(0:Int)))else(oB (qn1 Aa B8 B9 Ca Cb C1 C2 Cd Ce) fun r2=>(some ((.agg [(.int .i64 (1:Int)),(.bool (gB r2.2.1.cells 0)),(.int .u64 (gI r2.2.1.cells 1)),(.int .u64 (gI r2.2.1.cells 2)),(.int .i64 (gI r2.2.1.cells 3)),(.int .i64 (2:Int)),(.str Cd),(.str Ce),(.int .i64 (0:Int)),(.int .i64 (0:Int)),(.int .i64 (0:Int)),(.str ([]:List UInt8)),(.bool false),(.int .u64 (0:Int)),(.int .u64 (0:Int)),(.int .i64 (0:Int)),(.str ([]:List UInt8))]),(0:Int)))))))
def qxq:=hull qn3
theorem qbgd:qxq=qn3:=qa _
def qbjw {R:Type}:EntF Tryz.prog R:=entB (nt:=54) (dec:=qbed) (enc:=(fun r=>.tup [qcg (.st [(.i .i64),.b,(.i .u64),(.i .u64),(.i .i64),(.i .i64),.s,.s,(.i .i64),(.i .i64),(.i .i64),.s,.b,(.i .u64),(.i .u64),(.i .i64),.s]) r.1,.int .i64 r.2])) tabOk follows Tryz.func53 [(.cell 4 true 17),.t 5] (hdeN fun _=>rfl) (.s .z (.s (.s (.r [(2,.k qblv.b)] []) .z) (.s .z (.s (.r [(15,.k qyl.b)] []) .z)))) S90_ qn3 (fun f v=>f (v.l 1 0) (v.l 1 1) (v.l 1 2) (v.i 5 0) (v.b 5 1) (v.i 5 2) (v.i 5 3) (v.i 5 4) (v.i 5 5) (v.s 5 6) (v.s 5 7) (v.i 5 8) (v.i 5 9) (v.i 5 10) (v.s 5 11) (v.b 5 12) (v.i 5 13) (v.i 5 14) (v.i 5 15) (v.s 5 16))
def qba4:AV->Option (AV×Int):=decN [(.st [(.i .i64),.b,(.i .u64),(.i .u64),(.i .i64),(.i .i64),.s,.s,(.i .i64),(.i .i64),(.i .i64),.s,.b,(.i .u64),(.i .u64),(.i .i64),.s]),(.one (.i .i64))] fun z=>((gC (tpL z) 0),aI (gC (tpL z) 1))
def qm0 (Aa Ab Ac:LA)(B7:Int)(B8:Bool)(B9 Ca Cb Cc:Int)(Cd Ce:LU)(C0 C1 C2:Int)(C3:LU)(C4:Bool)(C5 C6 C7:Int)(C8:LU):Option (AV×Int):=
 (oB (qxq Aa Ab Ac B7 B8 B9 Ca Cb Cc Cd Ce C0 C1 C2 C3 C4 C5 C6 C7 C8) fun r1=>(bif(r1.2 != (0:Int))then(some ((.agg [(.int .i64 (0:Int)),(.bool false),(.int .u64 (0:Int)),(.int .u64 (0:Int)),(.int .i64 (0:Int)),(.int .i64 (0:Int)),(.str ([]:List UInt8)),(.str ([]:List UInt8)),(.int .i64 (0:Int)),(.int .i64 (0:Int)),(.int .i64 (0:Int)),(.str ([]:List UInt8)),(.bool false),(.int .u64 (0:Int)),(.int .u64 (0:Int)),(.int .i64 (0:Int)),(.str ([]:List UInt8))]),r1.2))else(bif((gI r1.1.cells 0)==1)then(some ((.agg [(.int .i64 (2:Int)),(.bool (gB r1.1.cells 1)),(.int .u64 (gI r1.1.cells 2)),(.int .u64 (gI r1.1.cells 3)),(.int .i64 (gI r1.1.cells 4)),(.int .i64 (0:Int)),(.str ([]:List UInt8)),(.str ([]:List UInt8)),(.int .i64 (0:Int)),(.int .i64 (0:Int)),(.int .i64 (0:Int)),(.str ([]:List UInt8)),(.bool false),(.int .u64 (0:Int)),(.int .u64 (0:Int)),(.int .i64 (0:Int)),(.str ([]:List UInt8))]),(0:Int)))else(bif((gI r1.1.cells 0)==2)then(oB (qhj Aa (gB r1.1.cells 1) (gI r1.1.cells 2) (gI r1.1.cells 3) (gI r1.1.cells 4)) fun r2=>(some ((.agg [(.int .i64 (1:Int)),(.bool (gB r2.1.cells 0)),(.int .u64 (gI r2.1.cells 1)),(.int .u64 (gI r2.1.cells 2)),(.int .i64 (gI r2.1.cells 3)),(.int .i64 (gI r2.1.cells 4)),(.str (gS r2.1.cells 5)),(.str (gS r2.1.cells 6)),(.int .i64 (gI r2.1.cells 7)),(.int .i64 (0:Int)),(.int .i64 (0:Int)),(.str ([]:List UInt8)),(.bool false),(.int .u64 (0:Int)),(.int .u64 (0:Int)),(.int .i64 (0:Int)),(.str ([]:List UInt8))]),(0:Int))))else(bif((gI r1.1.cells 0)==4)then(some ((.agg [(.int .i64 (5:Int)),(.bool false),(.int .u64 (0:Int)),(.int .u64 (0:Int)),(.int .i64 (0:Int)),(.int .i64 (0:Int)),(.str ([]:List UInt8)),(.str ([]:List UInt8)),(.int .i64 (0:Int)),(.int .i64 (0:Int)),(.int .i64 (0:Int)),(.str (gS r1.1.cells 11)),(.bool (gB r1.1.cells 12)),(.int .u64 (gI r1.1.cells 13)),(.int .u64 (gI r1.1.cells 14)),(.int .i64 (0:Int)),(.str ([]:List UInt8))]),(0:Int)))else(bif((gI r1.1.cells 0)==5)then(oB (qk2 Ab (gS r1.1.cells 11) (gB r1.1.cells 12) (gI r1.1.cells 13) (gI r1.1.cells 14)) fun r3=>(oB (ixB Ab r3) fun y4=>(bif fitC qj y4.cells then(some ((.agg [(.int .i64 (4:Int)),(.bool false),(.int .u64 (0:Int)),(.int .u64 (0:Int)),(.int .i64 (0:Int)),(.int .i64 (0:Int)),(.str ([]:List UInt8)),(.str ([]:List UInt8)),(.int .i64 (0:Int)),(.int .i64 (0:Int)),(.int .i64 (0:Int)),(.str (gS y4.cells 0)),(.bool (gB y4.cells 1)),(.int .u64 (gI y4.cells 2)),(.int .u64 (gI y4.cells 3)),(.int .i64 (gI y4.cells 4)),(.str ([]:List UInt8))]),(0:Int)))else none)))else(some ((.agg [(.int .i64 (6:Int)),(.bool false),(.int .u64 (0:Int)),(.int .u64 (0:Int)),(.int .i64 (0:Int)),(.int .i64 (0:Int)),(.str ([]:List UInt8)),(.str ([]:List UInt8)),(.int .i64 (0:Int)),(.int .i64 (0:Int)),(.int .i64 (0:Int)),(.str (gS r1.1.cells 16)),(.bool (gB r1.1.cells 12)),(.int .u64 (gI r1.1.cells 13)),(.int .u64 (gI r1.1.cells 14)),(.int .i64 (0:Int)),(.str (gS r1.1.cells 11))]),(0:Int)))))))))
def qvy:=hull qm0
theorem qbee:qvy=qm0:=qa _
def qbge {R:Type}:EntF Tryz.prog R:=entB (nt:=78) (dec:=qba4) (enc:=(fun r=>.tup [qcg (.st [(.i .i64),.b,(.i .u64),(.i .u64),(.i .i64),(.i .i64),.s,.s,(.i .i64),(.i .i64),(.i .i64),.s,.b,(.i .u64),(.i .u64),(.i .i64),.s]) r.1,.int .i64 r.2])) tabOk follows Tryz.func18 [(.cell 4 true 17),.t 5] (hdeN fun _=>rfl) (.s .z (.s (.r [(2,.c qbjw.b)] []) (.s .z (.s (.s .z (.b (.s .z (.s .z (.s .z (.s (.s (.r [(5,.c qmq.b)] []) .z) (.s .z (.s .z (.s .z (.s (.s (.d [] [(10,.c qvw.b)] [(0,.p (.etac 65 qj))] []) .z) .z)))))))))) .z)))) S90_ qm0 (fun f v=>f (v.l 1 0) (v.l 1 1) (v.l 1 2) (v.i 5 0) (v.b 5 1) (v.i 5 2) (v.i 5 3) (v.i 5 4) (v.i 5 5) (v.s 5 6) (v.s 5 7) (v.i 5 8) (v.i 5 9) (v.i 5 10) (v.s 5 11) (v.b 5 12) (v.i 5 13) (v.i 5 14) (v.i 5 15) (v.s 5 16))
def qy7 (Av Aw Ax:LA)(Ad:Int)(Ae:Bool)(Af Ag Ah Ai:Int)(Aj Ak:LU)(Al Am An:Int)(Ao:LU)(Ap:Bool)(Aq Ar As:Int)(At:LU)(K:Ex->Env->Mem->Option Bool):=(fun z_v15=>K .norm (qk [(2,(.ptr 0 0)),(3,(.ptr 1 0)),(15,(.bool z_v15))]) (qh [(some (.box true (qcl Av Aw Ax))),(some (.box true (qgd Ad Ae Af Ag Ah Ai Aj Ak Al Am An Ao Ap Aq Ar As At)))]))
def qe3 (Av Aw Ax:LA)(Ad:Int)(Ae:Bool)(Af Ag Ah Ai:Int)(Aj Ak:LU)(Al Am An:Int)(Ao:LU)(Ap:Bool)(Aq Ar As:Int)(At:LU)(kn:Bool->Option Bool):Option Bool:=
 (oB (qwp Av Aw Ax ([]:List AV)) fun r1=>(bif r1 then(kn true)else(oB (qy3 Av Aw Ax) fun r2=>(kn (r2 != (0:Int))))))
def qrz:=hull (qe3)
theorem qy8:qrz=qe3:=qa _
def q0p:SubB Tryz.prog (TIof Tryz.prog) 40 0 (kret [.t 4] decB):=jnB tabOk follows Tryz.f4 9 (.r [(1,.c qbh9.b),(4,.c qblm.b)] [.sel [2,3,15] [0,1]]) S140_ (qe3) (fun f v K=>f (v.l 3 0) (v.l 3 1) (v.l 3 2) (v.i 7 0) (v.b 7 1) (v.i 7 2) (v.i 7 3) (v.i 7 4) (v.i 7 5) (v.s 7 6) (v.s 7 7) (v.i 7 8) (v.i 7 9) (v.i 7 10) (v.s 7 11) (v.b 7 12) (v.i 7 13) (v.i 7 14) (v.i 7 15) (v.s 7 16) (qy7 (v.l 3 0) (v.l 3 1) (v.l 3 2) (v.i 7 0) (v.b 7 1) (v.i 7 2) (v.i 7 3) (v.i 7 4) (v.i 7 5) (v.s 7 6) (v.s 7 7) (v.i 7 8) (v.i 7 9) (v.i 7 10) (v.s 7 11) (v.b 7 12) (v.i 7 13) (v.i 7 14) (v.i 7 15) (v.s 7 16) K))
def qg2 (Aa Ab Ac:LA)(B7:Int)(B8:Bool)(B9 Ca Cb Cc:Int)(Cd Ce:LU)(C0 C1 C2:Int)(C3:LU)(C4:Bool)(C5 C6 C7:Int)(C8:LU):Option Bool:=
 (qrz Aa Ab Ac B7 B8 B9 Ca Cb Cc Cd Ce C0 C1 C2 C3 C4 C5 C6 C7 C8 (fun v15q1=>(bif v15q1 then(oB (qtk) fun r2=>(some r2))else(oB (qkz Aa Ab Ac B7 B8 B9 Ca Cb Cc Cd Ce C0 C1 C2 C3 C4 C5 C6 C7 C8) fun r3=>(oB (qvy Aa Ab Ac B7 B8 B9 Ca Cb Cc Cd Ce C0 C1 C2 C3 C4 C5 C6 C7 C8) fun r4=>(bif((r3.2==r4.2)&&(((gI r3.1.cells 0)==(gI r4.1.cells 0))&&(((gB r3.1.cells 1)==(gB r4.1.cells 1))&&(((gI r3.1.cells 2)==(gI r4.1.cells 2))&&(((gI r3.1.cells 3)==(gI r4.1.cells 3))&&(((gI r3.1.cells 4)==(gI r4.1.cells 4))&&(((gI r3.1.cells 5)==(gI r4.1.cells 5))&&(((gS r3.1.cells 6)==(gS r4.1.cells 6))&&(((gS r3.1.cells 7)==(gS r4.1.cells 7))&&(((gI r3.1.cells 8)==(gI r4.1.cells 8))&&(((gI r3.1.cells 9)==(gI r4.1.cells 9))&&(((gI r3.1.cells 10)==(gI r4.1.cells 10))&&(((gS r3.1.cells 11)==(gS r4.1.cells 11))&&(((gB r3.1.cells 12)==(gB r4.1.cells 12))&&(((gI r3.1.cells 13)==(gI r4.1.cells 13))&&(((gI r3.1.cells 14)==(gI r4.1.cells 14))&&(((gI r3.1.cells 15)==(gI r4.1.cells 15))&&(((gS r3.1.cells 16)==(gS r4.1.cells 16))&&true))))))))))))))))))then(oB (qtk) fun r5=>(some r5))else(some false)))))))
def qin:=hull qg2
theorem q2b:qin=qg2:=qa _
def q32 {R:Type}:EntF Tryz.prog R:=entB (nt:=40) (dec:=decB) (enc:=AV.bool) tabOk follows Tryz.func4 [.t 4] hdeB (.s .z (.s (.s (.sub [.sel [2,3] [0,1]] q0p []) (.s (.s (.r [(0,.c q3n.b)] []) .z) .z)) (.s (.r [(2,.c q3m.b)] []) (.s (.r [(2,.c qbge.b)] []) (.s (.r [(4,.g 3),(9,.c q3n.b)] []) .z))))) S90_ qg2 (fun f v=>f (v.l 1 0) (v.l 1 1) (v.l 1 2) (v.i 5 0) (v.b 5 1) (v.i 5 2) (v.i 5 3) (v.i 5 4) (v.i 5 5) (v.s 5 6) (v.s 5 7) (v.i 5 8) (v.i 5 9) (v.i 5 10) (v.s 5 11) (v.b 5 12) (v.i 5 13) (v.i 5 14) (v.i 5 15) (v.s 5 16))
end
end Go.Proofs.YtoaaphlopbabeaaGreatDoor.Dn
