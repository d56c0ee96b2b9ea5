import Derived.Test.YtoaaphlopbabeaaGreatDoorProg
import Derived.Test.YtoaaphlopbabeaaGreatDoorCRLibD
import Derived.Test.YtoaaphlopbabeaaGreatDoorCRDn51x1
set_option linter.all false
namespace Go.Proofs.YtoaaphlopbabeaaGreatDoor.Dn
open Go Go.Pev
set_option maxRecDepth 100000
set_option maxHeartbeats 4000000
noncomputable section
def qpc:Option Bool:=
 (oB (qxe (8:Int)) fun r1=>(oB (qxe (8:Int)) fun r2=>(oB (qes ([]:List AV) ([]:List AV) ([]:List AV) (1:Int) (gB r1.cells 0) (gI r1.cells 1) (gI r1.cells 2) (gI r1.cells 3) (1:Int) ([110,101,116]:List UInt8) ([]:List UInt8) (0:Int) (0:Int) (0:Int) ([]:List UInt8) false (0:Int) (0:Int) (0:Int) ([]:List UInt8)) fun r3=>(oB (qes ([]:List AV) ([]:List AV) ([]:List AV) (2:Int) (gB r2.cells 0) (gI r2.cells 1) (gI r2.cells 2) (gI r2.cells 3) (0:Int) ([]:List UInt8) ([]:List UInt8) (0:Int) (0:Int) (0:Int) ([]:List UInt8) false (0:Int) (0:Int) (0:Int) ([]:List UInt8)) fun r4=>(oB (qtv ([]:List AV) ([]:List AV) ([]:List AV) (1:Int) (gB r1.cells 0) (gI r1.cells 1) (gI r1.cells 2) (gI r1.cells 3) (1:Int) ([110,101,116]:List UInt8) ([]:List UInt8) (0:Int) (0:Int) (0:Int) ([]:List UInt8) false (0:Int) (0:Int) (0:Int) ([]:List UInt8)) fun r5=>(bif(r3.2==0)then(bif(((gL r3.1.cells 0).length:Int)==1)then(oB (ixB (gL r3.1.cells 0) (0:Int)) fun y6=>(bif fitC qb y6.cells then(bif(((gB y6.cells 0)==(gB r1.cells 0))&&(((gI y6.cells 1)==(gI r1.cells 1))&&(((gI y6.cells 2)==(gI r1.cells 2))&&(((gI y6.cells 3)==(gI r1.cells 3))&&(((gI y6.cells 4)==1)&&(((gS y6.cells 5)==([110,101,116]:List UInt8))&&(((gS y6.cells 6)==([]:List UInt8))&&(((gI y6.cells 7)==0)&&true))))))))then(bif(r4.2==11)then(bif(r5.2==0)then(some (((gI r5.1.cells 0)==2)&&(((gB r5.1.cells 1)==(gB r2.cells 0))&&(((gI r5.1.cells 2)==(gI r2.cells 1))&&(((gI r5.1.cells 3)==(gI r2.cells 2))&&(((gI r5.1.cells 4)==(gI r2.cells 3))&&(((gI r5.1.cells 5)==0)&&(((gS r5.1.cells 6)==([]:List UInt8))&&(((gS r5.1.cells 7)==([]:List UInt8))&&(((gI r5.1.cells 8)==0)&&(((gI r5.1.cells 9)==0)&&(((gI r5.1.cells 10)==0)&&(((gS r5.1.cells 11)==([]:List UInt8))&&(((gB r5.1.cells 12)==false)&&(((gI r5.1.cells 13)==0)&&(((gI r5.1.cells 14)==0)&&(((gI r5.1.cells 15)==0)&&(((gS r5.1.cells 16)==([]:List UInt8))&&true))))))))))))))))))else(some false))else(some false))else(some false))else none))else(some false))else(some false)))))))
def qtw:=hull qpc
theorem qbj9:qtw=qpc:=qa _
def q4c {R:Type}:EntF Tryz.prog R:=entB (nt:=64) (dec:=decB) (enc:=AV.bool) tabOk follows Tryz.func13 [.t 0] hdeB (.s .z (.s .z (.s (.r [(0,.c q7z.b)] []) (.s (.r [(0,.c q7z.b)] []) (.s (.r [(2,.k qtu.b)] []) (.s (.r [(2,.k qtu.b)] []) (.s (.r [(2,.c qbmg.b)] []) (.s (.d [] [(11,.e 45 qb)] [] []) .z)))))))) (⟨[],[]⟩:Shp) qpc (fun f v=>f)
def S93_:Shp:=⟨[(0,.one (.l (.sl 8)))],[]⟩
def qpd (Aa:Bool)(Ab Ac:Int):Option Bool:=
 (bif Aa then(some true)else(bif(Ab==0)then(some (decide (Ac<4294967296)))else(some false)))
def qk8:=hull qpd
theorem qbka:qk8=qpd:=qa _
def qpe {R:Type}:EntF Tryz.prog R:=entB (nt:=15) (dec:=decB) (enc:=AV.bool) tabOk follows Tryz.func80 [.t 2] hdeB (.z) S5_ qpd (fun f v=>f (v.b 1 0) (v.i 1 1) (v.i 1 2))
def S97_:Shp:=⟨[(0,.one (.l .b))],[]⟩
def qrv (v0:Bool):Option Int:=
 (bif v0 then(some (128:Int))else(some (32:Int)))
def qhj:=hull qrv
theorem qbmh:qhj=qrv:=qa _
def qjo {R:Type}:EntF Tryz.prog R:=entB (nt:=4) (dec:=(decI .i64)) (enc:=(AV.int .i64)) tabOk follows Tryz.func130 [.t 2] hdeI (.z) S97_ qrv (fun f v=>f (v.b 0 0))
def S98_:Shp:=⟨[(0,.one (.l (.i .i64))),(4,.one (.l (.i .u64))),(5,.one (.l (.i .u64))),(6,.one (.l (.i .i64)))],[]⟩
def q2r:AV->Option (Int×Int):=decN [(.one (.i .u64)),(.one (.i .u64))] fun z=>(aI (gC (tpL z) 0),aI (gC (tpL z) 1))
def qxx (K:Ex->Env->Mem->Option (Int×Int)):=(fun z_v4 z_v5=>K (.exit 0) (qk [(4,(.int .u64 z_v4)),(5,(.int .u64 z_v5))]) (qh []))
def qmn (v0 v4 v5 v6:Int)(next:Int->Int->Int->Option (Int×Int))(kx0:Int->Int->Option (Int×Int)):Option (Int×Int):=
 (bif((decide (v6<v0))&&(decide (v6<128)))then(next (IntKind.u64.wrap ((IntKind.u64.wrap (v4*2))+(IntKind.u64.wrap (v5.tdiv (9223372036854775808:Int))))) (IntKind.u64.wrap ((IntKind.u64.wrap (v5*2))+1)) (IntKind.i64.wrap (v6+1)))else(kx0 v4 v5))
def qi5 (v0:Int)(kx0:Int->Int->Option (Int×Int)):Nat->Int->Int->Int->Option (Int×Int)
 |0=>(fun _ _ _=>none)
 |n+1=>(fun v4 v5 v6=>qmn v0 v4 v5 v6 (qi5 v0 kx0 n) kx0)
def q4d:=hull (qi5)
theorem qbeb:q4d=qi5:=qa _
def qbgk:SubB Tryz.prog (TIof Tryz.prog) 26 0 (kret [.t 2,.t 3] q2r):=lpB tabOk follows Tryz.f131 75 (.s (.s (.r [(4,.g 2)] []) (.s .z (.v [.sel [4,5] []]))) (.s .z (.v [.sel [0,4,5,6] []]))) S98_ (qi5) (fun f v K n=>f (v.i 0 0) (qxx K) n) (fun v f K=>qmn (v.i 0 0) (v.i 16 0) (v.i 20 0) (v.i 24 0) f (qxx K)) (fun f v=>f (v.i 16 0) (v.i 20 0) (v.i 24 0)) (fun k v=>(fun z0 z1 z2=>k (((v.ui 16 0 z0).ui 20 0 z1).ui 24 0 z2)))
def qrw (v0:Int):Option (Int×Int):=
 (q4d v0 (fun v4q1 v5q2=>(some (v4q1,v5q2))) FU (0:Int) (0:Int) (0:Int))
def qqi:=hull qrw
theorem qbmi:qqi=qrw:=qa _
def qxy {R:Type}:EntF Tryz.prog R:=entB (nt:=26) (dec:=q2r) (enc:=(fun r=>.tup [.int .u64 r.1,.int .u64 r.2])) tabOk follows Tryz.func131 [.t 2,.t 3] (hdeN fun _=>rfl) (.s .z (.s .z (.s (.s .z (.b (.sub [.sel [0,4,5,6] []] qbgk []))) .z))) S1_ qrw (fun f v=>f (v.i 0 0))
def qba1 (Av:Bool)(Aw Ax Ay:Int)(K:Ex->Env->Mem->Option Bool):=(fun z_v22=>K .norm (qk [(1,(.ptr 0 0)),(22,(.bool z_v22))]) (qh [(some (.box true (qc Av Aw Ax Ay)))]))
def qls (Av:Bool)(Aw Ax Ay:Int)(kn:Bool->Option Bool):Option Bool:=
 (oB (qk8 Av Aw Ax) fun r1=>(bif(!r1)then(kn true)else(bif(decide (Ay<0))then(kn true)else(oB (qhj Av) fun r2=>(kn (decide (Ay>r2)))))))
def q2s:=hull (qls)
theorem qba2:q2s=qls:=qa _
def qbec:SubB Tryz.prog (TIof Tryz.prog) 48 0 (kret [.t 2] decB):=jnB tabOk follows Tryz.f75 9 (.d [] [(2,.c qpe.b),(15,.c qjo.b)] [] [.sel [1,22] [0]]) S7_ (qls) (fun f v K=>f (v.b 3 0) (v.i 3 1) (v.i 3 2) (v.i 3 3) (qba1 (v.b 3 0) (v.i 3 1) (v.i 3 2) (v.i 3 3) K))
def qpf (Aa:Bool)(Ab Ac Bt:Int):Option Bool:=
 (q2s Aa Ab Ac Bt (fun v22q1=>(bif v22q1 then(some false)else(oB (qhj Aa) fun r2=>(oB (qqi (IntKind.i64.wrap (r2-Bt))) fun r3=>(some (((qbg .and .u64 Ab r3.1)==0)&&((qbg .and .u64 Ac r3.2)==0))))))))
def qft:=hull qpf
theorem qbkb:qft=qpf:=qa _
def qik {R:Type}:EntF Tryz.prog R:=entB (nt:=48) (dec:=decB) (enc:=AV.bool) tabOk follows Tryz.func75 [.t 2] hdeB (.s .z (.s (.s (.sub [.sel [1] [0]] qbec []) .z) (.s (.d [] [(3,.c qjo.b),(7,.c qxy.b)] [] []) (.s (.r [(7,.g 6)] []) .z)))) S8_ qpf (fun f v=>f (v.b 1 0) (v.i 1 1) (v.i 1 2) (v.i 1 3))
def qpg (Aa:Bool)(Ab Ac Bt:Int):Option Int:=
 (bif Aa then(some (128:Int))else(some (32:Int)))
def qzn:=hull qpg
theorem qbkc:qzn=qpg:=qa _
def qbmj {R:Type}:EntF Tryz.prog R:=entB (nt:=6) (dec:=(decI .i64)) (enc:=(AV.int .i64)) tabOk follows Tryz.func132 [.t 2] hdeI (.z) S8_ qpg (fun f v=>f (v.b 1 0) (v.i 1 1) (v.i 1 2) (v.i 1 3))
def S99_:Shp:=⟨[(0,.one (.l .s)),(3,.one (.l (.i .i64)))],[]⟩
def qrx (K:Ex->Env->Mem->Option Bool):=(fun(_:Unit)=>K (.exit 0) (qk []) (qh []))
def qe1 (v0:LU)(v3:Int)(next:Int->Option Bool)(kx0:Unit->Option Bool):Option Bool:=
 (bif(decide (v3<(v0.length:Int)))then(oB (ixB v0 v3) fun c1=>(bif(decide ((c1.toNat:Int)<33))then(some false)else(oB (ixB v0 v3) fun c2=>(bif(decide ((c2.toNat:Int)>126))then(some false)else(next (IntKind.i64.wrap (v3+1)))))))else(kx0 ()))
def qe2 (v0:LU)(kx0:Unit->Option Bool):Nat->Int->Option Bool
 |0=>(fun _=>none)
 |n+1=>(fun v3=>qe1 v0 v3 (qe2 v0 kx0 n) kx0)
def qws:=hull (qe2)
theorem q4e:qws=qe2:=qa _
def q5s:SubB Tryz.prog (TIof Tryz.prog) 20 0 (kret [.t 2] decB):=lpB tabOk follows Tryz.f133 37 (.s (.s .z (.s .z (.v [.sel [] []]))) (.s .z (.v [.sel [0,3] []]))) S99_ (qe2) (fun f v K n=>f (v.s 0 0) (qrx K) n) (fun v f K=>qe1 (v.s 0 0) (v.i 12 0) f (qrx K)) (fun f v=>f (v.i 12 0)) (fun k v=>(fun z0=>k (v.ui 12 0 z0)))
def qkl (v0:LU):Option Bool:=
 (qws v0 (fun(_:Unit)=>(some true)) FU (0:Int))
def qmo:=hull qkl
theorem q8j:qmo=qkl:=qa _
def qxz {R:Type}:EntF Tryz.prog R:=entB (nt:=20) (dec:=decB) (enc:=AV.bool) tabOk follows Tryz.func133 [.t 2] hdeB (.s .z (.s (.s .z (.b (.sub [.sel [0,3] []] q5s []))) .z)) S69_ qkl (fun f v=>f (v.s 0 0))
def qbgl (Av:Bool)(Aw Ax Ay Az:Int)(A0 A1:LU)(A2:Int)(K:Ex->Env->Mem->Option Bool):=(fun z_v24=>K .norm (qk [(1,(.ptr 0 0)),(24,(.bool z_v24))]) (qh [(some (.box true (qn Av Aw Ax Ay Az A0 A1 A2)))]))
def qnz (Av:Bool)(Aw Ax Ay Az:Int)(A0 A1:LU)(A2:Int)(kn:Bool->Option Bool):Option Bool:=
 (bif(decide (Az<1))then(kn true)else(bif(decide (Az>3))then(kn true)else(bif(Az==3)then(oB (qzn Av Aw Ax Ay) fun r1=>(kn (Ay != r1)))else(kn false))))
def q6b:=hull (qnz)
theorem qbgm:q6b=qnz:=qa _
def qbkd:SubB Tryz.prog (TIof Tryz.prog) 61 0 (kret [.t 2] decB):=jnB tabOk follows Tryz.f76 9 (.d [] [(18,.c qbmj.b)] [] [.sel [1,24] [0]]) S11_ (qnz) (fun f v K=>f (v.b 3 0) (v.i 3 1) (v.i 3 2) (v.i 3 3) (v.i 3 4) (v.s 3 5) (v.s 3 6) (v.i 3 7) (qbgl (v.b 3 0) (v.i 3 1) (v.i 3 2) (v.i 3 3) (v.i 3 4) (v.s 3 5) (v.s 3 6) (v.i 3 7) K))
def qtx (Aa:Bool)(Ab Ac Bt Bu:Int)(Bv Bw:LU)(Bx:Int):Option Bool:=
 (q6b Aa Ab Ac Bt Bu Bv Bw Bx (fun v24q1=>(bif v24q1 then(some false)else(bif((decide ((Bv.length:Int)>=1))&&(decide ((Bv.length:Int)<=63)))then(oB (qmo Bv) fun r2=>(bif(r2&&(decide ((Bw.length:Int)<=32)))then(oB (qmo Bw) fun r3=>(some ((r3&&(decide (Bx>=0)))&&(decide (Bx<=4294967295)))))else(some false)))else(some false)))))
def qsq:=hull qtx
theorem qbn9:qsq=qtx:=qa _
def q8k {R:Type}:EntF Tryz.prog R:=entB (nt:=61) (dec:=decB) (enc:=AV.bool) tabOk follows Tryz.func76 [.t 2] hdeB (.s .z (.s (.s (.sub [.sel [1] [0]] qbkd []) .z) (.s (.r [(5,.g 4),(13,.c qxz.b),(16,.g 4),(24,.c qxz.b),(27,.g 3),(32,.g 3)] []) .z))) S12_ qtx (fun f v=>f (v.b 1 0) (v.i 1 1) (v.i 1 2) (v.i 1 3) (v.i 1 4) (v.s 1 5) (v.s 1 6) (v.i 1 7))
def qmp (Aa:Bool)(Ab Ac:Int)(B7:Bool)(B8 B9:Int):Option Int:=
 (bif(!((Aa==B7)&&true))then(bif B7 then(some (-1:Int))else(some (1:Int)))else(bif(Ab != B8)then(bif(decide (Ab<B8))then(some (-1:Int))else(some (1:Int)))else(bif(decide (Ac<B9))then(some (-1:Int))else(bif(decide (Ac>B9))then(some (1:Int))else(some (0:Int))))))
def qph:=hull qmp
theorem qbed:qph=qmp:=qa _
def q0x {R:Type}:EntF Tryz.prog R:=entB (nt:=32) (dec:=(decI .i64)) (enc:=(AV.int .i64)) tabOk follows Tryz.func134 [.t 4] hdeI (.z) S29_ qmp (fun f v=>f (v.b 1 0) (v.i 1 1) (v.i 1 2) (v.b 5 0) (v.i 5 1) (v.i 5 2))
def qmq (Aa:Bool)(Ab Ac Bt:Int)(B7:Bool)(B8 B9 Ca:Int):Option Int:=
 (oB (qph Aa Ab Ac B7 B8 B9) fun r1=>(bif(r1 != (0:Int))then(some r1)else(bif(decide (Bt<Ca))then(some (-1:Int))else(bif(decide (Bt>Ca))then(some (1:Int))else(some (0:Int))))))
def qpi:=hull qmq
theorem qbee:qpi=qmq:=qa _
def q0y {R:Type}:EntF Tryz.prog R:=entB (nt:=24) (dec:=(decI .i64)) (enc:=(AV.int .i64)) tabOk follows Tryz.func77 [.t 4] hdeI (.s .z (.s (.r [(4,.c q0x.b)] []) .z)) S20_ qmq (fun f v=>f (v.b 1 0) (v.i 1 1) (v.i 1 2) (v.i 1 3) (v.b 5 0) (v.i 5 1) (v.i 5 2) (v.i 5 3))
def q6c:AV->Option (AV×Bool):=decN [(.st [.b,(.i .u64),(.i .u64),(.i .i64)]),(.one .b)] fun z=>((gC (tpL z) 0),aB (gC (tpL z) 1))
def qbke (v1:Int)(Av:Bool)(Aw Ax:Int)(Ad:Bool)(Ae Af Ag:Int)(K:Ex->Env->Mem->Option (AV×Bool)):=(fun z_v22=>K .norm (qk [(1,(.int .i64 v1)),(2,(.ptr 0 0)),(4,(.ptr 1 0)),(22,(.bool z_v22))]) (qh [(some (.box true (qhe Av Aw Ax))),(some (.box true (qc Ad Ae Af Ag)))]))
def qpj (v1:Int)(Av:Bool)(Aw Ax:Int)(Ad:Bool)(Ae Af Ag:Int)(kn:Bool->Option (AV×Bool)):Option (AV×Bool):=
 (oB (qk8 Av Aw Ax) fun r1=>(bif((!r1)||(decide (v1<0)))then(kn true)else(oB (qhj Av) fun r2=>(kn (decide (v1>r2))))))
def q8l:=hull (qpj)
theorem qbkf:q8l=qpj:=qa _
def qbmk:SubB Tryz.prog (TIof Tryz.prog) 53 0 (kret [(.cell 4 true 4),.t 5] q6c):=jnB tabOk follows Tryz.f176 9 (.r [(1,.c qpe.b),(4,.g 2),(11,.c qjo.b)] [.sel [1,2,4,22] [0,1]]) S17_ (qpj) (fun f v K=>f (v.i 4 0) (v.b 3 0) (v.i 3 1) (v.i 3 2) (v.b 7 0) (v.i 7 1) (v.i 7 2) (v.i 7 3) (qbke (v.i 4 0) (v.b 3 0) (v.i 3 1) (v.i 3 2) (v.b 7 0) (v.i 7 1) (v.i 7 2) (v.i 7 3) K))
def qvy (Aa:Bool)(Ab Ac v1:Int):Option (AV×Bool):=
 (q8l v1 Aa Ab Ac false (0:Int) (0:Int) (0:Int) (fun v22q1=>(bif v22q1 then(some ((.agg [(.bool false),(.int .u64 (0:Int)),(.int .u64 (0:Int)),(.int .i64 (0:Int))]),false))else(oB (qhj Aa) fun r2=>(oB (qqi (IntKind.i64.wrap (r2-v1))) fun r3=>(some ((.agg [(.bool Aa),(.int .u64 (IntKind.u64.wrap (Ab-(qbg .and .u64 Ab r3.1)))),(.int .u64 (IntKind.u64.wrap (Ac-(qbg .and .u64 Ac r3.2)))),(.int .i64 v1)]),true)))))))
def q7b:=hull qvy
theorem qbq4:q7b=qvy:=qa _
def qbua {R:Type}:EntF Tryz.prog R:=entB (nt:=53) (dec:=q6c) (enc:=(fun r=>.tup [qck (.st [.b,(.i .u64),(.i .u64),(.i .i64)]) r.1,.bool r.2])) tabOk follows Tryz.func176 [(.cell 4 true 4),.t 5] (hdeN fun _=>rfl) (.s .z (.s (.s (.sub [.sel [1,2,4] [0,1]] qbmk []) .z) (.s (.r [(2,.c qjo.b),(5,.c qxy.b)] []) .z))) S18_ qvy (fun f v=>f (v.b 1 0) (v.i 1 1) (v.i 1 2) (v.i 4 0))
def S100_:Shp:=⟨[(2,.one (.ptr 0 0)),(3,.one (.ptr 1 0))],[.box true (lk qe),.box true (lk qd1)]⟩
def q5t (Av:Bool)(Aw Ax Ay:Int)(Ad:Bool)(Ae Af:Int)(K:Ex->Env->Mem->Option Bool):=(fun z_v22=>K .norm (qk [(2,(.ptr 0 0)),(3,(.ptr 1 0)),(22,(.bool z_v22))]) (qh [(some (.box true (qc Av Aw Ax Ay))),(some (.box true (qhe Ad Ae Af)))]))
def qit (Av:Bool)(Aw Ax Ay:Int)(Ad:Bool)(Ae Af:Int)(kn:Bool->Option Bool):Option Bool:=
 (oB (qft Av Aw Ax Ay) fun r1=>(bif(!r1)then(kn true)else(oB (qk8 Ad Ae Af) fun r2=>(kn ((!r2)||(!((Av==Ad)&&true)))))))
def qx0:=hull (qit)
theorem q5u:qx0=qit:=qa _
def q7c:SubB Tryz.prog (TIof Tryz.prog) 33 0 (kret [.t 4] decB):=jnB tabOk follows Tryz.f129 9 (.r [(1,.c qik.b),(5,.c qpe.b),(9,.g 6)] [.sel [2,3,22] [0,1]]) S100_ (qit) (fun f v K=>f (v.b 3 0) (v.i 3 1) (v.i 3 2) (v.i 3 3) (v.b 7 0) (v.i 7 1) (v.i 7 2) (q5t (v.b 3 0) (v.i 3 1) (v.i 3 2) (v.i 3 3) (v.b 7 0) (v.i 7 1) (v.i 7 2) K))
def qlt (Aa:Bool)(Ab Ac Bt:Int)(B7:Bool)(B8 B9:Int):Option Bool:=
 (qx0 Aa Ab Ac Bt B7 B8 B9 (fun v22q1=>(bif v22q1 then(some false)else(oB (q7b B7 B8 B9 Bt) fun r2=>(some (((gB r2.1.cells 0)==Aa)&&(((gI r2.1.cells 1)==Ab)&&(((gI r2.1.cells 2)==Ac)&&(((gI r2.1.cells 3)==Bt)&&true)))))))))
def qn0:=hull qlt
theorem qba3:qn0=qlt:=qa _
def qy3 {R:Type}:EntF Tryz.prog R:=entB (nt:=33) (dec:=decB) (enc:=AV.bool) tabOk follows Tryz.func129 [.t 4] hdeB (.s .z (.s (.s (.sub [.sel [2,3] [0,1]] q7c []) .z) (.s (.r [(3,.c qbua.b)] []) .z))) S19_ qlt (fun f v=>f (v.b 1 0) (v.i 1 1) (v.i 1 2) (v.i 1 3) (v.b 5 0) (v.i 5 1) (v.i 5 2))
def qn1 (Aa:Bool)(Ab Ac Bt:Int)(B7:Bool)(B8 B9 Ca:Int):Option Bool:=
 (oB (qft Aa Ab Ac Bt) fun r1=>(bif(r1&&(decide (Bt>=Ca)))then(oB (qn0 B7 B8 B9 Ca Aa Ab Ac) fun r2=>(some r2))else(some false)))
def qjp:=hull qn1
theorem qbgn:qjp=qn1:=qa _
def qkf {R:Type}:EntF Tryz.prog R:=entB (nt:=20) (dec:=decB) (enc:=AV.bool) tabOk follows Tryz.func128 [.t 4] hdeB (.s .z (.s (.r [(1,.c qik.b),(3,.g 5),(13,.c qy3.b)] []) .z)) S20_ qn1 (fun f v=>f (v.b 1 0) (v.i 1 1) (v.i 1 2) (v.i 1 3) (v.b 5 0) (v.i 5 1) (v.i 5 2) (v.i 5 3))
def qqj (Aa:Bool)(Ab Ac Bt:Int)(B7:Bool)(B8 B9 Ca:Int):Option Bool:=
 (oB (qjp Aa Ab Ac Bt B7 B8 B9 Ca) fun r1=>(some (r1&&(decide (Bt>Ca)))))
def qk2:=hull qqj
theorem q8m:qk2=qqj:=qa _
def ql8 {R:Type}:EntF Tryz.prog R:=entB (nt:=15) (dec:=decB) (enc:=AV.bool) tabOk follows Tryz.func103 [.t 4] hdeB (.s .z (.s (.r [(2,.c qkf.b),(4,.g 5)] []) .z)) S20_ qqj (fun f v=>f (v.b 1 0) (v.i 1 1) (v.i 1 2) (v.i 1 3) (v.b 5 0) (v.i 5 1) (v.i 5 2) (v.i 5 3))
def qn2 (Aa:Bool)(Ab Ac Bt Bu:Int)(Bv Bw:LU)(Bx:Int)(B7:Bool)(B8 B9 Ca Cb:Int)(Cc Cd:LU)(Ce:Int):Option Bool:=
 (oB (qk2 Aa Ab Ac Bt B7 B8 B9 Ca) fun r1=>(bif r1 then(bif(Cb==3)then(some true)else(bif(Cb==2)then(some (Bu != (3:Int)))else(some false)))else(some false)))
def qmr:=hull qn2
theorem qbgo:qmr=qn2:=qa _
def q2t {R:Type}:EntF Tryz.prog R:=entB (nt:=25) (dec:=decB) (enc:=AV.bool) tabOk follows Tryz.func78 [.t 4] hdeB (.s .z (.s (.r [(4,.c ql8.b)] []) .z)) S21_ qn2 (fun f v=>f (v.b 1 0) (v.i 1 1) (v.i 1 2) (v.i 1 3) (v.i 1 4) (v.s 1 5) (v.s 1 6) (v.i 1 7) (v.b 5 0) (v.i 5 1) (v.i 5 2) (v.i 5 3) (v.i 5 4) (v.s 5 5) (v.s 5 6) (v.i 5 7))
def S101_:Shp:=⟨[(0,.one (.l (.sl 8))),(3,.one (.l (.i .i64)))],[]⟩
def S102_:Shp:=⟨[(0,.one (.l (.sl 8))),(3,.one (.l (.i .i64))),(4,.one (.l (.i .i64)))],[]⟩
def q8n (v0:LA)(v3:Int)(K:Ex->Env->Mem->Option Int):=(fun z_v43=>K .norm (qk [(0,(.sl 8 v0)),(3,(.int .i64 v3)),(43,(.bool z_v43))]) (qh []))
def qkm (v0:LA)(v3:Int)(kn:Bool->Option Int):Option Int:=
 (bif(decide (v3>0))then(oB (ixB v0 (IntKind.i64.wrap (v3-1))) fun y1=>(bif fitC qb y1.cells then(oB (ixB v0 v3) fun y2=>(bif fitC qb y2.cells then(oB (qpi (gB y1.cells 0) (gI y1.cells 1) (gI y1.cells 2) (gI y1.cells 3) (gB y2.cells 0) (gI y2.cells 1) (gI y2.cells 2) (gI y2.cells 3)) fun r3=>(kn (decide (r3>0))))else none))else none))else(kn false))
def q0z:=hull (qkm)
theorem q8o:q0z=qkm:=qa _
def qba4:SubB Tryz.prog (TIof Tryz.prog) 74 0 (kret [.t 2] (decI .i64)):=jnB tabOk follows Tryz.f28 9803 (.d [] [(6,.e 33 qb),(11,.e 38 qb)] [(0,.c q0y.b)] [.sel [0,3,43] []]) S101_ (qkm) (fun f v K=>f (v.l 0 0) (v.i 12 0) (q8n (v.l 0 0) (v.i 12 0) K))
def q8p (v0:LA)(v3:Int)(K:Ex->Env->Mem->Option Int):=(fun z_v59=>K .norm (qk [(0,(.sl 8 v0)),(3,(.int .i64 v3)),(59,(.bool z_v59))]) (qh []))
def qkn (v0:LA)(v3:Int)(kn:Bool->Option Int):Option Int:=
 (bif(decide (v3>0))then(oB (ixB v0 (IntKind.i64.wrap (v3-1))) fun y1=>(bif fitC qb y1.cells then(oB (ixB v0 v3) fun y2=>(bif fitC qb y2.cells then(kn (((gB y1.cells 0)==(gB y2.cells 0))&&(((gI y1.cells 1)==(gI y2.cells 1))&&(((gI y1.cells 2)==(gI y2.cells 2))&&(((gI y1.cells 3)==(gI y2.cells 3))&&true)))))else none))else none))else(kn false))
def q00:=hull (qkn)
theorem q8q:q00=qkn:=qa _
def qba5:SubB Tryz.prog (TIof Tryz.prog) 74 0 (kret [.t 2] (decI .i64)):=jnB tabOk follows Tryz.f28 20043 (.d [] [(6,.e 50 qb),(11,.e 55 qb)] [] [.sel [0,3,59] []]) S101_ (qkn) (fun f v K=>f (v.l 0 0) (v.i 12 0) (q8p (v.l 0 0) (v.i 12 0) K))
def qu5 (v0:LA)(v3:Int)(K:Ex->Env->Mem->Option Int):=(fun(_:Unit)=>K (.exit 2) (qk [(0,(.sl 8 v0)),(3,(.int .i64 v3))]) (qh []))
def qgn (v0:LA)(v3 v4:Int)(next:Int->Option Int)(kx2:Unit->Option Int):Option Int:=
 (bif(decide (v4<v3))then(oB (ixB v0 v3) fun y1=>(bif fitC qb y1.cells then(oB (ixB v0 v4) fun y2=>(bif fitC qb y2.cells then(oB (qmr (gB y1.cells 0) (gI y1.cells 1) (gI y1.cells 2) (gI y1.cells 3) (gI y1.cells 4) (gS y1.cells 5) (gS y1.cells 6) (gI y1.cells 7) (gB y2.cells 0) (gI y2.cells 1) (gI y2.cells 2) (gI y2.cells 3) (gI y2.cells 4) (gS y2.cells 5) (gS y2.cells 6) (gI y2.cells 7)) fun r3=>(bif r3 then(some (24:Int))else(next (IntKind.i64.wrap (v4+1)))))else none))else none))else(kx2 ()))
def qgo (v0:LA)(v3:Int)(kx2:Unit->Option Int):Nat->Int->Option Int
 |0=>(fun _=>none)
 |n+1=>(fun v4=>qgn v0 v3 v4 (qgo v0 v3 kx2 n) kx2)
def qsr:=hull (qgo)
theorem q8r:qsr=qgo:=qa _
def qba6:SubB Tryz.prog (TIof Tryz.prog) 74 0 (kret [.t 2] (decI .i64)):=lpB tabOk follows Tryz.f28 81483 (.s (.s .z (.s .z (.v [.sel [0,3] []]))) (.s (.b (.s (.d [] [(2,.e 67 qb),(6,.e 71 qb)] [(0,.c q2t.b)] []) .z)) (.v [.sel [0,3,4] []]))) S102_ (qgo) (fun f v K n=>f (v.l 0 0) (v.i 12 0) (qu5 (v.l 0 0) (v.i 12 0) K) n) (fun v f K=>qgn (v.l 0 0) (v.i 12 0) (v.i 16 0) f (qu5 (v.l 0 0) (v.i 12 0) K)) (fun f v=>f (v.i 16 0)) (fun k v=>(fun z0=>k (v.ui 16 0 z0)))
def qu6 (K:Ex->Env->Mem->Option Int):=(fun(_:Unit)=>K (.exit 0) (qk []) (qh []))
def qgp (v0:LA)(v3:Int)(next:Int->Option Int)(kx0:Unit->Option Int):Option Int:=
 (bif(decide (v3<(v0.length:Int)))then(oB (ixB v0 v3) fun y1=>(bif fitC qb y1.cells then(oB (qft (gB y1.cells 0) (gI y1.cells 1) (gI y1.cells 2) (gI y1.cells 3)) fun r2=>(bif(!r2)then(some (3:Int))else(oB (ixB v0 v3) fun y3=>(bif fitC qb y3.cells then(oB (qsq (gB y3.cells 0) (gI y3.cells 1) (gI y3.cells 2) (gI y3.cells 3) (gI y3.cells 4) (gS y3.cells 5) (gS y3.cells 6) (gI y3.cells 7)) fun r4=>(bif(!r4)then(some (1:Int))else(q0z v0 v3 (fun v43q5=>(bif v43q5 then(some (7:Int))else(q00 v0 v3 (fun v59q6=>(bif v59q6 then(some (12:Int))else(qsr v0 v3 (fun(_:Unit)=>(next (IntKind.i64.wrap (v3+1)))) FU (0:Int))))))))))else none))))else none))else(kx0 ()))
def qgq (v0:LA)(kx0:Unit->Option Int):Nat->Int->Option Int
 |0=>(fun _=>none)
 |n+1=>(fun v3=>qgp v0 v3 (qgq v0 kx0 n) kx0)
def q01:=hull (qgq)
theorem q8s:q01=qgq:=qa _
def qba7:SubB Tryz.prog (TIof Tryz.prog) 74 0 (kret [.t 2] (decI .i64)):=lpB tabOk follows Tryz.f28 75 (.s (.s .z (.s .z (.v [.sel [] []]))) (.s (.b (.s (.s (.r [(2,.p (.etac 16 qb)),(5,.c qik.b)] []) .z) (.s (.s (.r [(2,.p (.etac 23 qb)),(4,.c q8k.b)] []) .z) (.s (.s (.sub [.sel [0,3] []] qba4 []) .z) (.s (.s (.sub [.sel [0,3] []] qba5 []) .z) (.s .z (.b (.sub [.sel [0,3,4] []] qba6 [])))))))) (.v [.sel [0,3] []]))) S101_ (qgq) (fun f v K n=>f (v.l 0 0) (qu6 K) n) (fun v f K=>qgp (v.l 0 0) (v.i 12 0) f (qu6 K)) (fun f v=>f (v.i 12 0)) (fun k v=>(fun z0=>k (v.ui 12 0 z0)))
def qpk (v0:LA):Option Int:=
 (bif(decide ((v0.length:Int)>512))then(some (9:Int))else(q01 v0 (fun(_:Unit)=>(some (0:Int))) FU (0:Int)))
def qzo:=hull qpk
theorem qbkg:qzo=qpk:=qa _
def qbml {R:Type}:EntF Tryz.prog R:=entB (nt:=74) (dec:=(decI .i64)) (enc:=(AV.int .i64)) tabOk follows Tryz.func28 [.t 2] hdeI (.s .z (.s .z (.s (.s .z (.b (.sub [.sel [0,3] []] qba7 []))) .z))) S93_ qpk (fun f v=>f (v.l 0 0))
def S103_:Shp:=⟨[(0,.one (.l .s)),(3,.one (.l (.i .i64))),(4,.one (.l (.i .u8)))],[]⟩
def q5v (v0:LU)(v3:Int)(K:Ex->Env->Mem->Option Bool):=(fun z_v46=>K .norm (qk [(0,(.str v0)),(3,(.int .i64 v3)),(46,(.bool z_v46))]) (qh []))
def qiu (v0:LU)(v3 v4:Int)(kn:Bool->Option Bool):Option Bool:=
 (bif((decide (v4>=97))&&(decide (v4<=122)))then(kn false)else(bif(decide (v4>=48))then(kn (!(((decide (v4<=57))||(v4==45))||(v4==95))))else(kn (!((v4==45)||(v4==95))))))
def qpl:=hull (qiu)
theorem q5w:qpl=qiu:=qa _
def q7d:SubB Tryz.prog (TIof Tryz.prog) 47 0 (kret [.t 2] decB):=jnB tabOk follows Tryz.f136 5271 (.r [(3,.g 2),(15,.g 2),(19,.g 2)] [.sel [0,3,46] []]) S103_ (qiu) (fun f v K=>f (v.s 0 0) (v.i 12 0) (v.i 16 0) (q5v (v.s 0 0) (v.i 12 0) K))
def qss (K:Ex->Env->Mem->Option Bool):=(fun(_:Unit)=>K (.exit 0) (qk []) (qh []))
def qfe (v0:LU)(v3:Int)(next:Int->Option Bool)(kx0:Unit->Option Bool):Option Bool:=
 (bif(decide (v3<(v0.length:Int)))then(oB (ixB v0 v3) fun c1=>(qpl v0 v3 (c1.toNat:Int) (fun v46q2=>(bif v46q2 then(some false)else(next (IntKind.i64.wrap (v3+1)))))))else(kx0 ()))
def qff (v0:LU)(kx0:Unit->Option Bool):Nat->Int->Option Bool
 |0=>(fun _=>none)
 |n+1=>(fun v3=>qfe v0 v3 (qff v0 kx0 n) kx0)
def qx1:=hull (qff)
theorem q5x:qx1=qff:=qa _
def q7e:SubB Tryz.prog (TIof Tryz.prog) 47 0 (kret [.t 2] decB):=lpB tabOk follows Tryz.f136 151 (.s (.s .z (.s .z (.v [.sel [] []]))) (.s (.b (.s .z (.s (.sub [.sel [0,3,4] []] q7d []) .z))) (.v [.sel [0,3] []]))) S99_ (qff) (fun f v K n=>f (v.s 0 0) (qss K) n) (fun v f K=>qfe (v.s 0 0) (v.i 12 0) f (qss K)) (fun f v=>f (v.i 12 0)) (fun k v=>(fun z0=>k (v.ui 12 0 z0)))
def qms (v0:LU):Option Bool:=
 (bif(v0==([42]:List UInt8))then(some true)else(bif((decide ((v0.length:Int)<1))||(decide ((v0.length:Int)>63)))then(some false)else(qx1 v0 (fun(_:Unit)=>(some true)) FU (0:Int))))
def qv9:=hull qms
theorem qbef:qv9=qms:=qa _
def qbgp {R:Type}:EntF Tryz.prog R:=entB (nt:=47) (dec:=decB) (enc:=AV.bool) tabOk follows Tryz.func136 [.t 2] hdeB (.s .z (.s .z (.s (.s (.r [(4,.g 3)] []) .z) (.s (.s .z (.b (.sub [.sel [0,3] []] q7e []))) .z)))) S69_ qms (fun f v=>f (v.s 0 0))
def S104_:Shp:=⟨[(0,.one (.l .s)),(4,.one (.own 0)),(5,.one (.l (.i .i64))),(6,.one (.l (.i .i64))),(7,.one (.l .s))],[.arr true 1]⟩
def S105_:Shp:=⟨[(0,.one (.l .s)),(4,.one (.own 0)),(5,.one (.l (.i .i64))),(6,.one (.l (.i .i64)))],[.arr true 1]⟩
def qmt:AV->Option ((List AV)×Bool):=decN [(.one (.fr true 1)),(.one .b)] fun z=>(aL (gC (tpL z) 0),aB (gC (tpL z) 1))
def q8t (v0:LU)(K:Ex->Env->Mem->Option ((List AV)×Bool)):=(fun z_v25=>K .norm (qk [(0,(.str v0)),(25,(.bool z_v25))]) (qh []))
def qko (v0:LU)(kn:Bool->Option ((List AV)×Bool)):Option ((List AV)×Bool):=
 (bif((decide ((v0.length:Int)<2))||(decide ((v0.length:Int)>254)))then(kn true)else(oB (ixB v0 (IntKind.i64.wrap ((v0.length:Int)-1))) fun c1=>(kn ((c1.toNat:Int) != (46:Int)))))
def q02:=hull (qko)
theorem q8u:q02=qko:=qa _
def qba8:SubB Tryz.prog (TIof Tryz.prog) 58 0 (kret [.t 2,.t 3] qmt):=jnB tabOk follows Tryz.f82 19 (.r [(4,.g 3)] [.sel [0,25] []]) S69_ (qko) (fun f v K=>f (v.s 0 0) (q8t (v.s 0 0) K))
def q8v (v0:LU)(v6:Int)(v7:LU)(a0:LA)(K:Ex->Env->Mem->Option ((List AV)×Bool)):=(fun z_v50=>K .norm (qk [(0,(.str v0)),(4,(.own 0 a0.length)),(6,(.int .i64 v6)),(7,(.str v7)),(50,(.bool z_v50))]) (qh [(some (.arr true 1 a0))]))
def qkp (v0:LU)(v5 v6:Int)(v7:LU)(a0:LA)(kn:Bool->Option ((List AV)×Bool)):Option ((List AV)×Bool):=
 (oB (qv9 v7) fun r1=>(bif(!r1)then(kn true)else(bif(v7==([42]:List UInt8))then(kn (decide (v5>0)))else(kn false))))
def q03:=hull (qkp)
theorem q8w:q03=qkp:=qa _
def qba9:SubB Tryz.prog (TIof Tryz.prog) 58 0 (kret [.t 2,.t 3] qmt):=jnB tabOk follows Tryz.f82 78431 (.r [(1,.c qbgp.b)] [.sel [0,4,6,7,50] [0]]) S104_ (qkp) (fun f v K=>f (v.s 0 0) (v.i 20 0) (v.i 24 0) (v.s 28 0) (v.r 0) (q8v (v.s 0 0) (v.i 24 0) (v.s 28 0) (v.r 0) K))
def qu7 (K:Ex->Env->Mem->Option ((List AV)×Bool)):=(fun z_a0=>K (.exit 0) (qk [(4,(.own 0 z_a0.length))]) (qh [(some (.arr true 1 z_a0))]))
def qgr (v0:LU)(v5 v6:Int)(a0:LA)(next:Int->Int->(List AV)->Option ((List AV)×Bool))(kx0:(List AV)->Option ((List AV)×Bool)):Option ((List AV)×Bool):=
 (bif(decide (v6<(v0.length:Int)))then(oB (ixB v0 v6) fun c1=>(bif((c1.toNat:Int) != (46:Int))then(next v5 (IntKind.i64.wrap (v6+1)) a0)else(oB (cutI v0 (some v5) (some v6)) fun s2=>(bif(hd a0 (a0.length)&&true)then(q03 v0 v5 v6 s2 a0 (fun v50q3=>(bif v50q3 then(bif hd ([]:List AV) (([]:List AV).length)then(some (([]:List AV),false))else none)else(bif hd a0 a0.length then(bif hd ([(.str s2)]:List AV) (([(.str s2)]:List AV).length)then(bif decide ((a0.length+([(.str s2)]:List AV).length)*16<=140737488355328)then(next (IntKind.i64.wrap (v6+1)) (IntKind.i64.wrap (v6+1)) (a0++([(.str s2)]:List AV)))else none)else none)else none))))else none))))else(kx0 a0))
def qgs (v0:LU)(kx0:(List AV)->Option ((List AV)×Bool)):Nat->Int->Int->(List AV)->Option ((List AV)×Bool)
 |0=>(fun _ _ _=>none)
 |n+1=>(fun v5 v6 a0=>qgr v0 v5 v6 a0 (qgs v0 kx0 n) kx0)
def qst:=hull (qgs)
theorem q8x:qst=qgs:=qa _
def qbba:SubB Tryz.prog (TIof Tryz.prog) 58 0 (kret [.t 2,.t 3] qmt):=lpB tabOk follows Tryz.f82 607 (.s (.s .z (.s .z (.v [.sel [4] [0]]))) (.s (.b (.s .z (.s .z (.s (.s (.sub [.sel [0,4,5,6,7] [0]] qba9 []) (.s (.s .z (.v [.own 2 1])) .z)) .z)))) (.v [.sel [0,4,5,6] [0]]))) S105_ (qgs) (fun f v K n=>f (v.s 0 0) (qu7 K) n) (fun v f K=>qgr (v.s 0 0) (v.i 20 0) (v.i 24 0) (v.r 0) f (qu7 K)) (fun f v=>f (v.i 20 0) (v.i 24 0) (v.r 0)) (fun k v=>(fun z0 z1 z2=>k (((v.ui 20 0 z0).ui 24 0 z1).ur 0 z2)))
def qpm (v0:LU):Option ((List AV)×Bool):=
 (bif(v0==([46]:List UInt8))then(bif hd ([]:List AV) (([]:List AV).length)then(some (([]:List AV),true))else none)else(q02 v0 (fun v25q1=>(bif v25q1 then(bif hd ([]:List AV) (([]:List AV).length)then(some (([]:List AV),false))else none)else(bif(hd ([]:List AV) (([]:List AV).length)&&true)then(qst v0 (fun a0q2=>(bif hd a0q2 a0q2.length then(some (a0q2,true))else none)) FU (0:Int) (0:Int) ([]:List AV))else none)))))
def qfu:=hull qpm
theorem qbkh:qfu=qpm:=qa _
def qil {R:Type}:EntF Tryz.prog R:=entB (nt:=58) (dec:=qmt) (enc:=(fun r=>.tup [.fr true 1 r.1,.bool r.2])) tabOk follows Tryz.func82 [.t 2,.t 3] (hdeN fun _=>rfl) (.s .z (.s (.s .z (.s (.s .z (.v [.own 2 1])) .z)) (.s (.s (.sub [.sel [0] []] qba8 []) (.s (.s .z (.v [.own 2 1])) .z)) (.s .z (.s .z (.s (.s .z (.b (.sub [.own 4 1,.sel [0,4,5,6] [0]] qbba []))) .z)))))) S69_ qpm (fun f v=>f (v.s 0 0))
def qpn (v0:LU):Option Bool:=
 (oB (qfu v0) fun r1=>(some r1.2))
def qoj:=hull qpn
theorem qbki:qoj=qpn:=qa _
def qwa {R:Type}:EntF Tryz.prog R:=entB (nt:=11) (dec:=decB) (enc:=AV.bool) tabOk follows Tryz.func30 [.t 2] hdeB (.s .z (.s (.r [(1,.k qil.b)] []) .z)) S69_ qpn (fun f v=>f (v.s 0 0))
def qn3 (v0:LU):Option (List AV):=
 (oB (qfu v0) fun r1=>(some r1.1))
def qx2:=hull qn3
theorem qbgq:qx2=qn3:=qa _
def qbkj {R:Type}:EntF Tryz.prog R:=entB (nt:=11) (dec:=(decX (.one (.sl 1)) fun z=>aL z)) (enc:=(fun r=>.sl 1 r)) tabOk follows Tryz.func135 [.t 2] (hdeX fun _=>rfl) (.s .z (.s (.r [(1,.k qil.b)] []) .z)) S69_ qn3 (fun f v=>f (v.s 0 0))
def qmu (v0:LU):Option Bool:=
 (oB (qx2 v0) fun r1=>(bif(decide ((r1.length:Int)>0))then(oB (ixB r1 (0:Int)) fun y2=>(bif fitC [.s] y2.cells then(some ((gS y2.cells 0)==([42]:List UInt8)))else none))else(some false)))
def qwb:=hull qmu
theorem qbeg:qwb=qmu:=qa _
def qbgr {R:Type}:EntF Tryz.prog R:=entB (nt:=15) (dec:=decB) (enc:=AV.bool) tabOk follows Tryz.func79 [.t 2] hdeB (.s .z (.s (.r [(1,.k qbkj.b)] []) (.s (.r [(5,.p (.etac 11 [.s]))] []) .z))) S69_ qmu (fun f v=>f (v.s 0 0))
def qry (v0 v1:LU):Option Int:=
 (bif(Op.bytesLess v0 v1)then(some (-1:Int))else(bif(!(Op.bytesLess v0 v1||v0==v1))then(some (1:Int))else(some (0:Int))))
def qvz:=hull qry
theorem qbmm:qvz=qry:=qa _
def q6d {R:Type}:EntF Tryz.prog R:=entB (nt:=11) (dec:=(decI .i64)) (enc:=(AV.int .i64)) tabOk follows Tryz.func83 [.t 4] hdeI (.z) S62_ qry (fun f v=>f (v.s 0 0) (v.s 4 0))
def S106_:Shp:=⟨[(0,.one (.l (.sl 1))),(1,.one (.l (.sl 1))),(5,.one (.l (.i .i64)))],[]⟩
def S107_:Shp:=⟨[(0,.one (.l (.sl 1))),(1,.one (.l (.sl 1)))],[]⟩
def qbeh (v0 v1:LA)(v5:Int)(K:Ex->Env->Mem->Option Int):=(fun z_v34=>K .norm (qk [(0,(.sl 1 v0)),(1,(.sl 1 v1)),(5,(.int .i64 v5)),(34,(.bool z_v34))]) (qh []))
def qmv (v0 v1:LA)(v5:Int)(kn:Bool->Option Int):Option Int:=
 (bif(decide (v5<(v0.length:Int)))then(bif(decide (v5<(v1.length:Int)))then(oB (ixB v0 (IntKind.i64.wrap ((IntKind.i64.wrap ((v0.length:Int)-1))-v5))) fun y1=>(bif fitC [.s] y1.cells then(oB (ixB v1 (IntKind.i64.wrap ((IntKind.i64.wrap ((v1.length:Int)-1))-v5))) fun y2=>(bif fitC [.s] y2.cells then(kn ((gS y1.cells 0)==(gS y2.cells 0)))else none))else none))else(kn false))else(kn false))
def q4f:=hull (qmv)
theorem qbei:q4f=qmv:=qa _
def qbgs:SubB Tryz.prog (TIof Tryz.prog) 38 0 (kret [.t 4] (decI .i64)):=jnB tabOk follows Tryz.f84 131 (.d [] [(17,.e 23 [.s]),(25,.e 31 [.s])] [] [.sel [0,1,5,34] []]) S106_ (qmv) (fun f v K=>f (v.l 0 0) (v.l 4 0) (v.i 20 0) (qbeh (v.l 0 0) (v.l 4 0) (v.i 20 0) K))
def qx3 (K:Ex->Env->Mem->Option Int):=(fun z_v5=>K (.exit 0) (qk [(5,(.int .i64 z_v5))]) (qh []))
def qmw (v0 v1:LA)(v5:Int)(next:Int->Option Int)(kx0:Int->Option Int):Option Int:=
 (q4f v0 v1 v5 (fun v34q1=>(bif v34q1 then(next (IntKind.i64.wrap (v5+1)))else(kx0 v5))))
def qfv (v0 v1:LA)(kx0:Int->Option Int):Nat->Int->Option Int
 |0=>(fun _=>none)
 |n+1=>(fun v5=>qmw v0 v1 v5 (qfv v0 v1 kx0 n) kx0)
def q4g:=hull (qfv)
theorem qbej:q4g=qfv:=qa _
def qbgt:SubB Tryz.prog (TIof Tryz.prog) 38 0 (kret [.t 4] (decI .i64)):=lpB tabOk follows Tryz.f84 35 (.s (.s (.sub [.sel [0,1,5] []] qbgs []) (.s .z (.v [.sel [5] []]))) (.b (.v [.sel [0,1,5] []]))) S106_ (qfv) (fun f v K n=>f (v.l 0 0) (v.l 4 0) (qx3 K) n) (fun v f K=>qmw (v.l 0 0) (v.l 4 0) (v.i 20 0) f (qx3 K)) (fun f v=>f (v.i 20 0)) (fun k v=>(fun z0=>k (v.ui 20 0 z0)))
def qrz (v0 v1:LA):Option Int:=
 (q4g v0 v1 (fun v5q1=>(some v5q1)) FU (0:Int))
def qqk:=hull qrz
theorem qbmn:qqk=qrz:=qa _
def q6e {R:Type}:EntF Tryz.prog R:=entB (nt:=38) (dec:=(decI .i64)) (enc:=(AV.int .i64)) tabOk follows Tryz.func84 [.t 4] hdeI (.s .z (.s .z (.s (.b (.sub [.sel [0,1,5] []] qbgt [])) .z))) S107_ qrz (fun f v=>f (v.l 0 0) (v.l 4 0))
def qmx (v0 v1:LU):Option Int:=
 (oB (qfu v0) fun r1=>(oB (qfu v1) fun r2=>(bif((!r1.2)||(!r2.2))then(bif r1.2 then(some (-1:Int))else(bif r2.2 then(some (1:Int))else(oB (qvz v0 v1) fun r3=>(some r3))))else(oB (qqk r1.1 r2.1) fun r4=>(bif((decide (r4<(r1.1.length:Int)))&&(decide (r4<(r2.1.length:Int))))then(oB (ixB r1.1 (IntKind.i64.wrap ((IntKind.i64.wrap ((r1.1.length:Int)-1))-r4))) fun y5=>(bif fitC [.s] y5.cells then(oB (ixB r2.1 (IntKind.i64.wrap ((IntKind.i64.wrap ((r2.1.length:Int)-1))-r4))) fun y6=>(bif fitC [.s] y6.cells then(oB (qvz (gS y5.cells 0) (gS y6.cells 0)) fun r7=>(some r7))else none))else none))else(bif(decide ((r1.1.length:Int)<(r2.1.length:Int)))then(some (-1:Int))else(bif(decide ((r1.1.length:Int)>(r2.1.length:Int)))then(some (1:Int))else(some (0:Int)))))))))
def qpo:=hull qmx
theorem qbek:qpo=qmx:=qa _
def q04 {R:Type}:EntF Tryz.prog R:=entB (nt:=71) (dec:=(decI .i64)) (enc:=(AV.int .i64)) tabOk follows Tryz.func31 [.t 4] hdeI (.s .z (.s (.r [(1,.k qil.b)] []) (.s (.r [(1,.k qil.b)] []) (.s (.s (.r [(3,.g 2)] []) (.s (.s .z (.s .z (.s (.r [(2,.c q6d.b)] []) .z))) .z)) (.s (.r [(2,.c q6e.b)] []) (.s (.s (.r [(5,.g 4)] []) (.s (.s (.d [] [(6,.e 50 [.s]),(14,.e 58 [.s])] [(0,.c q6d.b)] []) .z) .z)) .z)))))) S62_ qmx (fun f v=>f (v.s 0 0) (v.s 4 0))
def qn4 (Aa:LU)(Ab:Bool)(Ac Bt Bu:Int)(B7:LU)(B8:Bool)(B9 Ca Cb:Int):Option Bool:=
 (oB (qph Ab Ac Bt B8 B9 Ca) fun r1=>(bif(decide (r1<0))then(some true)else(bif(r1==0)then(oB (qpo Aa B7) fun r2=>(some (decide (r2<0))))else(some false))))
def qr0:=hull qn4
theorem qbgu:qr0=qn4:=qa _
def q2u {R:Type}:EntF Tryz.prog R:=entB (nt:=25) (dec:=decB) (enc:=AV.bool) tabOk follows Tryz.func81 [.t 4] hdeB (.s .z (.s (.r [(4,.c q0x.b)] []) (.s (.r [(10,.c q04.b)] []) .z))) S75_ qn4 (fun f v=>f (v.s 1 0) (v.b 1 1) (v.i 1 2) (v.i 1 3) (v.i 1 4) (v.s 5 0) (v.b 5 1) (v.i 5 2) (v.i 5 3) (v.i 5 4))
def S108_:Shp:=⟨[(0,.one (.l (.sl 5))),(3,.one (.l (.i .i64))),(4,.one (.ptr 0 0))],[.box true (lk qj)]⟩
def S109_:Shp:=⟨[(0,.one (.l (.sl 5))),(3,.one (.l (.i .i64)))],[]⟩
def q8y (v0:LA)(v3:Int)(Av:LU)(Aw:Bool)(Ax Ay Az:Int)(K:Ex->Env->Mem->Option Int):=(fun z_v26=>K .norm (qk [(0,(.sl 5 v0)),(3,(.int .i64 v3)),(4,(.ptr 0 0)),(26,(.bool z_v26))]) (qh [(some (.box true (qfl Av Aw Ax Ay Az)))]))
def qkq (v0:LA)(v3:Int)(Av:LU)(Aw:Bool)(Ax Ay Az:Int)(kn:Bool->Option Int):Option Int:=
 (oB (qoj Av) fun r1=>(bif(!r1)then(kn true)else(oB (qwb Av) fun r2=>(kn r2))))
def qsu:=hull (qkq)
theorem q8z:qsu=qkq:=qa _
def qbbb:SubB Tryz.prog (TIof Tryz.prog) 74 0 (kret [.t 2] (decI .i64)):=jnB tabOk follows Tryz.f29 4683 (.r [(2,.c qwa.b),(7,.c qbgr.b)] [.sel [0,3,4,26] [0]]) S108_ (qkq) (fun f v K=>f (v.l 0 0) (v.i 12 0) (v.s 3 0) (v.b 3 1) (v.i 3 2) (v.i 3 3) (v.i 3 4) (q8y (v.l 0 0) (v.i 12 0) (v.s 3 0) (v.b 3 1) (v.i 3 2) (v.i 3 3) (v.i 3 4) K))
def q80 (v0:LA)(v3:Int)(Av:LU)(Aw:Bool)(Ax Ay Az:Int)(K:Ex->Env->Mem->Option Int):=(fun z_v49=>K .norm (qk [(0,(.sl 5 v0)),(3,(.int .i64 v3)),(4,(.ptr 0 0)),(49,(.bool z_v49))]) (qh [(some (.box true (qfl Av Aw Ax Ay Az)))]))
def qkr (v0:LA)(v3:Int)(Av:LU)(Aw:Bool)(Ax Ay Az:Int)(kn:Bool->Option Int):Option Int:=
 (bif(decide (v3>0))then(oB (ixB v0 (IntKind.i64.wrap (v3-1))) fun y1=>(bif fitC qj y1.cells then(oB (qr0 Av Aw Ax Ay Az (gS y1.cells 0) (gB y1.cells 1) (gI y1.cells 2) (gI y1.cells 3) (gI y1.cells 4)) fun r2=>(kn r2))else none))else(kn false))
def qsv:=hull (qkr)
theorem q81:qsv=qkr:=qa _
def qbbc:SubB Tryz.prog (TIof Tryz.prog) 74 0 (kret [.t 2] (decI .i64)):=jnB tabOk follows Tryz.f29 40523 (.d [] [(7,.e 46 qj)] [(0,.c q2u.b)] [.sel [0,3,4,49] [0]]) S108_ (qkr) (fun f v K=>f (v.l 0 0) (v.i 12 0) (v.s 3 0) (v.b 3 1) (v.i 3 2) (v.i 3 3) (v.i 3 4) (q80 (v.l 0 0) (v.i 12 0) (v.s 3 0) (v.b 3 1) (v.i 3 2) (v.i 3 3) (v.i 3 4) K))
def q82 (v0:LA)(v3:Int)(K:Ex->Env->Mem->Option Int):=(fun z_v73=>K .norm (qk [(0,(.sl 5 v0)),(3,(.int .i64 v3)),(73,(.bool z_v73))]) (qh []))
def qks (v0:LA)(v3:Int)(Av:LU)(Aw:Bool)(Ax Ay Az:Int)(kn:Bool->Option Int):Option Int:=
 (bif(decide (v3>0))then(oB (ixB v0 (IntKind.i64.wrap (v3-1))) fun y1=>(bif fitC qj y1.cells then(bif(Av==(gS y1.cells 0))then(oB (ixB v0 (IntKind.i64.wrap (v3-1))) fun y2=>(bif fitC qj y2.cells then(kn ((Aw==(gB y2.cells 1))&&((Ax==(gI y2.cells 2))&&((Ay==(gI y2.cells 3))&&true))))else none))else(kn false))else none))else(kn false))
def qsw:=hull (qks)
theorem q83:qsw=qks:=qa _
def qbbd:SubB Tryz.prog (TIof Tryz.prog) 74 0 (kret [.t 2] (decI .i64)):=jnB tabOk follows Tryz.f29 48715 (.d [] [(8,.e 58 qj),(19,.e 69 qj)] [] [.sel [0,3,73] []]) S108_ (qks) (fun f v K=>f (v.l 0 0) (v.i 12 0) (v.s 3 0) (v.b 3 1) (v.i 3 2) (v.i 3 3) (v.i 3 4) (q82 (v.l 0 0) (v.i 12 0) K))
def qu8 (K:Ex->Env->Mem->Option Int):=(fun(_:Unit)=>K (.exit 0) (qk []) (qh []))
def qgt (v0:LA)(v3:Int)(next:Int->Option Int)(kx0:Unit->Option Int):Option Int:=
 (bif(decide (v3<(v0.length:Int)))then(oB (ixB v0 v3) fun y1=>(bif fitC qj y1.cells then(qsu v0 v3 (gS y1.cells 0) (gB y1.cells 1) (gI y1.cells 2) (gI y1.cells 3) (gI y1.cells 4) (fun v26q2=>(bif v26q2 then(some (2:Int))else(oB (qk8 (gB y1.cells 1) (gI y1.cells 2) (gI y1.cells 3)) fun r3=>(bif(!r3)then(some (3:Int))else(bif((decide ((gI y1.cells 4)<0))||(decide ((gI y1.cells 4)>2147483647)))then(some (1:Int))else(qsv v0 v3 (gS y1.cells 0) (gB y1.cells 1) (gI y1.cells 2) (gI y1.cells 3) (gI y1.cells 4) (fun v49q4=>(bif v49q4 then(some (7:Int))else(qsw v0 v3 (gS y1.cells 0) (gB y1.cells 1) (gI y1.cells 2) (gI y1.cells 3) (gI y1.cells 4) (fun v73q5=>(bif v73q5 then(some (12:Int))else(next (IntKind.i64.wrap (v3+1)))))))))))))))else none))else(kx0 ()))
def qgu (v0:LA)(kx0:Unit->Option Int):Nat->Int->Option Int
 |0=>(fun _=>none)
 |n+1=>(fun v3=>qgt v0 v3 (qgu v0 kx0 n) kx0)
def q05:=hull (qgu)
theorem q84:q05=qgu:=qa _
def qbbe:SubB Tryz.prog (TIof Tryz.prog) 74 0 (kret [.t 2] (decI .i64)):=lpB tabOk follows Tryz.f29 75 (.s (.s .z (.s .z (.v [.sel [] []]))) (.s (.b (.s (.r [(2,.p (.etac 16 qj))] []) (.s (.s (.sub [.sel [0,3,4] [0]] qbbb []) .z) (.s (.s (.r [(2,.c qpe.b)] []) .z) (.s (.s (.r [(4,.g 3)] []) .z) (.s (.s (.sub [.sel [0,3,4] [0]] qbbc []) .z) (.s (.sub [.sel [0,3,4] [0]] qbbd []) .z))))))) (.v [.sel [0,3] []]))) S109_ (qgu) (fun f v K n=>f (v.l 0 0) (qu8 K) n) (fun v f K=>qgt (v.l 0 0) (v.i 12 0) f (qu8 K)) (fun f v=>f (v.i 12 0)) (fun k v=>(fun z0=>k (v.ui 12 0 z0)))
def qpp (v0:LA):Option Int:=
 (bif(decide ((v0.length:Int)>256))then(some (9:Int))else(q05 v0 (fun(_:Unit)=>(some (0:Int))) FU (0:Int)))
def qty:=hull qpp
theorem qbkk:qty=qpp:=qa _
def q4h {R:Type}:EntF Tryz.prog R:=entB (nt:=74) (dec:=(decI .i64)) (enc:=(AV.int .i64)) tabOk follows Tryz.func29 [.t 2] hdeI (.s .z (.s .z (.s (.s .z (.b (.sub [.sel [0,3] []] qbbe []))) .z))) S77_ qpp (fun f v=>f (v.l 0 0))
def S110_:Shp:=⟨[(0,.one (.l (.sl 8))),(3,.one (.ptr 0 0)),(4,.one (.ptr 1 0)),(6,.one (.l (.i .i64))),(7,.one (.l (.i .i64)))],[.box true (lk qd1),.box true (lk qb)]⟩
def qq6:AV->Option (AV×Bool):=decN [(.st [.b,(.i .u64),(.i .u64),(.i .i64),(.i .i64),.s,.s,(.i .i64)]),(.one .b)] fun z=>((gC (tpL z) 0),aB (gC (tpL z) 1))
def q7f (v0:LA)(v6 v7:Int)(Av:Bool)(Aw Ax:Int)(Ad:Bool)(Ae Af Ag Ah:Int)(Ai Aj:LU)(Ak:Int)(K:Ex->Env->Mem->Option (AV×Bool)):=(fun z_v39=>K .norm (qk [(0,(.sl 8 v0)),(3,(.ptr 0 0)),(4,(.ptr 1 0)),(6,(.int .i64 v6)),(7,(.int .i64 v7)),(39,(.bool z_v39))]) (qh [(some (.box true (qhe Av Aw Ax))),(some (.box true (qn Ad Ae Af Ag Ah Ai Aj Ak)))]))
def qjq (v0:LA)(v6 v7:Int)(Av:Bool)(Aw Ax:Int)(Ad:Bool)(Ae Af Ag Ah:Int)(Ai Aj:LU)(Ak:Int)(kn:Bool->Option (AV×Bool)):Option (AV×Bool):=
 (oB (ixB v0 v7) fun y1=>(bif fitC qb y1.cells then(oB (qn0 (gB y1.cells 0) (gI y1.cells 1) (gI y1.cells 2) (gI y1.cells 3) Av Aw Ax) fun r2=>(bif r2 then(bif(decide (v6<0))then(kn true)else(oB (ixB v0 v7) fun y3=>(bif fitC qb y3.cells then(oB (ixB v0 v6) fun y4=>(bif fitC qb y4.cells then(kn (decide ((gI y3.cells 3)>(gI y4.cells 3))))else none))else none)))else(kn false)))else none))
def qy4:=hull (qjq)
theorem q7g:qy4=qjq:=qa _
def q85:SubB Tryz.prog (TIof Tryz.prog) 48 0 (kret [(.cell 4 true 8),.t 5] qq6):=jnB tabOk follows Tryz.f85 1099 (.d [] [(2,.e 16 qb),(6,.c qy3.b),(13,.e 27 qb),(19,.e 33 qb)] [] [.sel [0,3,4,6,7,39] [0,1]]) S110_ (qjq) (fun f v K=>f (v.l 0 0) (v.i 24 0) (v.i 28 0) (v.b 3 0) (v.i 3 1) (v.i 3 2) (v.b 7 0) (v.i 7 1) (v.i 7 2) (v.i 7 3) (v.i 7 4) (v.s 7 5) (v.s 7 6) (v.i 7 7) (q7f (v.l 0 0) (v.i 24 0) (v.i 28 0) (v.b 3 0) (v.i 3 1) (v.i 3 2) (v.b 7 0) (v.i 7 1) (v.i 7 2) (v.i 7 3) (v.i 7 4) (v.s 7 5) (v.s 7 6) (v.i 7 7) K))
def qu9 (v0:LA)(Ad:Bool)(Ae Af Ag Ah:Int)(Ai Aj:LU)(Ak:Int)(K:Ex->Env->Mem->Option (AV×Bool)):=(fun z_v6=>K (.exit 0) (qk [(0,(.sl 8 v0)),(4,(.ptr 0 0)),(6,(.int .i64 z_v6))]) (qh [(some (.box true (qn Ad Ae Af Ag Ah Ai Aj Ak)))]))
def qgv (v0:LA)(v6 v7:Int)(Av:Bool)(Aw Ax:Int)(Ad:Bool)(Ae Af Ag Ah:Int)(Ai Aj:LU)(Ak:Int)(next:Int->Int->Option (AV×Bool))(kx0:Int->Option (AV×Bool)):Option (AV×Bool):=
 (bif(decide (v7<(v0.length:Int)))then(qy4 v0 v6 v7 Av Aw Ax Ad Ae Af Ag Ah Ai Aj Ak (fun v39q1=>(bif v39q1 then(next v7 (IntKind.i64.wrap (v7+1)))else(next v6 (IntKind.i64.wrap (v7+1))))))else(kx0 v6))
def qez (v0:LA)(Av:Bool)(Aw Ax:Int)(Ad:Bool)(Ae Af Ag Ah:Int)(Ai Aj:LU)(Ak:Int)(kx0:Int->Option (AV×Bool)):Nat->Int->Int->Option (AV×Bool)
 |0=>(fun _ _=>none)
 |n+1=>(fun v6 v7=>qgv v0 v6 v7 Av Aw Ax Ad Ae Af Ag Ah Ai Aj Ak (qez v0 Av Aw Ax Ad Ae Af Ag Ah Ai Aj Ak kx0 n) kx0)
def q06:=hull (qez)
theorem q86:q06=qez:=qa _
def qbbf:SubB Tryz.prog (TIof Tryz.prog) 48 0 (kret [(.cell 4 true 8),.t 5] qq6):=lpB tabOk follows Tryz.f85 75 (.s (.s .z (.s .z (.v [.sel [0,4,6] [1]]))) (.s (.b (.s (.sub [.sel [0,3,4,6,7] [0,1]] q85 []) .z)) (.v [.sel [0,3,4,6,7] [0,1]]))) S110_ (qez) (fun f v K n=>f (v.l 0 0) (v.b 3 0) (v.i 3 1) (v.i 3 2) (v.b 7 0) (v.i 7 1) (v.i 7 2) (v.i 7 3) (v.i 7 4) (v.s 7 5) (v.s 7 6) (v.i 7 7) (qu9 (v.l 0 0) (v.b 7 0) (v.i 7 1) (v.i 7 2) (v.i 7 3) (v.i 7 4) (v.s 7 5) (v.s 7 6) (v.i 7 7) K) n) (fun v f K=>qgv (v.l 0 0) (v.i 24 0) (v.i 28 0) (v.b 3 0) (v.i 3 1) (v.i 3 2) (v.b 7 0) (v.i 7 1) (v.i 7 2) (v.i 7 3) (v.i 7 4) (v.s 7 5) (v.s 7 6) (v.i 7 7) f (qu9 (v.l 0 0) (v.b 7 0) (v.i 7 1) (v.i 7 2) (v.i 7 3) (v.i 7 4) (v.s 7 5) (v.s 7 6) (v.i 7 7) K)) (fun f v=>f (v.i 24 0) (v.i 28 0)) (fun k v=>(fun z0 z1=>k ((v.ui 24 0 z0).ui 28 0 z1)))
def qn5 (v0:LA)(B7:Bool)(B8 B9:Int):Option (AV×Bool):=
 (q06 v0 B7 B8 B9 false (0:Int) (0:Int) (0:Int) (0:Int) ([]:List UInt8) ([]:List UInt8) (0:Int) (fun v6q1=>(bif(decide (v6q1<0))then(some ((.agg [(.bool false),(.int .u64 (0:Int)),(.int .u64 (0:Int)),(.int .i64 (0:Int)),(.int .i64 (0:Int)),(.str ([]:List UInt8)),(.str ([]:List UInt8)),(.int .i64 (0:Int))]),false))else(oB (ixB v0 v6q1) fun y2=>(bif fitC qb y2.cells then(some ((.agg [(.bool (gB y2.cells 0)),(.int .u64 (gI y2.cells 1)),(.int .u64 (gI y2.cells 2)),(.int .i64 (gI y2.cells 3)),(.int .i64 (gI y2.cells 4)),(.str (gS y2.cells 5)),(.str (gS y2.cells 6)),(.int .i64 (gI y2.cells 7))]),true))else none)))) FU (-1:Int) (0:Int))
def qx4:=hull qn5
theorem qbgv:qx4=qn5:=qa _
def qbkl {R:Type}:EntF Tryz.prog R:=entB (nt:=48) (dec:=qq6) (enc:=(fun r=>.tup [qck (.st [.b,(.i .u64),(.i .u64),(.i .i64),(.i .i64),.s,.s,(.i .i64)]) r.1,.bool r.2])) tabOk follows Tryz.func85 [(.cell 4 true 8),.t 5] (hdeN fun _=>rfl) (.s .z (.s .z (.s (.s .z (.b (.sub [.sel [0,3,4,6,7] [0,1]] qbbf []))) (.s .z (.s (.r [(2,.p (.etac 46 qb))] []) .z))))) S39_ qn5 (fun f v=>f (v.l 0 0) (v.b 5 0) (v.i 5 1) (v.i 5 2))
def qmy (v0:LA)(B7:Bool)(B8 B9:Int):Option Bool:=
 (oB (qx4 v0 B7 B8 B9) fun r1=>(bif r1.2 then(bif((gI r1.1.cells 4)==2)then(some true)else(some ((gI r1.1.cells 4)==3)))else(some false)))
def qlc:=hull qmy
theorem qbel:qlc=qmy:=qa _
def qsx {R:Type}:EntF Tryz.prog R:=entB (nt:=24) (dec:=decB) (enc:=AV.bool) tabOk follows Tryz.func32 [.t 4] hdeB (.s .z (.s (.r [(2,.c qbkl.b)] []) .z)) S39_ qmy (fun f v=>f (v.l 0 0) (v.b 5 0) (v.i 5 1) (v.i 5 2))
def qpq (v0 v1:LU):Option Bool:=
 (oB (qfu v0) fun r1=>(oB (qfu v1) fun r2=>(bif(r1.2&&r2.2)then(oB (qqk r1.1 r2.1) fun r3=>(some (r3==(r2.1.length:Int))))else(some false))))
def qzp:=hull qpq
theorem qbkm:qzp=qpq:=qa _
def qbmo {R:Type}:EntF Tryz.prog R:=entB (nt:=31) (dec:=decB) (enc:=AV.bool) tabOk follows Tryz.func86 [.t 4] hdeB (.s .z (.s (.r [(1,.k qil.b)] []) (.s (.r [(1,.k qil.b)] []) (.s (.r [(2,.g 1),(7,.c q6e.b)] []) .z)))) S62_ qpq (fun f v=>f (v.s 0 0) (v.s 4 0))
def S111_:Shp:=⟨[(0,.one (.l (.sl 1))),(1,.one (.l .s)),(5,.one (.l (.i .i64)))],[]⟩
def qwt (K:Ex->Env->Mem->Option Bool):=(fun(_:Unit)=>K (.exit 0) (qk []) (qh []))
def qhz (v0:LA)(v1:LU)(v5:Int)(next:Int->Option Bool)(kx0:Unit->Option Bool):Option Bool:=
 (bif(decide (v5<(v0.length:Int)))then(oB (ixB v0 v5) fun y1=>(bif fitC [.s] y1.cells then(oB (qzp v1 (gS y1.cells 0)) fun r2=>(bif r2 then(some true)else(next (IntKind.i64.wrap (v5+1)))))else none))else(kx0 ()))
def qh0 (v0:LA)(v1:LU)(kx0:Unit->Option Bool):Nat->Int->Option Bool
 |0=>(fun _=>none)
 |n+1=>(fun v5=>qhz v0 v1 v5 (qh0 v0 v1 kx0 n) kx0)
def q2v:=hull (qh0)
theorem qbbg:q2v=qh0:=qa _
def qbem:SubB Tryz.prog (TIof Tryz.prog) 18 0 (kret [.t 4] decB):=lpB tabOk follows Tryz.f33 37 (.s (.s .z (.s .z (.v [.sel [] []]))) (.s (.b (.s (.r [(3,.p (.etac 15 [.s])),(5,.c qbmo.b)] []) .z)) (.v [.sel [0,1,5] []]))) S111_ (qh0) (fun f v K n=>f (v.l 0 0) (v.s 4 0) (qwt K) n) (fun v f K=>qhz (v.l 0 0) (v.s 4 0) (v.i 20 0) f (qwt K)) (fun f v=>f (v.i 20 0)) (fun k v=>(fun z0=>k (v.ui 20 0 z0)))
def qpr (v0:LA)(v1:LU):Option Bool:=
 (q2v v0 v1 (fun(_:Unit)=>(some false)) FU (0:Int))
def qok:=hull qpr
theorem qbkn:qok=qpr:=qa _
def qwc {R:Type}:EntF Tryz.prog R:=entB (nt:=18) (dec:=decB) (enc:=AV.bool) tabOk follows Tryz.func33 [.t 4] hdeB (.s .z (.s (.s .z (.b (.sub [.sel [0,1,5] []] qbem []))) .z)) S84_ qpr (fun f v=>f (v.l 0 0) (v.s 4 0))
def S112_:Shp:=⟨[(1,.one (.ptr 0 0)),(5,.one (.l (.i .i64)))],[.box true (lk qbs)]⟩
def S113_:Shp:=⟨[(1,.one (.ptr 0 0)),(6,.one (.l (.i .i64)))],[.box true (lk qbs)]⟩
def q87 (v5:Int)(Av Aw Ax:LA)(K:Ex->Env->Mem->Option Int):=(fun z_v55=>K .norm (qk [(1,(.ptr 0 0)),(5,(.int .i64 v5)),(55,(.bool z_v55))]) (qh [(some (.box true (qbo Av Aw Ax)))]))
def qkt (v5:Int)(Av Aw Ax:LA)(kn:Bool->Option Int):Option Int:=
 (oB (ixB Ax v5) fun y1=>(bif fitC [.s] y1.cells then(oB (qoj (gS y1.cells 0)) fun r2=>(bif(!r2)then(kn true)else(bif(decide (v5>0))then(oB (ixB Ax (IntKind.i64.wrap (v5-1))) fun y3=>(bif fitC [.s] y3.cells then(oB (ixB Ax v5) fun y4=>(bif fitC [.s] y4.cells then(oB (qpo (gS y3.cells 0) (gS y4.cells 0)) fun r5=>(kn (decide (r5>=0))))else none))else none))else(kn false))))else none))
def qsy:=hull (qkt)
theorem q88:qsy=qkt:=qa _
def qbbh:SubB Tryz.prog (TIof Tryz.prog) 83 0 (kret [.t 2] (decI .i64)):=jnB tabOk follows Tryz.f12 4399 (.d [] [(3,.e 33 [.s]),(5,.c qwa.b),(15,.e 45 [.s]),(20,.e 50 [.s])] [(0,.c q04.b)] [.sel [1,5,55] [0]]) S112_ (qkt) (fun f v K=>f (v.i 20 0) (v.l 3 0) (v.l 3 1) (v.l 3 2) (q87 (v.i 20 0) (v.l 3 0) (v.l 3 1) (v.l 3 2) K))
def qva (Av Aw Ax:LA)(K:Ex->Env->Mem->Option Int):=(fun(_:Unit)=>K (.exit 0) (qk [(1,(.ptr 0 0))]) (qh [(some (.box true (qbo Av Aw Ax)))]))
def qgw (v5:Int)(Av Aw Ax:LA)(next:Int->Option Int)(kx0:Unit->Option Int):Option Int:=
 (bif(decide (v5<(Ax.length:Int)))then(qsy v5 Av Aw Ax (fun v55q1=>(bif v55q1 then(some (2:Int))else(next (IntKind.i64.wrap (v5+1))))))else(kx0 ()))
def qgx (Av Aw Ax:LA)(kx0:Unit->Option Int):Nat->Int->Option Int
 |0=>(fun _=>none)
 |n+1=>(fun v5=>qgw v5 Av Aw Ax (qgx Av Aw Ax kx0 n) kx0)
def q07:=hull (qgx)
theorem q89:q07=qgx:=qa _
def qbbi:SubB Tryz.prog (TIof Tryz.prog) 83 0 (kret [.t 2] (decI .i64)):=lpB tabOk follows Tryz.f12 303 (.s (.s .z (.s .z (.v [.sel [1] [0]]))) (.s (.b (.s (.sub [.sel [1,5] [0]] qbbh []) .z)) (.v [.sel [1,5] [0]]))) S112_ (qgx) (fun f v K n=>f (v.l 3 0) (v.l 3 1) (v.l 3 2) (qva (v.l 3 0) (v.l 3 1) (v.l 3 2) K) n) (fun v f K=>qgw (v.i 20 0) (v.l 3 0) (v.l 3 1) (v.l 3 2) f (qva (v.l 3 0) (v.l 3 1) (v.l 3 2) K)) (fun f v=>f (v.i 20 0)) (fun k v=>(fun z0=>k (v.ui 20 0 z0)))
def qvb (K:Ex->Env->Mem->Option Int):=(fun(_:Unit)=>K (.exit 2) (qk []) (qh []))
def qgy (v6:Int)(Av Aw Ax:LA)(next:Int->Option Int)(kx2:Unit->Option Int):Option Int:=
 (bif(decide (v6<(Aw.length:Int)))then(oB (ixB Aw v6) fun y1=>(bif fitC qj y1.cells then(oB (qlc Av (gB y1.cells 1) (gI y1.cells 2) (gI y1.cells 3)) fun r2=>(bif(!r2)then(some (25:Int))else(oB (ixB Aw v6) fun y3=>(bif fitC qj y3.cells then(oB (qok Ax (gS y3.cells 0)) fun r4=>(bif(!r4)then(some (13:Int))else(next (IntKind.i64.wrap (v6+1)))))else none))))else none))else(kx2 ()))
def qgz (Av Aw Ax:LA)(kx2:Unit->Option Int):Nat->Int->Option Int
 |0=>(fun _=>none)
 |n+1=>(fun v6=>qgy v6 Av Aw Ax (qgz Av Aw Ax kx2 n) kx2)
def qsz:=hull (qgz)
theorem q9a:qsz=qgz:=qa _
def qbbj:SubB Tryz.prog (TIof Tryz.prog) 83 0 (kret [.t 2] (decI .i64)):=lpB tabOk follows Tryz.f12 607 (.s (.s .z (.s .z (.v [.sel [] []]))) (.s (.b (.s (.s (.d [] [(5,.e 68 qj)] [(0,.c qsx.b)] []) .z) (.s (.d [] [(5,.e 78 qj)] [(0,.c qwc.b)] []) .z))) (.v [.sel [1,6] [0]]))) S113_ (qgz) (fun f v K n=>f (v.l 3 0) (v.l 3 1) (v.l 3 2) (qvb K) n) (fun v f K=>qgy (v.i 24 0) (v.l 3 0) (v.l 3 1) (v.l 3 2) f (qvb K)) (fun f v=>f (v.i 24 0)) (fun k v=>(fun z0=>k (v.ui 24 0 z0)))
def qps (Aa Ab Ac:LA):Option Int:=
 (oB (qzo Aa) fun r1=>(bif(r1 != (0:Int))then(some r1)else(oB (qty Ab) fun r2=>(bif(r2 != (0:Int))then(some r2)else(bif(decide ((Ac.length:Int)>32))then(some (9:Int))else(q07 Aa Ab Ac (fun(_:Unit)=>(qsz Aa Ab Ac (fun(_:Unit)=>(some (0:Int))) FU (0:Int))) FU (0:Int)))))))
def qzq:=hull qps
theorem qbko:qzq=qps:=qa _
def qbmp {R:Type}:EntF Tryz.prog R:=entB (nt:=83) (dec:=(decI .i64)) (enc:=(AV.int .i64)) tabOk follows Tryz.func12 [.t 2] hdeI (.s .z (.s (.s (.r [(2,.c qbml.b)] []) .z) (.s (.s (.r [(2,.c q4h.b)] []) .z) (.s .z (.s (.s .z (.b (.sub [.sel [1,5] [0]] qbbi []))) (.s (.s .z (.b (.sub [.sel [1,6] [0]] qbbj []))) .z)))))) S4_ qps (fun f v=>f (v.l 1 0) (v.l 1 1) (v.l 1 2))
def S114_:Shp:=⟨[(1,.one (.ptr 0 0)),(2,.one (.ptr 1 0)),(3,.one (.ptr 2 0))],[.box true (lk qcl),.box true (lk qcl),.box true (lk qcl)]⟩
def qben (Ad:Int)(Ae:Bool)(Af Ag Ah Ai:Int)(Aj Ak:LU)(Al Am An:Int)(Ao:LU)(Ap:Bool)(Aq Ar As:Int)(At:LU)(Au:Int)(K:Ex->Env->Mem->Option AV):=(fun z_b1_1 z_b1_2 z_b1_3 z_b1_4 z_b1_5 z_b1_6 z_b1_7 z_b1_8 z_b1_9 z_b1_10 z_b1_11 z_b1_12 z_b1_13 z_b1_14 z_b1_15 z_b1_16=>K .norm (qk [(2,(.ptr 0 0)),(3,(.ptr 1 0))]) (qh [(some (.box true (qji Ad Ae Af Ag Ah Ai Aj Ak Al Am An Ao Ap Aq Ar As At))),(some (.box true (qji Au z_b1_1 z_b1_2 z_b1_3 z_b1_4 z_b1_5 z_b1_6 z_b1_7 z_b1_8 z_b1_9 z_b1_10 z_b1_11 z_b1_12 z_b1_13 z_b1_14 z_b1_15 z_b1_16)))]))
def qmz (Av:Int)(Aw:Bool)(Ax Ay Az A0:Int)(A1 A2:LU)(A3 A4 A5:Int)(A6:LU)(A7:Bool)(A8 A9 Ba:Int)(Bb:LU)(Ad:Int)(Ae:Bool)(Af Ag Ah Ai:Int)(Aj Ak:LU)(Al Am An:Int)(Ao:LU)(Ap:Bool)(Aq Ar As:Int)(At:LU)(Au:Int)(Bc:Bool)(Bd Be Bf Bg:Int)(Bh Bi:LU)(Bj Bl Bm:Int)(Bn:LU)(Bo:Bool)(Bp Bq Br:Int)(Bs:LU)(kn:Bool->Int->Int->Int->Int->(List UInt8)->(List UInt8)->Int->Int->Int->(List UInt8)->Bool->Int->Int->Int->(List UInt8)->Option AV):Option AV:=
 (bif(Av==1)then(kn Aw Ax Ay Az A0 A1 A2 A3 Bl Bm Bn Bo Bp Bq Br Bs)else(bif(Av==2)then(kn Aw Ax Ay Az Bg Bh Bi Bj Bl Bm Bn Bo Bp Bq Br Bs)else(bif(Av==3)then(kn Aw Ax Ay Az Bg A1 A2 Bj A4 A5 Bn Bo Bp Bq Br Bs)else(bif(Av==4)then(kn Bc Bd Be Bf Bg Bh Bi Bj Bl Bm A6 A7 A8 A9 Ba Bs)else(bif(Av==5)then(kn Bc Bd Be Bf Bg Bh Bi Bj Bl Bm A6 A7 A8 A9 Br Bs)else(bif(Av==6)then(kn Bc Bd Be Bf Bg Bh Bi Bj Bl Bm A6 A7 A8 A9 Br Bb)else(kn Bc Bd Be Bf Bg Bh Bi Bj Bl Bm Bn Bo Bp Bq Br Bs)))))))
def q4i:=hull (qmz)
theorem qbeo:q4i=qmz:=qa _
def qbgw:SubB Tryz.prog (TIof Tryz.prog) 77 0 (kret [(.cell 2 true 17)] (decT [(.i .i64),.b,(.i .u64),(.i .u64),(.i .i64),(.i .i64),.s,.s,(.i .i64),(.i .i64),(.i .i64),.s,.b,(.i .u64),(.i .u64),(.i .i64),.s])):=jnB tabOk follows Tryz.f46 23 (.s .z (.b (.s .z (.s (.v [.sel [2,3] [1,2]]) (.s .z (.s (.v [.sel [2,3] [1,2]]) (.s .z (.s (.s .z (.s .z (.s .z (.s .z (.v [.sel [2,3] [1,2]]))))) (.s .z (.s (.v [.sel [2,3] [1,2]]) (.s .z (.s (.s .z (.v [.sel [2,3] [1,2]])) (.s .z (.s (.s .z (.s .z (.v [.sel [2,3] [1,2]]))) (.v [.sel [2,3] [1,2]]))))))))))))))) S114_ (qmz) (fun f v K=>f (v.i 3 0) (v.b 3 1) (v.i 3 2) (v.i 3 3) (v.i 3 4) (v.i 3 5) (v.s 3 6) (v.s 3 7) (v.i 3 8) (v.i 3 9) (v.i 3 10) (v.s 3 11) (v.b 3 12) (v.i 3 13) (v.i 3 14) (v.i 3 15) (v.s 3 16) (v.i 7 0) (v.b 7 1) (v.i 7 2) (v.i 7 3) (v.i 7 4) (v.i 7 5) (v.s 7 6) (v.s 7 7) (v.i 7 8) (v.i 7 9) (v.i 7 10) (v.s 7 11) (v.b 7 12) (v.i 7 13) (v.i 7 14) (v.i 7 15) (v.s 7 16) (v.i 11 0) (v.b 11 1) (v.i 11 2) (v.i 11 3) (v.i 11 4) (v.i 11 5) (v.s 11 6) (v.s 11 7) (v.i 11 8) (v.i 11 9) (v.i 11 10) (v.s 11 11) (v.b 11 12) (v.i 11 13) (v.i 11 14) (v.i 11 15) (v.s 11 16) (qben (v.i 7 0) (v.b 7 1) (v.i 7 2) (v.i 7 3) (v.i 7 4) (v.i 7 5) (v.s 7 6) (v.s 7 7) (v.i 7 8) (v.i 7 9) (v.i 7 10) (v.s 7 11) (v.b 7 12) (v.i 7 13) (v.i 7 14) (v.i 7 15) (v.s 7 16) (v.i 11 0) K))
def qr1 (Aa:Int)(Ab:Bool)(Ac Bt Bu Bv:Int)(Bw Bx:LU)(By Bz B0:Int)(B1:LU)(B2:Bool)(B3 B4 B5:Int)(B6:LU):Option AV:=
 (q4i Aa Ab Ac Bt Bu Bv Bw Bx By Bz B0 B1 B2 B3 B4 B5 B6 (0:Int) false (0:Int) (0:Int) (0:Int) (0:Int) ([]:List UInt8) ([]:List UInt8) (0:Int) (0:Int) (0:Int) ([]:List UInt8) false (0:Int) (0:Int) (0:Int) ([]:List UInt8) Aa false (0:Int) (0:Int) (0:Int) (0:Int) ([]:List UInt8) ([]:List UInt8) (0:Int) (0:Int) (0:Int) ([]:List UInt8) false (0:Int) (0:Int) (0:Int) ([]:List UInt8) (fun b1_1q1 b1_2q2 b1_3q3 b1_4q4 b1_5q5 b1_6q6 b1_7q7 b1_8q8 b1_9q9 b1_10q10 b1_11q11 b1_12q12 b1_13q13 b1_14q14 b1_15q15 b1_16q16=>(some (.agg [(.int .i64 Aa),(.bool b1_1q1),(.int .u64 b1_2q2),(.int .u64 b1_3q3),(.int .i64 b1_4q4),(.int .i64 b1_5q5),(.str b1_6q6),(.str b1_7q7),(.int .i64 b1_8q8),(.int .i64 b1_9q9),(.int .i64 b1_10q10),(.str b1_11q11),(.bool b1_12q12),(.int .u64 b1_13q13),(.int .u64 b1_14q14),(.int .i64 b1_15q15),(.str b1_16q16)]))))
def q2a:=hull qr1
theorem qbmq:q2a=qr1:=qa _
def qboa {R:Type}:EntF Tryz.prog R:=entB (nt:=77) (dec:=(decT [(.i .i64),.b,(.i .u64),(.i .u64),(.i .i64),(.i .i64),.s,.s,(.i .i64),(.i .i64),(.i .i64),.s,.b,(.i .u64),(.i .u64),(.i .i64),.s])) (enc:=(qck (.st [(.i .i64),.b,(.i .u64),(.i .u64),(.i .i64),(.i .i64),.s,.s,(.i .i64),(.i .i64),(.i .i64),.s,.b,(.i .u64),(.i .u64),(.i .i64),.s]))) tabOk follows Tryz.func46 [(.cell 2 true 17)] hdeT (.s .z (.s .z (.s .z (.s (.sub [.sel [1,2,3] [0,1,2]] qbgw []) .z)))) S3_ qr1 (fun f v=>f (v.i 1 0) (v.b 1 1) (v.i 1 2) (v.i 1 3) (v.i 1 4) (v.i 1 5) (v.s 1 6) (v.s 1 7) (v.i 1 8) (v.i 1 9) (v.i 1 10) (v.s 1 11) (v.b 1 12) (v.i 1 13) (v.i 1 14) (v.i 1 15) (v.s 1 16))
def S115_:Shp:=⟨[(0,.one (.l (.sl 8))),(3,.one (.ptr 0 0)),(4,.one (.ptr 1 0)),(6,.one (.l (.i .i64)))],[.box true (lk qe),.box true (lk qb)]⟩
def q2w:AV->Option (AV×Bool):=decN [(.st [.b,(.i .u64),(.i .u64),(.i .i64),(.i .i64),.s,.s,(.i .i64)]),(.one .b)] fun z=>((gC (tpL z) 0),aB (gC (tpL z) 1))
def qx5 (Ad:Bool)(Ae Af Ag Ah:Int)(Ai Aj:LU)(Ak:Int)(K:Ex->Env->Mem->Option (AV×Bool)):=(fun(_:Unit)=>K (.exit 0) (qk [(4,(.ptr 0 0))]) (qh [(some (.box true (qn Ad Ae Af Ag Ah Ai Aj Ak)))]))
def qi6 (v0:LA)(v6:Int)(Av:Bool)(Aw Ax Ay:Int)(Ad:Bool)(Ae Af Ag Ah:Int)(Ai Aj:LU)(Ak:Int)(next:Int->Option (AV×Bool))(kx0:Unit->Option (AV×Bool)):Option (AV×Bool):=
 (bif(decide (v6<(v0.length:Int)))then(oB (ixB v0 v6) fun y1=>(bif fitC qb y1.cells then(bif(((gB y1.cells 0)==Av)&&(((gI y1.cells 1)==Aw)&&(((gI y1.cells 2)==Ax)&&(((gI y1.cells 3)==Ay)&&true))))then(oB (ixB v0 v6) fun y2=>(bif fitC qb y2.cells then(some ((.agg [(.bool (gB y2.cells 0)),(.int .u64 (gI y2.cells 1)),(.int .u64 (gI y2.cells 2)),(.int .i64 (gI y2.cells 3)),(.int .i64 (gI y2.cells 4)),(.str (gS y2.cells 5)),(.str (gS y2.cells 6)),(.int .i64 (gI y2.cells 7))]),true))else none))else(next (IntKind.i64.wrap (v6+1))))else none))else(kx0 ()))
def qi7 (v0:LA)(Av:Bool)(Aw Ax Ay:Int)(Ad:Bool)(Ae Af Ag Ah:Int)(Ai Aj:LU)(Ak:Int)(kx0:Unit->Option (AV×Bool)):Nat->Int->Option (AV×Bool)
 |0=>(fun _=>none)
 |n+1=>(fun v6=>qi6 v0 v6 Av Aw Ax Ay Ad Ae Af Ag Ah Ai Aj Ak (qi7 v0 Av Aw Ax Ay Ad Ae Af Ag Ah Ai Aj Ak kx0 n) kx0)
def qwd:=hull (qi7)
theorem qbep:qwd=qi7:=qa _
def qbgx:SubB Tryz.prog (TIof Tryz.prog) 25 0 (kret [(.cell 4 true 8),.t 5] q2w):=lpB tabOk follows Tryz.f54 37 (.s (.s .z (.s .z (.v [.sel [4] [1]]))) (.s (.b (.s (.d [] [(2,.e 15 qb)] [] []) (.s (.s (.r [(2,.p (.etac 22 qb))] []) .z) .z))) (.v [.sel [0,3,4,6] [0,1]]))) S115_ (qi7) (fun f v K n=>f (v.l 0 0) (v.b 3 0) (v.i 3 1) (v.i 3 2) (v.i 3 3) (v.b 7 0) (v.i 7 1) (v.i 7 2) (v.i 7 3) (v.i 7 4) (v.s 7 5) (v.s 7 6) (v.i 7 7) (qx5 (v.b 7 0) (v.i 7 1) (v.i 7 2) (v.i 7 3) (v.i 7 4) (v.s 7 5) (v.s 7 6) (v.i 7 7) K) n) (fun v f K=>qi6 (v.l 0 0) (v.i 24 0) (v.b 3 0) (v.i 3 1) (v.i 3 2) (v.i 3 3) (v.b 7 0) (v.i 7 1) (v.i 7 2) (v.i 7 3) (v.i 7 4) (v.s 7 5) (v.s 7 6) (v.i 7 7) f (qx5 (v.b 7 0) (v.i 7 1) (v.i 7 2) (v.i 7 3) (v.i 7 4) (v.s 7 5) (v.s 7 6) (v.i 7 7) K)) (fun f v=>f (v.i 24 0)) (fun k v=>(fun z0=>k (v.ui 24 0 z0)))
def qr2 (v0:LA)(B7:Bool)(B8 B9 Ca:Int):Option (AV×Bool):=
 (qwd v0 B7 B8 B9 Ca false (0:Int) (0:Int) (0:Int) (0:Int) ([]:List UInt8) ([]:List UInt8) (0:Int) (fun(_:Unit)=>(some ((.agg [(.bool false),(.int .u64 (0:Int)),(.int .u64 (0:Int)),(.int .i64 (0:Int)),(.int .i64 (0:Int)),(.str ([]:List UInt8)),(.str ([]:List UInt8)),(.int .i64 (0:Int))]),false))) FU (0:Int))
def ql9:=hull qr2
theorem qbmr:ql9=qr2:=qa _
def qr3 {R:Type}:EntF Tryz.prog R:=entB (nt:=25) (dec:=q2w) (enc:=(fun r=>.tup [qck (.st [.b,(.i .u64),(.i .u64),(.i .i64),(.i .i64),.s,.s,(.i .i64)]) r.1,.bool r.2])) tabOk follows Tryz.func54 [(.cell 4 true 8),.t 5] (hdeN fun _=>rfl) (.s .z (.s (.s .z (.b (.sub [.sel [0,3,4,6] [0,1]] qbgx []))) .z)) S16_ qr2 (fun f v=>f (v.l 0 0) (v.b 5 0) (v.i 5 1) (v.i 5 2) (v.i 5 3))
def S116_:Shp:=⟨[(0,.one (.l (.sl 8))),(3,.one (.ptr 0 0)),(5,.one (.own 1)),(6,.one (.l .b)),(7,.one (.l (.i .i64)))],[.box true (lk qb),.arr true 8]⟩
def qbeq (v0:LA)(v6:Bool)(v7:Int)(Av:Bool)(Aw Ax Ay Az:Int)(A0 A1:LU)(A2:Int)(a1:LA)(K:Ex->Env->Mem->Option (List AV)):=(fun z_v26=>K .norm (qk [(0,(.sl 8 v0)),(3,(.ptr 0 0)),(5,(.own 1 a1.length)),(6,(.bool v6)),(7,(.int .i64 v7)),(26,(.bool z_v26))]) (qh [(some (.box true (qn Av Aw Ax Ay Az A0 A1 A2))),(some (.arr true 8 a1))]))
def qm0 (v0:LA)(v6:Bool)(v7:Int)(Av:Bool)(Aw Ax Ay Az:Int)(A0 A1:LU)(A2:Int)(a1:LA)(kn:Bool->Option (List AV)):Option (List AV):=
 (bif(!v6)then(oB (ixB v0 v7) fun y1=>(bif fitC qb y1.cells then(oB (qpi (gB y1.cells 0) (gI y1.cells 1) (gI y1.cells 2) (gI y1.cells 3) Av Aw Ax Ay) fun r2=>(kn (decide (r2>0))))else none))else(kn false))
def q4j:=hull (qm0)
theorem qber:q4j=qm0:=qa _
def qbgy:SubB Tryz.prog (TIof Tryz.prog) 45 0 (kret [.t 4] (decF true 8)):=jnB tabOk follows Tryz.f104 4247 (.d [] [(5,.e 19 qb)] [(0,.c q0y.b)] [.sel [0,3,5,6,7,26] [0,1]]) S116_ (qm0) (fun f v K=>f (v.l 0 0) (v.b 24 0) (v.i 28 0) (v.b 3 0) (v.i 3 1) (v.i 3 2) (v.i 3 3) (v.i 3 4) (v.s 3 5) (v.s 3 6) (v.i 3 7) (v.r 1) (qbeq (v.l 0 0) (v.b 24 0) (v.i 28 0) (v.b 3 0) (v.i 3 1) (v.i 3 2) (v.i 3 3) (v.i 3 4) (v.s 3 5) (v.s 3 6) (v.i 3 7) (v.r 1) K))
def qbes (v0:LA)(v7:Int)(Av:Bool)(Aw Ax Ay Az:Int)(A0 A1:LU)(A2:Int)(K:Ex->Env->Mem->Option (List AV)):=(fun z_v6 z_a1=>K .norm (qk [(0,(.sl 8 v0)),(3,(.ptr 0 0)),(5,(.own 1 z_a1.length)),(6,(.bool z_v6)),(7,(.int .i64 v7))]) (qh [(some (.box true (qn Av Aw Ax Ay Az A0 A1 A2))),(some (.arr true 8 z_a1))]))
def qm1 (v0:LA)(v6:Bool)(v7:Int)(Av:Bool)(Aw Ax Ay Az:Int)(A0 A1:LU)(A2:Int)(a1:LA)(kn:Bool->(List AV)->Option (List AV)):Option (List AV):=
 (bif(hd a1 (a1.length)&&true)then(q4j v0 v6 v7 Av Aw Ax Ay Az A0 A1 A2 a1 (fun v26q1=>(bif v26q1 then(bif hd a1 a1.length then(bif hd ([(.agg [(.bool Av),(.int .u64 Aw),(.int .u64 Ax),(.int .i64 Ay),(.int .i64 Az),(.str A0),(.str A1),(.int .i64 A2)])]:List AV) (([(.agg [(.bool Av),(.int .u64 Aw),(.int .u64 Ax),(.int .i64 Ay),(.int .i64 Az),(.str A0),(.str A1),(.int .i64 A2)])]:List AV).length)then(bif decide ((a1.length+([(.agg [(.bool Av),(.int .u64 Aw),(.int .u64 Ax),(.int .i64 Ay),(.int .i64 Az),(.str A0),(.str A1),(.int .i64 A2)])]:List AV).length)*80<=140737488355328)then(kn true (a1++([(.agg [(.bool Av),(.int .u64 Aw),(.int .u64 Ax),(.int .i64 Ay),(.int .i64 Az),(.str A0),(.str A1),(.int .i64 A2)])]:List AV)))else none)else none)else none)else(kn v6 a1))))else none)
def qwe:=hull (qm1)
theorem qbet:qwe=qm1:=qa _
def qbgz:SubB Tryz.prog (TIof Tryz.prog) 45 0 (kret [.t 4] (decF true 8)):=jnB tabOk follows Tryz.f104 2199 (.s (.sub [.sel [0,3,5,6,7] [0,1]] qbgy []) (.s (.s .z (.v [.sel [0,3,5,6,7] [0,1]])) (.v [.sel [0,3,5,6,7] [0,1]]))) S116_ (qm1) (fun f v K=>f (v.l 0 0) (v.b 24 0) (v.i 28 0) (v.b 3 0) (v.i 3 1) (v.i 3 2) (v.i 3 3) (v.i 3 4) (v.s 3 5) (v.s 3 6) (v.i 3 7) (v.r 1) (qbes (v.l 0 0) (v.i 28 0) (v.b 3 0) (v.i 3 1) (v.i 3 2) (v.i 3 3) (v.i 3 4) (v.s 3 5) (v.s 3 6) (v.i 3 7) K))
def qx6 (Av:Bool)(Aw Ax Ay Az:Int)(A0 A1:LU)(A2:Int)(K:Ex->Env->Mem->Option (List AV)):=(fun z_v6 z_a1=>K (.exit 0) (qk [(3,(.ptr 0 0)),(5,(.own 1 z_a1.length)),(6,(.bool z_v6))]) (qh [(some (.box true (qn Av Aw Ax Ay Az A0 A1 A2))),(some (.arr true 8 z_a1))]))
def qfw (v0:LA)(v6:Bool)(v7:Int)(Av:Bool)(Aw Ax Ay Az:Int)(A0 A1:LU)(A2:Int)(a1:LA)(next:Bool->Int->(List AV)->Option (List AV))(kx0:Bool->(List AV)->Option (List AV)):Option (List AV):=
 (bif(decide (v7<(v0.length:Int)))then(bif(hd a1 (a1.length)&&true)then(qwe v0 v6 v7 Av Aw Ax Ay Az A0 A1 A2 a1 (fun v6q1 a1q2=>(oB (ixB v0 v7) fun y3=>(bif fitC qb y3.cells then(bif hd a1q2 a1q2.length then(bif hd ([(.agg [(.bool (gB y3.cells 0)),(.int .u64 (gI y3.cells 1)),(.int .u64 (gI y3.cells 2)),(.int .i64 (gI y3.cells 3)),(.int .i64 (gI y3.cells 4)),(.str (gS y3.cells 5)),(.str (gS y3.cells 6)),(.int .i64 (gI y3.cells 7))])]:List AV) (([(.agg [(.bool (gB y3.cells 0)),(.int .u64 (gI y3.cells 1)),(.int .u64 (gI y3.cells 2)),(.int .i64 (gI y3.cells 3)),(.int .i64 (gI y3.cells 4)),(.str (gS y3.cells 5)),(.str (gS y3.cells 6)),(.int .i64 (gI y3.cells 7))])]:List AV).length)then(bif decide ((a1q2.length+([(.agg [(.bool (gB y3.cells 0)),(.int .u64 (gI y3.cells 1)),(.int .u64 (gI y3.cells 2)),(.int .i64 (gI y3.cells 3)),(.int .i64 (gI y3.cells 4)),(.str (gS y3.cells 5)),(.str (gS y3.cells 6)),(.int .i64 (gI y3.cells 7))])]:List AV).length)*80<=140737488355328)then(next v6q1 (IntKind.i64.wrap (v7+1)) (a1q2++([(.agg [(.bool (gB y3.cells 0)),(.int .u64 (gI y3.cells 1)),(.int .u64 (gI y3.cells 2)),(.int .i64 (gI y3.cells 3)),(.int .i64 (gI y3.cells 4)),(.str (gS y3.cells 5)),(.str (gS y3.cells 6)),(.int .i64 (gI y3.cells 7))])]:List AV)))else none)else none)else none)else none))))else none)else(kx0 v6 a1))
def qfx (v0:LA)(Av:Bool)(Aw Ax Ay Az:Int)(A0 A1:LU)(A2:Int)(kx0:Bool->(List AV)->Option (List AV)):Nat->Bool->Int->(List AV)->Option (List AV)
 |0=>(fun _ _ _=>none)
 |n+1=>(fun v6 v7 a1=>qfw v0 v6 v7 Av Aw Ax Ay Az A0 A1 A2 a1 (qfx v0 Av Aw Ax Ay Az A0 A1 A2 kx0 n) kx0)
def q4k:=hull (qfx)
theorem qbeu:q4k=qfx:=qa _
def qbg0:SubB Tryz.prog (TIof Tryz.prog) 45 0 (kret [.t 4] (decF true 8)):=lpB tabOk follows Tryz.f104 151 (.s (.s .z (.s .z (.v [.sel [3,5,6] [0,1]]))) (.s (.b (.s (.sub [.sel [0,3,5,6,7] [0,1]] qbgz []) (.r [(3,.p (.etac 34 qb))] []))) (.v [.sel [0,3,5,6,7] [0,1]]))) S116_ (qfx) (fun f v K n=>f (v.l 0 0) (v.b 3 0) (v.i 3 1) (v.i 3 2) (v.i 3 3) (v.i 3 4) (v.s 3 5) (v.s 3 6) (v.i 3 7) (qx6 (v.b 3 0) (v.i 3 1) (v.i 3 2) (v.i 3 3) (v.i 3 4) (v.s 3 5) (v.s 3 6) (v.i 3 7) K) n) (fun v f K=>qfw (v.l 0 0) (v.b 24 0) (v.i 28 0) (v.b 3 0) (v.i 3 1) (v.i 3 2) (v.i 3 3) (v.i 3 4) (v.s 3 5) (v.s 3 6) (v.i 3 7) (v.r 1) f (qx6 (v.b 3 0) (v.i 3 1) (v.i 3 2) (v.i 3 3) (v.i 3 4) (v.s 3 5) (v.s 3 6) (v.i 3 7) K)) (fun f v=>f (v.b 24 0) (v.i 28 0) (v.r 1)) (fun k v=>(fun z0 z1 z2=>k (((v.ub 24 0 z0).ui 28 0 z1).ur 1 z2)))
def qtz (v0:LA)(B7:Bool)(B8 B9 Ca Cb:Int)(Cc Cd:LU)(Ce:Int):Option (List AV):=
 (bif(hd ([]:List AV) (([]:List AV).length)&&true)then(q4k v0 B7 B8 B9 Ca Cb Cc Cd Ce (fun v6q1 a1q2=>(bif(!v6q1)then(bif hd a1q2 a1q2.length then(bif hd ([(.agg [(.bool B7),(.int .u64 B8),(.int .u64 B9),(.int .i64 Ca),(.int .i64 Cb),(.str Cc),(.str Cd),(.int .i64 Ce)])]:List AV) (([(.agg [(.bool B7),(.int .u64 B8),(.int .u64 B9),(.int .i64 Ca),(.int .i64 Cb),(.str Cc),(.str Cd),(.int .i64 Ce)])]:List AV).length)then(bif decide ((a1q2.length+([(.agg [(.bool B7),(.int .u64 B8),(.int .u64 B9),(.int .i64 Ca),(.int .i64 Cb),(.str Cc),(.str Cd),(.int .i64 Ce)])]:List AV).length)*80<=140737488355328)then(bif hd (a1q2++([(.agg [(.bool B7),(.int .u64 B8),(.int .u64 B9),(.int .i64 Ca),(.int .i64 Cb),(.str Cc),(.str Cd),(.int .i64 Ce)])]:List AV)) ((a1q2++([(.agg [(.bool B7),(.int .u64 B8),(.int .u64 B9),(.int .i64 Ca),(.int .i64 Cb),(.str Cc),(.str Cd),(.int .i64 Ce)])]:List AV)).length)then(some (a1q2++([(.agg [(.bool B7),(.int .u64 B8),(.int .u64 B9),(.int .i64 Ca),(.int .i64 Cb),(.str Cc),(.str Cd),(.int .i64 Ce)])]:List AV)))else none)else none)else none)else none)else(bif hd a1q2 a1q2.length then(some a1q2)else none))) FU false (0:Int) ([]:List AV))else none)
def q4l:=hull qtz
theorem qbob:q4l=qtz:=qa _
def qbq5 {R:Type}:EntF Tryz.prog R:=entB (nt:=45) (dec:=(decF true 8)) (enc:=(AV.fr true 8)) tabOk follows Tryz.func104 [.t 4] hdeF (.s .z (.s .z (.s .z (.s (.s .z (.b (.sub [.own 5 8,.sel [0,3,5,6,7] [0,1]] qbg0 []))) .z)))) S25_ qtz (fun f v=>f (v.l 0 0) (v.b 5 0) (v.i 5 1) (v.i 5 2) (v.i 5 3) (v.i 5 4) (v.s 5 5) (v.s 5 6) (v.i 5 7))
def S117_:Shp:=⟨[(0,.one (.l (.sl 8))),(3,.one (.ptr 0 0)),(8,.one (.l (.i .i64)))],[.box true (lk qb)]⟩
def q4m:AV->Option ((List AV)×Int):=decN [(.one (.sl 8)),(.one (.i .i64))] fun z=>(aL (gC (tpL z) 0),aI (gC (tpL z) 1))
def qx7 (v0:LA)(Av:Bool)(Aw Ax Ay Az:Int)(A0 A1:LU)(A2:Int)(K:Ex->Env->Mem->Option ((List AV)×Int)):=(fun(_:Unit)=>K (.exit 0) (qk [(0,(.sl 8 v0)),(3,(.ptr 0 0))]) (qh [(some (.box true (qn Av Aw Ax Ay Az A0 A1 A2)))]))
def qi8 (v0:LA)(v8:Int)(Av:Bool)(Aw Ax Ay Az:Int)(A0 A1:LU)(A2:Int)(next:Int->Option ((List AV)×Int))(kx0:Unit->Option ((List AV)×Int)):Option ((List AV)×Int):=
 (bif(decide (v8<(v0.length:Int)))then(oB (ixB v0 v8) fun y1=>(bif fitC qb y1.cells then(oB (qmr Av Aw Ax Ay Az A0 A1 A2 (gB y1.cells 0) (gI y1.cells 1) (gI y1.cells 2) (gI y1.cells 3) (gI y1.cells 4) (gS y1.cells 5) (gS y1.cells 6) (gI y1.cells 7)) fun r2=>(bif r2 then(some (([]:List AV),(24:Int)))else(oB (ixB v0 v8) fun y3=>(bif fitC qb y3.cells then(oB (qk2 (gB y3.cells 0) (gI y3.cells 1) (gI y3.cells 2) (gI y3.cells 3) Av Aw Ax Ay) fun r4=>(bif r4 then(some (([]:List AV),(24:Int)))else(next (IntKind.i64.wrap (v8+1)))))else none))))else none))else(kx0 ()))
def qi9 (v0:LA)(Av:Bool)(Aw Ax Ay Az:Int)(A0 A1:LU)(A2:Int)(kx0:Unit->Option ((List AV)×Int)):Nat->Int->Option ((List AV)×Int)
 |0=>(fun _=>none)
 |n+1=>(fun v8=>qi8 v0 v8 Av Aw Ax Ay Az A0 A1 A2 (qi9 v0 Av Aw Ax Ay Az A0 A1 A2 kx0 n) kx0)
def qwf:=hull (qi9)
theorem qbev:qwf=qi9:=qa _
def qbg1:SubB Tryz.prog (TIof Tryz.prog) 52 0 (kret [.t 4,.t 5] q4m):=lpB tabOk follows Tryz.f47 607 (.s (.s .z (.s .z (.v [.sel [0,3] [0]]))) (.s (.b (.s (.d [] [(3,.e 33 qb),(5,.c q2t.b),(9,.e 39 qb)] [(0,.c ql8.b)] []) (.s (.s .z (.v [.eta 4 (.one (.sl 8))])) .z))) (.v [.sel [0,3,8] [0]]))) S117_ (qi9) (fun f v K n=>f (v.l 0 0) (v.b 3 0) (v.i 3 1) (v.i 3 2) (v.i 3 3) (v.i 3 4) (v.s 3 5) (v.s 3 6) (v.i 3 7) (qx7 (v.l 0 0) (v.b 3 0) (v.i 3 1) (v.i 3 2) (v.i 3 3) (v.i 3 4) (v.s 3 5) (v.s 3 6) (v.i 3 7) K) n) (fun v f K=>qi8 (v.l 0 0) (v.i 32 0) (v.b 3 0) (v.i 3 1) (v.i 3 2) (v.i 3 3) (v.i 3 4) (v.s 3 5) (v.s 3 6) (v.i 3 7) f (qx7 (v.l 0 0) (v.b 3 0) (v.i 3 1) (v.i 3 2) (v.i 3 3) (v.i 3 4) (v.s 3 5) (v.s 3 6) (v.i 3 7) K)) (fun f v=>f (v.i 32 0)) (fun k v=>(fun z0=>k (v.ui 32 0 z0)))
def qt0 (v0:LA)(B7:Bool)(B8 B9 Ca Cb:Int)(Cc Cd:LU)(Ce:Int):Option ((List AV)×Int):=
 (oB (qft B7 B8 B9 Ca) fun r1=>(bif(!r1)then(some (([]:List AV),(3:Int)))else(oB (qsq B7 B8 B9 Ca Cb Cc Cd Ce) fun r2=>(bif(!r2)then(some (([]:List AV),(1:Int)))else(oB (ql9 v0 B7 B8 B9 Ca) fun r3=>(bif r3.2 then(some (([]:List AV),(12:Int)))else(qwf v0 B7 B8 B9 Ca Cb Cc Cd Ce (fun(_:Unit)=>(bif(decide ((v0.length:Int)>=512))then(some (([]:List AV),(9:Int)))else(oB (q4l v0 B7 B8 B9 Ca Cb Cc Cd Ce) fun r4=>(some (r4,(0:Int)))))) FU (0:Int))))))))
def qx8:=hull qt0
theorem qboc:qx8=qt0:=qa _
def q9b {R:Type}:EntF Tryz.prog R:=entB (nt:=52) (dec:=q4m) (enc:=(fun r=>.tup [.sl 8 r.1,.int .i64 r.2])) tabOk follows Tryz.func47 [.t 4,.t 5] (hdeN fun _=>rfl) (.s .z (.s (.s (.r [(2,.c qik.b)] []) (.s (.s .z (.v [.eta 4 (.one (.sl 8))])) .z)) (.s (.s (.r [(1,.c q8k.b)] []) (.s (.s .z (.v [.eta 4 (.one (.sl 8))])) .z)) (.s (.r [(3,.c qr3.b)] []) (.s (.s .z (.s (.s .z (.v [.eta 4 (.one (.sl 8))])) .z)) (.s (.s .z (.b (.sub [.sel [0,3,8] [0]] qbg1 []))) (.s (.s .z (.s (.s .z (.v [.eta 4 (.one (.sl 8))])) .z)) (.s (.r [(2,.k qbq5.b)] []) .z)))))))) S25_ qt0 (fun f v=>f (v.l 0 0) (v.b 5 0) (v.i 5 1) (v.i 5 2) (v.i 5 3) (v.i 5 4) (v.s 5 5) (v.s 5 6) (v.i 5 7))
def S118_:Shp:=⟨[(0,.one (.l (.sl 8))),(3,.one (.ptr 0 0)),(5,.one (.l (.i .i64)))],[.box true (lk qe)]⟩
def qwu (K:Ex->Env->Mem->Option Bool):=(fun(_:Unit)=>K (.exit 0) (qk []) (qh []))
def qh1 (v0:LA)(v5:Int)(Av:Bool)(Aw Ax Ay:Int)(next:Int->Option Bool)(kx0:Unit->Option Bool):Option Bool:=
 (bif(decide (v5<(v0.length:Int)))then(oB (ixB v0 v5) fun y1=>(bif fitC qb y1.cells then(oB (qk2 (gB y1.cells 0) (gI y1.cells 1) (gI y1.cells 2) (gI y1.cells 3) Av Aw Ax Ay) fun r2=>(bif r2 then(some true)else(next (IntKind.i64.wrap (v5+1)))))else none))else(kx0 ()))
def qh2 (v0:LA)(Av:Bool)(Aw Ax Ay:Int)(kx0:Unit->Option Bool):Nat->Int->Option Bool
 |0=>(fun _=>none)
 |n+1=>(fun v5=>qh1 v0 v5 Av Aw Ax Ay (qh2 v0 Av Aw Ax Ay kx0 n) kx0)
def q2x:=hull (qh2)
theorem qbbk:q2x=qh2:=qa _
def qbew:SubB Tryz.prog (TIof Tryz.prog) 19 0 (kret [.t 4] decB):=lpB tabOk follows Tryz.f105 37 (.s (.s .z (.s .z (.v [.sel [] []]))) (.s (.b (.s (.d [] [(2,.e 14 qb)] [(0,.c ql8.b)] []) .z)) (.v [.sel [0,3,5] [0]]))) S118_ (qh2) (fun f v K n=>f (v.l 0 0) (v.b 3 0) (v.i 3 1) (v.i 3 2) (v.i 3 3) (qwu K) n) (fun v f K=>qh1 (v.l 0 0) (v.i 20 0) (v.b 3 0) (v.i 3 1) (v.i 3 2) (v.i 3 3) f (qwu K)) (fun f v=>f (v.i 20 0)) (fun k v=>(fun z0=>k (v.ui 20 0 z0)))
def qpt (v0:LA)(B7:Bool)(B8 B9 Ca:Int):Option Bool:=
 (q2x v0 B7 B8 B9 Ca (fun(_:Unit)=>(some false)) FU (0:Int))
def qzr:=hull qpt
theorem qbkp:qzr=qpt:=qa _
def qbms {R:Type}:EntF Tryz.prog R:=entB (nt:=19) (dec:=decB) (enc:=AV.bool) tabOk follows Tryz.func105 [.t 4] hdeB (.s .z (.s (.s .z (.b (.sub [.sel [0,3,5] [0]] qbew []))) .z)) S16_ qpt (fun f v=>f (v.l 0 0) (v.b 5 0) (v.i 5 1) (v.i 5 2) (v.i 5 3))
def S119_:Shp:=⟨[(0,.one (.l (.sl 8))),(3,.one (.ptr 0 0)),(5,.one (.own 1)),(6,.one (.l (.i .i64)))],[.box true (lk qe),.arr true 8]⟩
def quh (K:Ex->Env->Mem->Option (List AV)):=(fun z_a0=>K (.exit 0) (qk [(5,(.own 0 z_a0.length))]) (qh [(some (.arr true 8 z_a0))]))
def qfy (v0:LA)(v6:Int)(Av:Bool)(Aw Ax Ay:Int)(a1:LA)(next:Int->(List AV)->Option (List AV))(kx0:(List AV)->Option (List AV)):Option (List AV):=
 (bif(decide (v6<(v0.length:Int)))then(oB (ixB v0 v6) fun y1=>(bif fitC qb y1.cells then(bif(!(((gB y1.cells 0)==Av)&&(((gI y1.cells 1)==Aw)&&(((gI y1.cells 2)==Ax)&&(((gI y1.cells 3)==Ay)&&true)))))then(oB (ixB v0 v6) fun y2=>(bif fitC qb y2.cells then(bif hd a1 a1.length then(bif hd ([(.agg [(.bool (gB y2.cells 0)),(.int .u64 (gI y2.cells 1)),(.int .u64 (gI y2.cells 2)),(.int .i64 (gI y2.cells 3)),(.int .i64 (gI y2.cells 4)),(.str (gS y2.cells 5)),(.str (gS y2.cells 6)),(.int .i64 (gI y2.cells 7))])]:List AV) (([(.agg [(.bool (gB y2.cells 0)),(.int .u64 (gI y2.cells 1)),(.int .u64 (gI y2.cells 2)),(.int .i64 (gI y2.cells 3)),(.int .i64 (gI y2.cells 4)),(.str (gS y2.cells 5)),(.str (gS y2.cells 6)),(.int .i64 (gI y2.cells 7))])]:List AV).length)then(bif decide ((a1.length+([(.agg [(.bool (gB y2.cells 0)),(.int .u64 (gI y2.cells 1)),(.int .u64 (gI y2.cells 2)),(.int .i64 (gI y2.cells 3)),(.int .i64 (gI y2.cells 4)),(.str (gS y2.cells 5)),(.str (gS y2.cells 6)),(.int .i64 (gI y2.cells 7))])]:List AV).length)*80<=140737488355328)then(next (IntKind.i64.wrap (v6+1)) (a1++([(.agg [(.bool (gB y2.cells 0)),(.int .u64 (gI y2.cells 1)),(.int .u64 (gI y2.cells 2)),(.int .i64 (gI y2.cells 3)),(.int .i64 (gI y2.cells 4)),(.str (gS y2.cells 5)),(.str (gS y2.cells 6)),(.int .i64 (gI y2.cells 7))])]:List AV)))else none)else none)else none)else none))else(next (IntKind.i64.wrap (v6+1)) a1))else none))else(kx0 a1))
def qfz (v0:LA)(Av:Bool)(Aw Ax Ay:Int)(kx0:(List AV)->Option (List AV)):Nat->Int->(List AV)->Option (List AV)
 |0=>(fun _ _=>none)
 |n+1=>(fun v6 a1=>qfy v0 v6 Av Aw Ax Ay a1 (qfz v0 Av Aw Ax Ay kx0 n) kx0)
def qy5:=hull (qfz)
theorem q7h:qy5=qfz:=qa _
def q9c:SubB Tryz.prog (TIof Tryz.prog) 28 0 (kret [.t 4] (decF true 8)):=lpB tabOk follows Tryz.f106 75 (.s (.s .z (.s .z (.v [.sel [5] [1]]))) (.s (.b (.s (.d [] [(2,.e 15 qb)] [] []) (.s (.r [(3,.p (.etac 23 qb))] []) .z))) (.v [.sel [0,3,5,6] [0,1]]))) S119_ (qfz) (fun f v K n=>f (v.l 0 0) (v.b 3 0) (v.i 3 1) (v.i 3 2) (v.i 3 3) (quh K) n) (fun v f K=>qfy (v.l 0 0) (v.i 24 0) (v.b 3 0) (v.i 3 1) (v.i 3 2) (v.i 3 3) (v.r 1) f (quh K)) (fun f v=>f (v.i 24 0) (v.r 1)) (fun k v=>(fun z0 z1=>k ((v.ui 24 0 z0).ur 1 z1)))
def qm2 (v0:LA)(B7:Bool)(B8 B9 Ca:Int):Option (List AV):=
 (bif(hd ([]:List AV) (([]:List AV).length)&&true)then(qy5 v0 B7 B8 B9 Ca (fun a0q1=>(bif hd a0q1 a0q1.length then(some a0q1)else none)) FU (0:Int) ([]:List AV))else none)
def qwg:=hull qm2
theorem qbex:qwg=qm2:=qa _
def qbg2 {R:Type}:EntF Tryz.prog R:=entB (nt:=28) (dec:=(decF true 8)) (enc:=(AV.fr true 8)) tabOk follows Tryz.func106 [.t 4] hdeF (.s .z (.s .z (.s (.s .z (.b (.sub [.own 5 8,.sel [0,3,5,6] [0,1]] q9c []))) .z))) S16_ qm2 (fun f v=>f (v.l 0 0) (v.b 5 0) (v.i 5 1) (v.i 5 2) (v.i 5 3))
def qbey:AV->Option ((List AV)×Int):=decN [(.one (.sl 8)),(.one (.i .i64))] fun z=>(aL (gC (tpL z) 0),aI (gC (tpL z) 1))
def qn6 (v0:LA)(B7:Bool)(B8 B9 Ca:Int):Option ((List AV)×Int):=
 (oB (ql9 v0 B7 B8 B9 Ca) fun r1=>(bif(!r1.2)then(some (([]:List AV),(11:Int)))else(oB (qzr v0 B7 B8 B9 Ca) fun r2=>(bif r2 then(some (([]:List AV),(25:Int)))else(oB (qwg v0 B7 B8 B9 Ca) fun r3=>(some (r3,(0:Int))))))))
def qx9:=hull qn6
theorem qbg3:qx9=qn6:=qa _
def qbkq {R:Type}:EntF Tryz.prog R:=entB (nt:=22) (dec:=qbey) (enc:=(fun r=>.tup [.sl 8 r.1,.int .i64 r.2])) tabOk follows Tryz.func48 [.t 4,.t 5] (hdeN fun _=>rfl) (.s .z (.s (.r [(2,.c qr3.b)] []) (.s (.s .z (.s (.s .z (.v [.eta 4 (.one (.sl 8))])) .z)) (.s (.s (.r [(2,.c qbms.b)] []) (.s (.s .z (.v [.eta 4 (.one (.sl 8))])) .z)) (.s (.r [(2,.k qbg2.b)] []) .z))))) S16_ qn6 (fun f v=>f (v.l 0 0) (v.b 5 0) (v.i 5 1) (v.i 5 2) (v.i 5 3))
def qn7 (Aa:Bool)(Ab Ac Bt:Int):Option Int:=
 (bif Aa then(some (128:Int))else(some (32:Int)))
def qya:=hull qn7
theorem qbg4:qya=qn7:=qa _
def qbkr {R:Type}:EntF Tryz.prog R:=entB (nt:=6) (dec:=(decI .i64)) (enc:=(AV.int .i64)) tabOk follows Tryz.func181 [.t 2] hdeI (.z) S8_ qn7 (fun f v=>f (v.b 1 0) (v.i 1 1) (v.i 1 2) (v.i 1 3))
def S120_:Shp:=⟨[(0,.st (lk qe)),(1,.one (.l (.i .i64)))],[]⟩
def qku (Aa:Bool)(Ab Ac Bt v1:Int):Option Bool:=
 (bif(decide (v1>=Bt))then(oB (qya Aa Ab Ac Bt) fun r1=>(some (decide (v1<=r1))))else(some false))
def q08:=hull qku
theorem q9d:q08=qku:=qa _
def qbbl {R:Type}:EntF Tryz.prog R:=entB (nt:=15) (dec:=decB) (enc:=AV.bool) tabOk follows Tryz.func161 [.t 4] hdeB (.s .z (.s (.r [(7,.c qbkr.b)] []) .z)) S120_ qku (fun f v=>f (v.b 1 0) (v.i 1 1) (v.i 1 2) (v.i 1 3) (v.i 4 0))
def S121_:Shp:=⟨[(0,.one (.l (.sl 8))),(3,.one (.ptr 0 0)),(5,.one (.own 1)),(6,.one (.l (.i .i64))),(7,.one (.l .b)),(8,.one (.l (.i .i64)))],[.box true (lk qe),.arr true 8]⟩
def qr4 (v0:LA)(v6:Int)(Av:Bool)(Aw Ax Ay:Int)(a1:LA)(K:Ex->Env->Mem->Option (List AV)):=(fun z_v7=>K (.exit 2) (qk [(0,(.sl 8 v0)),(3,(.ptr 0 0)),(5,(.own 1 a1.length)),(6,(.int .i64 v6)),(7,(.bool z_v7))]) (qh [(some (.box true (qc Av Aw Ax Ay))),(some (.arr true 8 a1))]))
def qe3 (v0:LA)(v6:Int)(v7:Bool)(v8:Int)(Av:Bool)(Aw Ax Ay:Int)(a1:LA)(next:Bool->Int->Option (List AV))(kx2:Bool->Option (List AV)):Option (List AV):=
 (bif(decide (v8<(v0.length:Int)))then(oB (ixB v0 v8) fun y1=>(bif fitC qb y1.cells then(oB (qk2 (gB y1.cells 0) (gI y1.cells 1) (gI y1.cells 2) (gI y1.cells 3) Av Aw Ax Ay) fun r2=>(bif r2 then(oB (ixB v0 v6) fun y3=>(bif fitC qb y3.cells then(oB (ixB v0 v8) fun y4=>(bif fitC qb y4.cells then(oB (qk2 (gB y3.cells 0) (gI y3.cells 1) (gI y3.cells 2) (gI y3.cells 3) (gB y4.cells 0) (gI y4.cells 1) (gI y4.cells 2) (gI y4.cells 3)) fun r5=>(bif r5 then(next false (IntKind.i64.wrap (v8+1)))else(next v7 (IntKind.i64.wrap (v8+1)))))else none))else none))else(next v7 (IntKind.i64.wrap (v8+1)))))else none))else(kx2 v7))
def qe4 (v0:LA)(v6:Int)(Av:Bool)(Aw Ax Ay:Int)(a1:LA)(kx2:Bool->Option (List AV)):Nat->Bool->Int->Option (List AV)
 |0=>(fun _ _=>none)
 |n+1=>(fun v7 v8=>qe3 v0 v6 v7 v8 Av Aw Ax Ay a1 (qe4 v0 v6 Av Aw Ax Ay a1 kx2 n) kx2)
def qol:=hull (qe4)
theorem q4n:qol=qe4:=qa _
def q5y:SubB Tryz.prog (TIof Tryz.prog) 58 0 (kret [.t 4] (decF true 8)):=lpB tabOk follows Tryz.f183 38475 (.s (.s .z (.s .z (.v [.sel [0,3,5,6,7] [0,1]]))) (.s (.b (.s (.d [] [(2,.e 31 qb),(6,.c ql8.b),(10,.e 39 qb),(15,.e 44 qb)] [(0,.c ql8.b)] []) .z)) (.v [.sel [0,3,5,6,7,8] [0,1]]))) S121_ (qe4) (fun f v K n=>f (v.l 0 0) (v.i 24 0) (v.b 3 0) (v.i 3 1) (v.i 3 2) (v.i 3 3) (v.r 1) (qr4 (v.l 0 0) (v.i 24 0) (v.b 3 0) (v.i 3 1) (v.i 3 2) (v.i 3 3) (v.r 1) K) n) (fun v f K=>qe3 (v.l 0 0) (v.i 24 0) (v.b 28 0) (v.i 32 0) (v.b 3 0) (v.i 3 1) (v.i 3 2) (v.i 3 3) (v.r 1) f (qr4 (v.l 0 0) (v.i 24 0) (v.b 3 0) (v.i 3 1) (v.i 3 2) (v.i 3 3) (v.r 1) K)) (fun f v=>f (v.b 28 0) (v.i 32 0)) (fun k v=>(fun z0 z1=>k ((v.ub 28 0 z0).ui 32 0 z1)))
def qs0 (K:Ex->Env->Mem->Option (List AV)):=(fun z_a0=>K (.exit 0) (qk [(5,(.own 0 z_a0.length))]) (qh [(some (.arr true 8 z_a0))]))
def qfg (v0:LA)(v6:Int)(Av:Bool)(Aw Ax Ay:Int)(a1:LA)(next:Int->(List AV)->Option (List AV))(kx0:(List AV)->Option (List AV)):Option (List AV):=
 (bif(decide (v6<(v0.length:Int)))then(oB (ixB v0 v6) fun y1=>(bif fitC qb y1.cells then(oB (qk2 (gB y1.cells 0) (gI y1.cells 1) (gI y1.cells 2) (gI y1.cells 3) Av Aw Ax Ay) fun r2=>(bif(!r2)then(next (IntKind.i64.wrap (v6+1)) a1)else(bif(hd a1 (a1.length)&&true)then(qol v0 v6 Av Aw Ax Ay a1 (fun v7q3=>(bif v7q3 then(oB (ixB v0 v6) fun y4=>(bif fitC qb y4.cells then(bif hd a1 a1.length then(bif hd ([(.agg [(.bool (gB y4.cells 0)),(.int .u64 (gI y4.cells 1)),(.int .u64 (gI y4.cells 2)),(.int .i64 (gI y4.cells 3)),(.int .i64 (gI y4.cells 4)),(.str (gS y4.cells 5)),(.str (gS y4.cells 6)),(.int .i64 (gI y4.cells 7))])]:List AV) (([(.agg [(.bool (gB y4.cells 0)),(.int .u64 (gI y4.cells 1)),(.int .u64 (gI y4.cells 2)),(.int .i64 (gI y4.cells 3)),(.int .i64 (gI y4.cells 4)),(.str (gS y4.cells 5)),(.str (gS y4.cells 6)),(.int .i64 (gI y4.cells 7))])]:List AV).length)then(bif decide ((a1.length+([(.agg [(.bool (gB y4.cells 0)),(.int .u64 (gI y4.cells 1)),(.int .u64 (gI y4.cells 2)),(.int .i64 (gI y4.cells 3)),(.int .i64 (gI y4.cells 4)),(.str (gS y4.cells 5)),(.str (gS y4.cells 6)),(.int .i64 (gI y4.cells 7))])]:List AV).length)*80<=140737488355328)then(next (IntKind.i64.wrap (v6+1)) (a1++([(.agg [(.bool (gB y4.cells 0)),(.int .u64 (gI y4.cells 1)),(.int .u64 (gI y4.cells 2)),(.int .i64 (gI y4.cells 3)),(.int .i64 (gI y4.cells 4)),(.str (gS y4.cells 5)),(.str (gS y4.cells 6)),(.int .i64 (gI y4.cells 7))])]:List AV)))else none)else none)else none)else none))else(next (IntKind.i64.wrap (v6+1)) a1))) FU true (0:Int))else none)))else none))else(kx0 a1))
def qfh (v0:LA)(Av:Bool)(Aw Ax Ay:Int)(kx0:(List AV)->Option (List AV)):Nat->Int->(List AV)->Option (List AV)
 |0=>(fun _ _=>none)
 |n+1=>(fun v6 a1=>qfg v0 v6 Av Aw Ax Ay a1 (qfh v0 Av Aw Ax Ay kx0 n) kx0)
def qyb:=hull (qfh)
theorem q5z:qyb=qfh:=qa _
def q7i:SubB Tryz.prog (TIof Tryz.prog) 58 0 (kret [.t 4] (decF true 8)):=lpB tabOk follows Tryz.f183 75 (.s (.s .z (.s .z (.v [.sel [5] [1]]))) (.s (.b (.s (.s (.d [] [(2,.e 17 qb)] [(0,.c ql8.b)] []) .z) (.s .z (.s (.s .z (.b (.sub [.sel [0,3,5,6,7,8] [0,1]] q5y []))) (.s .z (.s (.r [(3,.p (.etac 53 qb))] []) .z)))))) (.v [.sel [0,3,5,6] [0,1]]))) S119_ (qfh) (fun f v K n=>f (v.l 0 0) (v.b 3 0) (v.i 3 1) (v.i 3 2) (v.i 3 3) (qs0 K) n) (fun v f K=>qfg (v.l 0 0) (v.i 24 0) (v.b 3 0) (v.i 3 1) (v.i 3 2) (v.i 3 3) (v.r 1) f (qs0 K)) (fun f v=>f (v.i 24 0) (v.r 1)) (fun k v=>(fun z0 z1=>k ((v.ui 24 0 z0).ur 1 z1)))
def qlu (v0:LA)(B7:Bool)(B8 B9 Ca:Int):Option (List AV):=
 (bif(hd ([]:List AV) (([]:List AV).length)&&true)then(qyb v0 B7 B8 B9 Ca (fun a0q1=>(bif hd a0q1 a0q1.length then(some a0q1)else none)) FU (0:Int) ([]:List AV))else none)
def qus:=hull qlu
theorem qbbm:qus=qlu:=qa _
def qbez {R:Type}:EntF Tryz.prog R:=entB (nt:=58) (dec:=(decF true 8)) (enc:=(AV.fr true 8)) tabOk follows Tryz.func183 [.t 4] hdeF (.s .z (.s .z (.s (.s .z (.b (.sub [.own 5 8,.sel [0,3,5,6] [0,1]] q7i []))) .z))) S16_ qlu (fun f v=>f (v.l 0 0) (v.b 5 0) (v.i 5 1) (v.i 5 2) (v.i 5 3))
def qm3 (Aa:Bool)(Ab Ac Bt:Int)(B7:Bool)(B8 B9 Ca:Int):Option Bool:=
 (oB (qjp Aa Ab Ac Bt B7 B8 B9 Ca) fun r1=>(bif r1 then(some true)else(oB (qjp B7 B8 B9 Ca Aa Ab Ac Bt) fun r2=>(some r2))))
def qwh:=hull qm3
theorem qbe0:qwh=qm3:=qa _
def q09 {R:Type}:EntF Tryz.prog R:=entB (nt:=13) (dec:=decB) (enc:=AV.bool) tabOk follows Tryz.func192 [.t 4] hdeB (.s .z (.s (.r [(2,.c qkf.b),(6,.c qkf.b)] []) .z)) S20_ qm3 (fun f v=>f (v.b 1 0) (v.i 1 1) (v.i 1 2) (v.i 1 3) (v.b 5 0) (v.i 5 1) (v.i 5 2) (v.i 5 3))
def S122_:Shp:=⟨[(1,.one (.l (.i .i64))),(3,.one (.ptr 0 0)),(6,.one (.ptr 1 0)),(10,.one (.l (.i .u64))),(11,.one (.l (.i .u64))),(12,.one (.l (.i .i64)))],[.box true (lk qe),.box true (lk qe)]⟩
def qut:AV->Option (AV×Bool):=decN [(.st [.b,(.i .u64),(.i .u64),(.i .i64)]),(.one .b)] fun z=>((gC (tpL z) 0),aB (gC (tpL z) 1))
def qbe1 (v1 v2:Int)(Av:Bool)(Aw Ax Ay:Int)(Ad:Bool)(Ae Af Ag:Int)(K:Ex->Env->Mem->Option (AV×Bool)):=(fun z_v30=>K .norm (qk [(1,(.int .i64 v1)),(2,(.int .u64 v2)),(3,(.ptr 0 0)),(6,(.ptr 1 0)),(30,(.bool z_v30))]) (qh [(some (.box true (qc Av Aw Ax Ay))),(some (.box true (qc Ad Ae Af Ag)))]))
def qm4 (v1 v2:Int)(Av:Bool)(Aw Ax Ay:Int)(Ad:Bool)(Ae Af Ag:Int)(kn:Bool->Option (AV×Bool)):Option (AV×Bool):=
 (oB (qft Av Aw Ax Ay) fun r1=>(bif((!r1)||(decide (v1<Ay)))then(kn true)else(oB (qhj Av) fun r2=>(kn (decide (v1>r2))))))
def qwi:=hull (qm4)
theorem qbe2:qwi=qm4:=qa _
def qbg5:SubB Tryz.prog (TIof Tryz.prog) 78 0 (kret [(.cell 6 true 4),.t 7] qut):=jnB tabOk follows Tryz.f165 9 (.r [(1,.c qik.b),(4,.g 4),(14,.c qjo.b)] [.sel [1,2,3,6,30] [0,1]]) S44_ (qm4) (fun f v K=>f (v.i 4 0) (v.i 8 0) (v.b 3 0) (v.i 3 1) (v.i 3 2) (v.i 3 3) (v.b 7 0) (v.i 7 1) (v.i 7 2) (v.i 7 3) (qbe1 (v.i 4 0) (v.i 8 0) (v.b 3 0) (v.i 3 1) (v.i 3 2) (v.i 3 3) (v.b 7 0) (v.i 7 1) (v.i 7 2) (v.i 7 3) K))
def qwv (v1:Int)(Av:Bool)(Aw Ax Ay:Int)(Ad:Bool)(Ae Af Ag:Int)(K:Ex->Env->Mem->Option (AV×Bool)):=(fun z_v10 z_v11=>K (.exit 0) (qk [(1,(.int .i64 v1)),(3,(.ptr 0 0)),(6,(.ptr 1 0)),(10,(.int .u64 z_v10)),(11,(.int .u64 z_v11))]) (qh [(some (.box true (qc Av Aw Ax Ay))),(some (.box true (qc Ad Ae Af Ag)))]))
def qlv (v1 v10 v11 v12:Int)(Av:Bool)(Aw Ax Ay:Int)(Ad:Bool)(Ae Af Ag:Int)(next:Int->Int->Int->Option (AV×Bool))(kx0:Int->Int->Option (AV×Bool)):Option (AV×Bool):=
 (oB (qhj Av) fun r1=>(bif(decide (v12<r1))then(next (IntKind.u64.wrap ((IntKind.u64.wrap (v10*2))+(IntKind.u64.wrap (v11.tdiv (9223372036854775808:Int))))) (IntKind.u64.wrap (v11*2)) (IntKind.i64.wrap (v12+1)))else(kx0 v10 v11)))
def qeh (v1:Int)(Av:Bool)(Aw Ax Ay:Int)(Ad:Bool)(Ae Af Ag:Int)(kx0:Int->Int->Option (AV×Bool)):Nat->Int->Int->Int->Option (AV×Bool)
 |0=>(fun _ _ _=>none)
 |n+1=>(fun v10 v11 v12=>qlv v1 v10 v11 v12 Av Aw Ax Ay Ad Ae Af Ag (qeh v1 Av Aw Ax Ay Ad Ae Af Ag kx0 n) kx0)
def q2y:=hull (qeh)
theorem qbbn:q2y=qeh:=qa _
def qbe3:SubB Tryz.prog (TIof Tryz.prog) 78 0 (kret [(.cell 6 true 4),.t 7] qut):=lpB tabOk follows Tryz.f165 607 (.s (.s (.r [(4,.c qjo.b)] []) (.s .z (.v [.sel [1,3,6,10,11] [0,1]]))) (.s .z (.v [.sel [1,3,6,10,11,12] [0,1]]))) S122_ (qeh) (fun f v K n=>f (v.i 4 0) (v.b 3 0) (v.i 3 1) (v.i 3 2) (v.i 3 3) (v.b 7 0) (v.i 7 1) (v.i 7 2) (v.i 7 3) (qwv (v.i 4 0) (v.b 3 0) (v.i 3 1) (v.i 3 2) (v.i 3 3) (v.b 7 0) (v.i 7 1) (v.i 7 2) (v.i 7 3) K) n) (fun v f K=>qlv (v.i 4 0) (v.i 40 0) (v.i 44 0) (v.i 48 0) (v.b 3 0) (v.i 3 1) (v.i 3 2) (v.i 3 3) (v.b 7 0) (v.i 7 1) (v.i 7 2) (v.i 7 3) f (qwv (v.i 4 0) (v.b 3 0) (v.i 3 1) (v.i 3 2) (v.i 3 3) (v.b 7 0) (v.i 7 1) (v.i 7 2) (v.i 7 3) K)) (fun f v=>f (v.i 40 0) (v.i 44 0) (v.i 48 0)) (fun k v=>(fun z0 z1 z2=>k (((v.ui 40 0 z0).ui 44 0 z1).ui 48 0 z2)))
def qr5 (Aa:Bool)(Ab Ac Bt v1 v2:Int):Option (AV×Bool):=
 (qwi v1 v2 Aa Ab Ac Bt false (0:Int) (0:Int) (0:Int) (fun v30q1=>(bif v30q1 then(some ((.agg [(.bool false),(.int .u64 (0:Int)),(.int .u64 (0:Int)),(.int .i64 (0:Int))]),false))else(oB (qqi (IntKind.i64.wrap (v1-Bt))) fun r2=>(bif(decide (v2>r2.2))then(some ((.agg [(.bool false),(.int .u64 (0:Int)),(.int .u64 (0:Int)),(.int .i64 (0:Int))]),false))else(q2y v1 Aa Ab Ac Bt false (0:Int) (0:Int) (0:Int) (fun v10q3 v11q4=>(some ((.agg [(.bool Aa),(.int .u64 (IntKind.u64.wrap (Ab+v10q3))),(.int .u64 (IntKind.u64.wrap (Ac+v11q4))),(.int .i64 v1)]),true))) FU (0:Int) v2 v1))))))
def qhk:=hull qr5
theorem qbmt:qhk=qr5:=qa _
def qyc {R:Type}:EntF Tryz.prog R:=entB (nt:=78) (dec:=qut) (enc:=(fun r=>.tup [qck (.st [.b,(.i .u64),(.i .u64),(.i .i64)]) r.1,.bool r.2])) tabOk follows Tryz.func165 [(.cell 6 true 4),.t 7] (hdeN fun _=>rfl) (.s .z (.s (.s (.sub [.sel [1,2,3,6] [0,1]] qbg5 []) .z) (.s (.r [(4,.c qxy.b)] []) (.s .z (.s .z (.s (.s .z (.b (.sub [.sel [1,3,6,10,11,12] [0,1]] qbe3 []))) .z)))))) S47_ qr5 (fun f v=>f (v.b 1 0) (v.i 1 1) (v.i 1 2) (v.i 1 3) (v.i 4 0) (v.i 8 0))
def qbe4:AV->Option (AV×AV×Bool):=decN [(.st [.b,(.i .u64),(.i .u64),(.i .i64)]),(.st [.b,(.i .u64),(.i .u64),(.i .i64)]),(.one .b)] fun z=>((gC (tpL z) 0),(gC (tpL z) 1),aB (gC (tpL z) 2))
def qn8 (Aa:Bool)(Ab Ac Bt:Int):Option (AV×AV×Bool):=
 (oB (qhk Aa Ab Ac Bt (IntKind.i64.wrap (Bt+1)) (0:Int)) fun r1=>(oB (qhk Aa Ab Ac Bt (IntKind.i64.wrap (Bt+1)) (1:Int)) fun r2=>(bif(!r2.2)then(some ((.agg [(.bool false),(.int .u64 (0:Int)),(.int .u64 (0:Int)),(.int .i64 (0:Int))]),(.agg [(.bool false),(.int .u64 (0:Int)),(.int .u64 (0:Int)),(.int .i64 (0:Int))]),false))else(some ((.agg [(.bool (gB r1.1.cells 0)),(.int .u64 (gI r1.1.cells 1)),(.int .u64 (gI r1.1.cells 2)),(.int .i64 (gI r1.1.cells 3))]),(.agg [(.bool (gB r2.1.cells 0)),(.int .u64 (gI r2.1.cells 1)),(.int .u64 (gI r2.1.cells 2)),(.int .i64 (gI r2.1.cells 3))]),true)))))
def qr6:=hull qn8
theorem qbg6:qr6=qn8:=qa _
def quu {R:Type}:EntF Tryz.prog R:=entB (nt:=31) (dec:=qbe4) (enc:=(fun r=>.tup [qck (.st [.b,(.i .u64),(.i .u64),(.i .i64)]) r.1,qck (.st [.b,(.i .u64),(.i .u64),(.i .i64)]) r.2.1,.bool r.2.2])) tabOk follows Tryz.func164 [(.cell 2 true 4),(.cell 3 true 4),.t 4] (hdeN fun _=>rfl) (.s .z (.s (.r [(4,.c qyc.b)] []) (.s (.r [(4,.c qyc.b)] []) .z))) S8_ qn8 (fun f v=>f (v.b 1 0) (v.i 1 1) (v.i 1 2) (v.i 1 3))
def q2z:Shp:=⟨[(0,.one (.l (.sl 8))),(1,.st (lk qe))],[]⟩
def qda {R:Type}(rec:(List AV)->Bool->Int->Int->Int->Option (List AV))(xs:LA)(K:AV->Option R):Option R:=chk (fitS q2z (qbq xs) Mem.none) (oB (rec (gL [(qbq xs) 0] 0) (gB ((qbq xs) 1).cells 0) (gI ((qbq xs) 1).cells 1) (gI ((qbq xs) 1).cells 2) (gI ((qbq xs) 1).cells 3)) fun r=>K ((AV.fr true 4) r))
def qkv (v0:LA)(Av:Bool)(Aw Ax Ay:Int)(K:Ex->Env->Mem->Option (List AV)):=(fun z_v5=>K (.exit 0) (qk [(0,(.sl 8 v0)),(3,(.ptr 0 0)),(5,(.bool z_v5))]) (qh [(some (.box true (qc Av Aw Ax Ay)))]))
def qbbo:Shp:=⟨[(0,.one (.l (.sl 8))),(3,.one (.ptr 0 0)),(5,.one (.l .b)),(6,.one (.l (.i .i64)))],[.box true (lk qe)]⟩
def qq7 (v0:LA)(v5:Bool)(v6:Int)(Av:Bool)(Aw Ax Ay:Int):Env:=qk [(0,(.sl 8 v0)),(3,(.ptr 0 0)),(5,(.bool v5)),(6,(.int .i64 v6))]
def qq8 (v0:LA)(v5:Bool)(v6:Int)(Av:Bool)(Aw Ax Ay:Int):Mem:=qh [(some (.box true (qc Av Aw Ax Ay)))]
def qf0 (rec:(List AV)->Bool->Int->Int->Int->Option (List AV))(v0:LA)(v5:Bool)(v6:Int)(Av:Bool)(Aw Ax Ay:Int)(next:Bool->Int->Option (List AV))(kx0:Bool->Option (List AV)):Option (List AV):=
 (bif(decide (v6<(v0.length:Int)))then(oB (ixB v0 v6) fun y1=>(bif fitC qb y1.cells then(oB (qjp Av Aw Ax Ay (gB y1.cells 0) (gI y1.cells 1) (gI y1.cells 2) (gI y1.cells 3)) fun r2=>(bif r2 then(bif hd ([]:List AV) (([]:List AV).length)then(some ([]:List AV))else none)else(oB (ixB v0 v6) fun y3=>(bif fitC qb y3.cells then(oB (qwh Av Aw Ax Ay (gB y3.cells 0) (gI y3.cells 1) (gI y3.cells 2) (gI y3.cells 3)) fun r4=>(bif r4 then(next true (IntKind.i64.wrap (v6+1)))else(next v5 (IntKind.i64.wrap (v6+1)))))else none))))else none))else(kx0 v5))
def qm5 (rec:(List AV)->Bool->Int->Int->Int->Option (List AV))(v0:LA)(Av:Bool)(Aw Ax Ay:Int)(kx0:Bool->Option (List AV)):Nat->Bool->Int->Option (List AV)
 |0=>(fun _ _=>none)
 |n+1=>(fun v5 v6=>qf0 rec v0 v5 v6 Av Aw Ax Ay (qm5 rec v0 Av Aw Ax Ay kx0 n) kx0)
def qld (rec:(List AV)->Bool->Int->Int->Int->Option (List AV)):=hull (qm5 rec)
theorem qy6 (rec:(List AV)->Bool->Int->Int->Int->Option (List AV)):qld rec=qm5 rec:=qa _
def qf1 (rec:(List AV)->Bool->Int->Int->Int->Option (List AV)):AC (List AV):=
 .seq (.seq (.reg [ao 11 (.mv 6),
 ao 12 (.mv 0),
 ao 13 (.len false 12),
 ao 14 (.bin .lss 11 13)]) (.cond 14 (.skip) (.seq (.view [.sel [0,3,5] [0]]) (.exit 0)))) (.seq (.block 1 (.seq (.seq (.draw [] [ao 17 (.load true 4 3),
 ao 18 (.mv 0),
 ao 19 (.mv 6),
 ao 20 (.ia 8 18 19),
 .et 20 qb,
 ao 21 (.fa 0 20),
 ao 22 (.load true 4 21)] [.call (po 23 (.call 128 [17,22])) 128 qkf.e]) (.cond 23 (.seq (.reg [ao 4 (.mv (.c .nils))]) (.seq (.view [.own 4 4]) (.ret))) (.skip))) (.seq (.draw [] [ao 24 (.load true 4 3),
 ao 25 (.mv 0),
 ao 26 (.mv 6),
 ao 27 (.ia 8 25 26),
 .et 27 qb,
 ao 28 (.fa 0 27),
 ao 29 (.load true 4 28)] [.call (po 30 (.call 192 [24,29])) 192 q09.e]) (.cond 30 (.reg [ao 5 (.mv (.c (.bool true)))]) (.skip))))) (.seq (.reg [ao 15 (.mv 6),
 ao 16 (.bin .add 15 (.c (.int .i64 1))),
 ao 6 (.mv 16)]) (.view [.sel [0,3,5,6] [0]])))
theorem qbe5 (rec:(List AV)->Bool->Int->Int->Int->Option (List AV))(hrec:qdm Tryz.prog 182 (qda (R:=(List AV)) rec)):AC.ok Tryz.prog (TIof Tryz.prog) 53 0 (kret [.t 4] (decF true 4)) (qf1 rec):=qbus (zA (qdm.ok qkf.h) (zA rfl (zA (qdm.ok q09.h) (zA rfl trivial))))
theorem qbbp (rec:(List AV)->Bool->Int->Int->Int->Option (List AV))(v0:LA)(v5:Bool)(v6:Int)(Av:Bool)(Aw Ax Ay:Int)(K:Ex->Env->Mem->Option (List AV)):den 0 (kret [.t 4] (decF true 4)) (qf1 rec) (qq7 v0 v5 v6 Av Aw Ax Ay) (qq8 v0 v5 v6 Av Aw Ax Ay) K=qf0 rec v0 v5 v6 Av Aw Ax Ay (fun z_v5 z_v6=>K .norm (qq7 v0 z_v5 z_v6 Av Aw Ax Ay) (qq8 v0 z_v5 z_v6 Av Aw Ax Ay)) (qkv v0 Av Aw Ax Ay K):=by kernel_rfl
theorem qbg7 (rec:(List AV)->Bool->Int->Int->Int->Option (List AV))(v0:LA)(Av:Bool)(Aw Ax Ay:Int)(K:Ex->Env->Mem->Option (List AV)):∀(n:Nat) (v5:Bool) (v6:Int),qv4 (den 0 (kret [.t 4] (decF true 4)) (qf1 rec)) n (qq7 v0 v5 v6 Av Aw Ax Ay) (qq8 v0 v5 v6 Av Aw Ax Ay) K=qld rec v0 Av Aw Ax Ay (qkv v0 Av Aw Ax Ay K) n v5 v6:=by
 rw[qy6]
 intro n
 induction n with
 |zero=>intros;rfl
 |succ n ih=>
 intro v5 v6
 exact(qbbp rec v0 v5 v6 Av Aw Ax Ay (itK (den 0 (kret [.t 4] (decF true 4)) (qf1 rec)) n K)).trans (congrArg (fun q=>qf0 rec v0 v5 v6 Av Aw Ax Ay q (qkv v0 Av Aw Ax Ay K)) (funext fun v5=>funext fun v6=>ih v5 v6))
def q1a (rec:(List AV)->Bool->Int->Int->Int->Option (List AV)):=subE (R:=(List AV)) qbbo fun t m K=>q54 (bxC (m.s 0)) (qld rec (gL [t 0] 0)) (qkv (gL [t 0] 0) (gB (bxC (m.s 0)) 0) (gI (bxC (m.s 0)) 1) (gI (bxC (m.s 0)) 2) (gI (bxC (m.s 0)) 3) K) FU (gB [t 5] 0) (gI [t 6] 0)
theorem qbg8 (rec:(List AV)->Bool->Int->Int->Int->Option (List AV))(hrec:qdm Tryz.prog 182 (qda (R:=(List AV)) rec)):q3d Tryz.prog (TIof Tryz.prog) 53 0 (kret [.t 4] (decF true 4)) (.loop (scOf (qf1 rec))) (q1a rec):=
 qbrm tabOk follows (qbe5 rec hrec) (qbiw (by kernel_rfl)) fun t m K=>qbg7 rec _ _ _ _ _ K FU _ _
def qm6 (rec:(List AV)->Bool->Int->Int->Int->Option (List AV))(v0:LA)(B7:Bool)(B8 B9 Ca:Int):Option (List AV):=
 (qld rec v0 B7 B8 B9 Ca (fun v5q1=>(bif(!v5q1)then(bif hd ([(.agg [(.bool B7),(.int .u64 B8),(.int .u64 B9),(.int .i64 Ca)])]:List AV) (([(.agg [(.bool B7),(.int .u64 B8),(.int .u64 B9),(.int .i64 Ca)])]:List AV).length)then(some ([(.agg [(.bool B7),(.int .u64 B8),(.int .u64 B9),(.int .i64 Ca)])]:List AV))else none)else(oB (qr6 B7 B8 B9 Ca) fun r2=>(bif(!r2.2.2)then(bif hd ([]:List AV) (([]:List AV).length)then(some ([]:List AV))else none)else(oB (rec v0 (gB r2.1.cells 0) (gI r2.1.cells 1) (gI r2.1.cells 2) (gI r2.1.cells 3)) fun r3=>(bif decide ((([]:List AV).length+r3.length)*32<=140737488355328)then(oB (rec v0 (gB r2.2.1.cells 0) (gI r2.2.1.cells 1) (gI r2.2.1.cells 2) (gI r2.2.1.cells 3)) fun r4=>(bif hd r3 r3.length then(bif decide ((r3.length+r4.length)*32<=140737488355328)then(bif hd (r3++r4) ((r3++r4).length)then(some (r3++r4))else none)else none)else none))else none)))))) FU false (0:Int))
def qcs:Nat->(List AV)->Bool->Int->Int->Int->Option (List AV)
 |0=>(fun _ _ _ _ _=>none)
 |n+1=>(fun v0 B7 B8 B9 Ca=>qm6 (qcs n) v0 B7 B8 B9 Ca)
def q2b:(List AV)->Bool->Int->Int->Int->Option (List AV):=hull (qcs FU)
theorem q4o:q2b=qcs FU:=qa _
def qm7 (rec:(List AV)->Bool->Int->Int->Int->Option (List AV)):AC (List AV):=
 .seq (.reg [ao 3 (.box 1),
 ao 4 (.mv (.c .nils))]) (.seq (.reg [ao 5 (.mv (.c (.bool false)))]) (.seq (.seq (.reg [ao 6 (.mv (.c (.int .i64 0)))]) (.block 0 (.seq (.view [.sel [0,3,5,6] [0]]) (.sub (.loop (scOf (qf1 rec))) (q1a rec))))) (.seq (.seq (.reg [ao 31 (.mv 5),
 ao 32 (.un .not 31)]) (.cond 32 (.seq (.reg [ao 33 (.load true 4 3),
 ao 34 (.bsl 4 [33]),
 ao 4 (.mv 34)]) (.ret)) (.skip))) (.seq (.reg [ao 36 (.load true 4 3),
 .call (po 37 (.call 164 [36])) 164 quu.e,
 ao 35 (.mv 37),
 ao 38 (.ext 35 0),
 ao 39 (.ext 35 1),
 ao 40 (.ext 35 2),
 ao 7 (.alloc [(.bool false),(.int .u64 0),(.int .u64 0),(.int .i64 0)]),
 ao 8 (.alloc [(.bool false),(.int .u64 0),(.int .u64 0),(.int .i64 0)]),
 an (.store 4 7 38),
 an (.store 4 8 39),
 ao 9 (.mv 40)]) (.seq (.seq (.reg [ao 41 (.mv 9),
 ao 42 (.un .not 41)]) (.cond 42 (.seq (.reg [ao 4 (.mv (.c .nils))]) (.seq (.view [.own 4 4]) (.ret))) (.skip))) (.seq (.reg [ao 10 (.mv (.c .nils))]) (.seq (.reg [ao 43 (.mv 10),
 ao 44 (.mv 0),
 ao 45 (.load true 4 7),
 .callc (po 46 (.call 182 [44,45])) 182 (qda rec),
 ao 47 (.app 4 32 43 46),
 ao 10 (.mv 47)]) (.seq (.reg [ao 48 (.mv 10),
 ao 49 (.mv 0),
 ao 50 (.load true 4 8),
 .callc (po 51 (.call 182 [49,50])) 182 (qda rec),
 ao 52 (.app 4 32 48 51),
 ao 4 (.mv 52)]) (.ret)))))))))
theorem qbmu (rec:(List AV)->Bool->Int->Int->Int->Option (List AV))(hrec:qdm Tryz.prog 182 (qda (R:=(List AV)) rec)):AC.ok Tryz.prog (TIof Tryz.prog) 53 0 (kret [.t 4] (decF true 4)) (qm7 rec):=qbus (zA (qbg8 rec hrec) (zA (qdm.ok quu.h) (zA (qdm.ok hrec) (zA (qdm.ok hrec) trivial))))
theorem qbod (rec:(List AV)->Bool->Int->Int->Int->Option (List AV))(v0:LA)(B7:Bool)(B8 B9 Ca:Int):den 0 (kret [.t 4] (decF true 4)) (qm7 rec) (qk [(0,(.sl 8 v0)),(1,.agg (qc B7 B8 B9 Ca))]) (qh []) (kend (kret [.t 4] (decF true 4)))=qm6 rec v0 B7 B8 B9 Ca:=by
 kernel_rfl
theorem qboe:cFn (TIof Tryz.prog) Tryz.f182=some ⟨53,[.t 4],scOf (qm7 (fun _ _ _ _ _=>none))⟩:=by kernel_rfl
theorem qbof (rec:(List AV)->Bool->Int->Int->Int->Option (List AV)):(qm7 rec).er=some (scOf (qm7 (fun _ _ _ _ _=>none))):=by kernel_rfl
theorem q4p:∀(k:Nat) {R:Type},qdm Tryz.prog 182 (qda (R:=R) (qcs k))
 |0=>fun xs K r h=>by
  unfold qda at h
  obtain⟨_,h2,_⟩:=qc1 (qlg h).2
  cases h2
 |k+1=>qb1a (F:=fun xs=>qm6 (qcs k) (gL [(qbq xs) 0] 0) (gB ((qbq xs) 1).cells 0) (gI ((qbq xs) 1).cells 1) (gI ((qbq xs) 1).cells 2) (gI ((qbq xs) 1).cells 3)) (enc:=(AV.fr true 4)) tabOk follows Tryz.func182 (by kernel_rfl) qboe (hdeF) (qbmu (qcs k) (q4p k)) (qbof (qcs k)) q2z (fun xs=>qbod (qcs k) (gL [(qbq xs) 0] 0) (gB ((qbq xs) 1).cells 0) (gI ((qbq xs) 1).cells 1) (gI ((qbq xs) 1).cells 2) (gI ((qbq xs) 1).cells 3)) (fun xs K r h=>by
 unfold qda at h
 exact⟨(qlg h).1,qc1 (qlg h).2⟩)
def qbks {R:Type}(xs:LA)(K:AV->Option R):Option R:=qda q2b xs K
theorem qbog {R:Type}:qdm Tryz.prog 182 (qbks (R:=R)):=by
 have h:=q4p FU (R:=R)
 rw[<-q4o]at h
 exact h
def S123_:Shp:=⟨[(0,.one (.l (.sl 8))),(3,.one (.ptr 0 0)),(5,.one (.ptr 1 0)),(6,.one (.l .b))],[.box true (lk qe),.box true (lk qb)]⟩
def qbe6 (v0:LA)(Av:Bool)(Aw Ax Ay:Int)(K:Ex->Env->Mem->Option (List AV)):=(fun z_v24=>K .norm (qk [(0,(.sl 8 v0)),(3,(.ptr 0 0)),(24,(.bool z_v24))]) (qh [(some (.box true (qc Av Aw Ax Ay)))]))
def qja (v0:LA)(v6 Av:Bool)(Aw Ax Ay:Int)(Ad:Bool)(Ae Af Ag Ah:Int)(Ai Aj:LU)(Ak:Int)(kn:Bool->Option (List AV)):Option (List AV):=
 (bif((!v6)||(Ah != (1:Int)))then(kn true)else(oB (qft Av Aw Ax Ay) fun r1=>(kn (!r1))))
def q4q:=hull (qja)
theorem qy7:q4q=qja:=qa _
def qbg9:SubB Tryz.prog (TIof Tryz.prog) 30 0 (kret [.t 4] (decX (.one (.sl 4)) fun z=>aL z)):=jnB tabOk follows Tryz.f163 19 (.r [(3,.g 3),(9,.c qik.b)] [.sel [0,3,24] [0]]) S123_ (qja) (fun f v K=>f (v.l 0 0) (v.b 24 0) (v.b 3 0) (v.i 3 1) (v.i 3 2) (v.i 3 3) (v.b 7 0) (v.i 7 1) (v.i 7 2) (v.i 7 3) (v.i 7 4) (v.s 7 5) (v.s 7 6) (v.i 7 7) (qbe6 (v.l 0 0) (v.b 3 0) (v.i 3 1) (v.i 3 2) (v.i 3 3) K))
def qr7 (v0:LA)(B7:Bool)(B8 B9 Ca:Int):Option (List AV):=
 (oB (ql9 v0 B7 B8 B9 Ca) fun r1=>(q4q v0 r1.2 B7 B8 B9 Ca (gB r1.1.cells 0) (gI r1.1.cells 1) (gI r1.1.cells 2) (gI r1.1.cells 3) (gI r1.1.cells 4) (gS r1.1.cells 5) (gS r1.1.cells 6) (gI r1.1.cells 7) (fun v24q2=>(bif v24q2 then(some ([]:List AV))else(oB (qus v0 B7 B8 B9 Ca) fun r3=>(oB (q2b r3 B7 B8 B9 Ca) fun r4=>(some r4)))))))
def qv0:=hull qr7
theorem qbmv:qv0=qr7:=qa _
def qboh {R:Type}:EntF Tryz.prog R:=entB (nt:=30) (dec:=(decX (.one (.sl 4)) fun z=>aL z)) (enc:=(fun r=>.sl 4 r)) tabOk follows Tryz.func163 [.t 4] (hdeX fun _=>rfl) (.s .z (.s (.r [(2,.c qr3.b)] []) (.s (.s (.sub [.sel [0,3,5,6] [0,1]] qbg9 []) (.s (.s .z (.v [.eta 4 (.one (.sl 4))])) .z)) (.s (.d [] [(2,.c qbez.b)] [(0,.k (eB qbog))] []) .z)))) S16_ qr7 (fun f v=>f (v.l 0 0) (v.b 5 0) (v.i 5 1) (v.i 5 2) (v.i 5 3))
def S124_:Shp:=⟨[(0,.one (.l (.sl 4))),(1,.one (.l (.i .i64))),(2,.one (.l (.i .i64))),(6,.one (.ptr 0 0)),(8,.one (.l .b)),(9,.one (.ptr 1 0)),(10,.one (.l (.i .i64)))],[.box true (lk qe),.box true (lk qe)]⟩
def S125_:Shp:=⟨[(0,.one (.l (.sl 4))),(1,.one (.l (.i .i64))),(2,.one (.l (.i .i64)))],[]⟩
def qs1:AV->Option (AV×Bool):=decN [(.st [.b,(.i .u64),(.i .u64),(.i .i64)]),(.one .b)] fun z=>((gC (tpL z) 0),aB (gC (tpL z) 1))
def q9e (v0:LA)(v1 v2:Int)(v8:Bool)(v10:Int)(Av:Bool)(Aw Ax Ay:Int)(Ad:Bool)(Ae Af Ag:Int)(K:Ex->Env->Mem->Option (AV×Bool)):=(fun z_v41=>K .norm (qk [(0,(.sl 4 v0)),(1,(.int .i64 v1)),(2,(.int .i64 v2)),(6,(.ptr 0 0)),(8,(.bool v8)),(9,(.ptr 1 0)),(10,(.int .i64 v10)),(41,(.bool z_v41))]) (qh [(some (.box true (qc Av Aw Ax Ay))),(some (.box true (qc Ad Ae Af Ag)))]))
def qkw (v0:LA)(v1 v2:Int)(v8:Bool)(v10:Int)(Av:Bool)(Aw Ax Ay:Int)(Ad:Bool)(Ae Af Ag:Int)(kn:Bool->Option (AV×Bool)):Option (AV×Bool):=
 (oB (ixB v0 v10) fun y1=>(bif fitC qe y1.cells then(bif(decide ((gI y1.cells 3)<=v1))then(bif(!v8)then(kn true)else(oB (ixB v0 v10) fun y2=>(bif fitC qe y2.cells then(kn (decide ((IntKind.i64.wrap ((IntKind.i64.wrap ((gI y2.cells 3)-Ag))*v2))>0)))else none)))else(kn false))else none))
def q1b:=hull (qkw)
theorem q9f:q1b=qkw:=qa _
def qbbq:SubB Tryz.prog (TIof Tryz.prog) 48 0 (kret [(.cell 6 true 4),.t 7] qs1):=jnB tabOk follows Tryz.f162 2199 (.d [] [(2,.e 20 qe),(13,.e 31 qe)] [] [.sel [0,1,2,6,8,9,10,41] [0,1]]) S124_ (qkw) (fun f v K=>f (v.l 0 0) (v.i 4 0) (v.i 8 0) (v.b 32 0) (v.i 40 0) (v.b 3 0) (v.i 3 1) (v.i 3 2) (v.i 3 3) (v.b 7 0) (v.i 7 1) (v.i 7 2) (v.i 7 3) (q9e (v.l 0 0) (v.i 4 0) (v.i 8 0) (v.b 32 0) (v.i 40 0) (v.b 3 0) (v.i 3 1) (v.i 3 2) (v.i 3 3) (v.b 7 0) (v.i 7 1) (v.i 7 2) (v.i 7 3) K))
def qvc (Av:Bool)(Aw Ax Ay:Int)(K:Ex->Env->Mem->Option (AV×Bool)):=(fun z_v8 z_b1_0 z_b1_1 z_b1_2 z_b1_3=>K (.exit 0) (qk [(6,(.ptr 0 0)),(8,(.bool z_v8)),(9,(.ptr 1 0))]) (qh [(some (.box true (qc Av Aw Ax Ay))),(some (.box true (qc z_b1_0 z_b1_1 z_b1_2 z_b1_3)))]))
def qg0 (v0:LA)(v1 v2:Int)(v8:Bool)(v10:Int)(Av:Bool)(Aw Ax Ay:Int)(Ad:Bool)(Ae Af Ag:Int)(next:Bool->Int->Bool->Int->Int->Int->Option (AV×Bool))(kx0:Bool->Bool->Int->Int->Int->Option (AV×Bool)):Option (AV×Bool):=
 (bif(decide (v10<(v0.length:Int)))then(q1b v0 v1 v2 v8 v10 Av Aw Ax Ay Ad Ae Af Ag (fun v41q1=>(bif v41q1 then(oB (ixB v0 v10) fun y2=>(bif fitC qe y2.cells then(next true (IntKind.i64.wrap (v10+1)) (gB y2.cells 0) (gI y2.cells 1) (gI y2.cells 2) (gI y2.cells 3))else none))else(next v8 (IntKind.i64.wrap (v10+1)) Ad Ae Af Ag))))else(kx0 v8 Ad Ae Af Ag))
def qg1 (v0:LA)(v1 v2:Int)(Av:Bool)(Aw Ax Ay:Int)(kx0:Bool->Bool->Int->Int->Int->Option (AV×Bool)):Nat->Bool->Int->Bool->Int->Int->Int->Option (AV×Bool)
 |0=>(fun _ _ _ _ _ _=>none)
 |n+1=>(fun v8 v10 Ad Ae Af Ag=>qg0 v0 v1 v2 v8 v10 Av Aw Ax Ay Ad Ae Af Ag (qg1 v0 v1 v2 Av Aw Ax Ay kx0 n) kx0)
def q1c:=hull (qg1)
theorem q9g:q1c=qg1:=qa _
def qbbr:SubB Tryz.prog (TIof Tryz.prog) 48 0 (kret [(.cell 6 true 4),.t 7] qs1):=lpB tabOk follows Tryz.f162 151 (.s (.s .z (.s .z (.v [.sel [6,8,9] [0,1]]))) (.s (.b (.s (.sub [.sel [0,1,2,6,8,9,10] [0,1]] qbbq []) (.s (.s (.r [(2,.p (.etac 44 qe))] []) .z) .z))) (.v [.sel [0,1,2,6,8,9,10] [0,1]]))) S124_ (qg1) (fun f v K n=>f (v.l 0 0) (v.i 4 0) (v.i 8 0) (v.b 3 0) (v.i 3 1) (v.i 3 2) (v.i 3 3) (qvc (v.b 3 0) (v.i 3 1) (v.i 3 2) (v.i 3 3) K) n) (fun v f K=>qg0 (v.l 0 0) (v.i 4 0) (v.i 8 0) (v.b 32 0) (v.i 40 0) (v.b 3 0) (v.i 3 1) (v.i 3 2) (v.i 3 3) (v.b 7 0) (v.i 7 1) (v.i 7 2) (v.i 7 3) f (qvc (v.b 3 0) (v.i 3 1) (v.i 3 2) (v.i 3 3) K)) (fun f v=>f (v.b 32 0) (v.i 40 0) (v.b 7 0) (v.i 7 1) (v.i 7 2) (v.i 7 3)) (fun k v=>(fun z0 z1 z2 z3 z4 z5=>k ((((((v.ub 32 0 z0).ui 40 0 z1).ub 7 0 z2).ui 7 1 z3).ui 7 2 z4).ui 7 3 z5)))
def qpu (v0:LA)(v1 v2:Int):Option (AV×Bool):=
 (q1c v0 v1 v2 false (0:Int) (0:Int) (0:Int) (fun v8q1 b1_0q2 b1_1q3 b1_2q4 b1_3q5=>(some ((.agg [(.bool b1_0q2),(.int .u64 b1_1q3),(.int .u64 b1_2q4),(.int .i64 b1_3q5)]),v8q1))) FU false (0:Int) false (0:Int) (0:Int) (0:Int))
def qk9:=hull qpu
theorem qbkt:qk9=qpu:=qa _
def qbmw {R:Type}:EntF Tryz.prog R:=entB (nt:=48) (dec:=qs1) (enc:=(fun r=>.tup [qck (.st [.b,(.i .u64),(.i .u64),(.i .i64)]) r.1,.bool r.2])) tabOk follows Tryz.func162 [(.cell 6 true 4),.t 7] (hdeN fun _=>rfl) (.s .z (.s .z (.s .z (.s (.s .z (.b (.sub [.sel [0,1,2,6,8,9,10] [0,1]] qbbr []))) .z)))) S125_ qpu (fun f v=>f (v.l 0 0) (v.i 4 0) (v.i 8 0))
def S126_:Shp:=⟨[(0,.one (.l (.sl 8))),(2,.one (.l (.i .i64))),(3,.one (.l (.i .i64))),(5,.one (.ptr 0 0)),(8,.one (.ptr 1 0)),(12,.one (.l (.i .i64)))],[.box true (lk qe),.box true (lk qe)]⟩
def S127_:Shp:=⟨[(2,.one (.l (.i .i64))),(3,.one (.l (.i .i64))),(8,.one (.ptr 0 0)),(13,.one (.ptr 1 0))],[.box true (lk qe),.box true (lk qe)]⟩
def qlw:AV->Option (AV×Int):=decN [(.st [.b,(.i .u64),(.i .u64),(.i .i64)]),(.one (.i .i64))] fun z=>((gC (tpL z) 0),aI (gC (tpL z) 1))
def q7j (v0:LA)(v2 v3:Int)(Av:Bool)(Aw Ax Ay:Int)(Ad:Bool)(Ae Af Ag:Int)(K:Ex->Env->Mem->Option (AV×Int)):=(fun z_v12=>K .norm (qk [(0,(.sl 8 v0)),(2,(.int .i64 v2)),(3,(.int .i64 v3)),(5,(.ptr 0 0)),(8,(.ptr 1 0)),(12,(.int .i64 z_v12))]) (qh [(some (.box true (qc Av Aw Ax Ay))),(some (.box true (qc Ad Ae Af Ag)))]))
def qjr (v0:LA)(v2 v3 v12:Int)(Av:Bool)(Aw Ax Ay:Int)(Ad:Bool)(Ae Af Ag:Int)(kn:Int->Option (AV×Int)):Option (AV×Int):=
 (bif(v3==2)then(kn (1:Int))else(kn v12))
def qy8:=hull (qjr)
theorem q7k:qy8=qjr:=qa _
def q9h:SubB Tryz.prog (TIof Tryz.prog) 79 0 (kret [(.cell 8 true 4),.t 9] qlw):=jnB tabOk follows Tryz.f107 191 (.s .z (.s (.v [.sel [0,2,3,5,8,12] [0,1]]) (.v [.sel [0,2,3,5,8,12] [0,1]]))) S126_ (qjr) (fun f v K=>f (v.l 0 0) (v.i 8 0) (v.i 12 0) (v.i 48 0) (v.b 3 0) (v.i 3 1) (v.i 3 2) (v.i 3 3) (v.b 7 0) (v.i 7 1) (v.i 7 2) (v.i 7 3) (q7j (v.l 0 0) (v.i 8 0) (v.i 12 0) (v.b 3 0) (v.i 3 1) (v.i 3 2) (v.i 3 3) (v.b 7 0) (v.i 7 1) (v.i 7 2) (v.i 7 3) K))
def q7l (v0:LA)(v2 v3:Int)(Av:Bool)(Aw Ax Ay:Int)(Ad:Bool)(Ae Af Ag:Int)(K:Ex->Env->Mem->Option (AV×Int)):=(fun z_v12=>K .norm (qk [(0,(.sl 8 v0)),(2,(.int .i64 v2)),(3,(.int .i64 v3)),(5,(.ptr 0 0)),(8,(.ptr 1 0)),(12,(.int .i64 z_v12))]) (qh [(some (.box true (qc Av Aw Ax Ay))),(some (.box true (qc Ad Ae Af Ag)))]))
def qjs (v0:LA)(v2 v3 v12:Int)(Av:Bool)(Aw Ax Ay:Int)(Ad:Bool)(Ae Af Ag:Int)(kn:Int->Option (AV×Int)):Option (AV×Int):=
 (bif(v3==3)then(kn (-1:Int))else(kn v12))
def qy9:=hull (qjs)
theorem q7m:qy9=qjs:=qa _
def q9i:SubB Tryz.prog (TIof Tryz.prog) 79 0 (kret [(.cell 8 true 4),.t 9] qlw):=jnB tabOk follows Tryz.f107 383 (.s .z (.s (.v [.sel [0,2,3,5,8,12] [0,1]]) (.v [.sel [0,2,3,5,8,12] [0,1]]))) S126_ (qjs) (fun f v K=>f (v.l 0 0) (v.i 8 0) (v.i 12 0) (v.i 48 0) (v.b 3 0) (v.i 3 1) (v.i 3 2) (v.i 3 3) (v.b 7 0) (v.i 7 1) (v.i 7 2) (v.i 7 3) (q7l (v.l 0 0) (v.i 8 0) (v.i 12 0) (v.b 3 0) (v.i 3 1) (v.i 3 2) (v.i 3 3) (v.b 7 0) (v.i 7 1) (v.i 7 2) (v.i 7 3) K))
def q7n (v2:Int)(Av:Bool)(Aw Ax Ay:Int)(K:Ex->Env->Mem->Option (AV×Int)):=(fun z_b1_0 z_b1_1 z_b1_2 z_b1_3=>K .norm (qk [(2,(.int .i64 v2)),(8,(.ptr 0 0)),(13,(.ptr 1 0))]) (qh [(some (.box true (qc Av Aw Ax Ay))),(some (.box true (qc z_b1_0 z_b1_1 z_b1_2 z_b1_3)))]))
def qjt (v2 v3:Int)(Av:Bool)(Aw Ax Ay:Int)(Ad:Bool)(Ae Af Ag:Int)(kn:Bool->Int->Int->Int->Option (AV×Int)):Option (AV×Int):=
 (bif((v3==3)&&(decide (Ag<v2)))then(oB (qr6 Ad Ae Af Ag) fun r1=>(kn (gB r1.2.1.cells 0) (gI r1.2.1.cells 1) (gI r1.2.1.cells 2) (gI r1.2.1.cells 3)))else(kn Ad Ae Af Ag))
def qlx:=hull (qjt)
theorem q7o:qlx=qjt:=qa _
def q9j:SubB Tryz.prog (TIof Tryz.prog) 79 0 (kret [(.cell 8 true 4),.t 9] qlw):=jnB tabOk follows Tryz.f107 3071 (.s (.r [(3,.g 4)] []) (.s (.r [(1,.c quu.b)] [.sel [2,8,13] [0,1]]) (.v [.sel [2,8,13] [0,1]]))) S127_ (qjt) (fun f v K=>f (v.i 8 0) (v.i 12 0) (v.b 3 0) (v.i 3 1) (v.i 3 2) (v.i 3 3) (v.b 7 0) (v.i 7 1) (v.i 7 2) (v.i 7 3) (q7n (v.i 8 0) (v.b 3 0) (v.i 3 1) (v.i 3 2) (v.i 3 3) K))
def qn9 (v0:LA)(B7:Bool)(B8 B9 Ca v2 v3:Int):Option (AV×Int):=
 (oB (ql9 v0 B7 B8 B9 Ca) fun r1=>(bif(!r1.2)then(some ((.agg [(.bool false),(.int .u64 (0:Int)),(.int .u64 (0:Int)),(.int .i64 (0:Int))]),(11:Int)))else(bif((gI r1.1.cells 4) != (1:Int))then(some ((.agg [(.bool false),(.int .u64 (0:Int)),(.int .u64 (0:Int)),(.int .i64 (0:Int))]),(21:Int)))else(oB (q08 B7 B8 B9 Ca v2) fun r2=>(bif(((!r2)||(decide (v3<1)))||(decide (v3>3)))then(some ((.agg [(.bool false),(.int .u64 (0:Int)),(.int .u64 (0:Int)),(.int .i64 (0:Int))]),(1:Int)))else(qy8 v0 v2 v3 (0:Int) B7 B8 B9 Ca false (0:Int) (0:Int) (0:Int) (fun v12q3=>(qy9 v0 v2 v3 v12q3 B7 B8 B9 Ca false (0:Int) (0:Int) (0:Int) (fun v12q4=>(oB (qv0 v0 B7 B8 B9 Ca) fun r5=>(oB (qk9 r5 v2 v12q4) fun r6=>(bif(!r6.2)then(some ((.agg [(.bool false),(.int .u64 (0:Int)),(.int .u64 (0:Int)),(.int .i64 (0:Int))]),(22:Int)))else(qlx v2 v3 false (0:Int) (0:Int) (0:Int) (gB r6.1.cells 0) (gI r6.1.cells 1) (gI r6.1.cells 2) (gI r6.1.cells 3) (fun b1_0q7 b1_1q8 b1_2q9 b1_3q10=>(oB (qhk b1_0q7 b1_1q8 b1_2q9 b1_3q10 v2 (0:Int)) fun r11=>(some ((.agg [(.bool (gB r11.1.cells 0)),(.int .u64 (gI r11.1.cells 1)),(.int .u64 (gI r11.1.cells 2)),(.int .i64 (gI r11.1.cells 3))]),(0:Int))))))))))))))))))
def qyd:=hull qn9
theorem qbha:qyd=qn9:=qa _
def qbku {R:Type}:EntF Tryz.prog R:=entB (nt:=79) (dec:=qlw) (enc:=(fun r=>.tup [qck (.st [.b,(.i .u64),(.i .u64),(.i .i64)]) r.1,.int .i64 r.2])) tabOk follows Tryz.func107 [(.cell 8 true 4),.t 9] (hdeN fun _=>rfl) (.s .z (.s (.r [(2,.c qr3.b)] []) (.s .z (.s .z (.s (.s (.r [(2,.c qbbl.b),(5,.g 2),(9,.g 2)] []) .z) (.s .z (.s (.sub [.sel [0,2,3,5,8,12] [0,1]] q9h []) (.s (.sub [.sel [0,2,3,5,8,12] [0,1]] q9i []) (.s (.r [(2,.k qboh.b),(5,.c qbmw.b)] []) (.s .z (.s (.sub [.sel [2,3,8,13] [1,2]] q9j []) (.s (.r [(2,.c qyc.b)] []) .z)))))))))))) S60_ qn9 (fun f v=>f (v.l 0 0) (v.b 5 0) (v.i 5 1) (v.i 5 2) (v.i 5 3) (v.i 8 0) (v.i 12 0))
def q9k:AV->Option ((List AV)×AV×Int):=decN [(.one (.sl 8)),(.st [.b,(.i .u64),(.i .u64),(.i .i64)]),(.one (.i .i64))] fun z=>(aL (gC (tpL z) 0),(gC (tpL z) 1),aI (gC (tpL z) 2))
def qly (v0:LA)(B7:Bool)(B8 B9 Ca v2 v3:Int)(v4 v5:LU):Option ((List AV)×AV×Int):=
 (oB (qyd v0 B7 B8 B9 Ca v2 v3) fun r1=>(bif(r1.2 != (0:Int))then(some (([]:List AV),(.agg [(.bool false),(.int .u64 (0:Int)),(.int .u64 (0:Int)),(.int .i64 (0:Int))]),r1.2))else(oB (qx8 v0 (gB r1.1.cells 0) (gI r1.1.cells 1) (gI r1.1.cells 2) (gI r1.1.cells 3) (2:Int) v4 v5 (0:Int)) fun r2=>(bif(r2.2 != (0:Int))then(some (([]:List AV),(.agg [(.bool false),(.int .u64 (0:Int)),(.int .u64 (0:Int)),(.int .i64 (0:Int))]),r2.2))else(some (r2.1,(.agg [(.bool (gB r1.1.cells 0)),(.int .u64 (gI r1.1.cells 1)),(.int .u64 (gI r1.1.cells 2)),(.int .i64 (gI r1.1.cells 3))]),(0:Int)))))))
def quv:=hull qly
theorem qbbs:quv=qly:=qa _
def qbe7 {R:Type}:EntF Tryz.prog R:=entB (nt:=45) (dec:=q9k) (enc:=(fun r=>.tup [.sl 8 r.1,qck (.st [.b,(.i .u64),(.i .u64),(.i .i64)]) r.2.1,.int .i64 r.2.2])) tabOk follows Tryz.func49 [.t 12,(.cell 13 true 4),.t 14] (hdeN fun _=>rfl) (.s .z (.s (.r [(4,.c qbku.b)] []) (.s (.s .z (.s (.s .z (.v [.eta 12 (.one (.sl 8))])) .z)) (.s (.r [(5,.k q9b.b)] []) (.s (.s .z (.s (.s .z (.v [.eta 12 (.one (.sl 8))])) .z)) .z))))) S61_ qly (fun f v=>f (v.l 0 0) (v.b 5 0) (v.i 5 1) (v.i 5 2) (v.i 5 3) (v.i 8 0) (v.i 12 0) (v.s 16 0) (v.s 20 0))
def S128_:Shp:=⟨[(0,.one (.l (.sl 5))),(1,.one (.l .s)),(5,.one (.ptr 0 0)),(7,.one (.l (.i .i64)))],[.box true (lk qd1)]⟩
def S129_:Shp:=⟨[(0,.one (.l (.sl 5))),(1,.one (.l .s)),(2,.st (lk qd1))],[]⟩
def qww (K:Ex->Env->Mem->Option Int):=(fun(_:Unit)=>K (.exit 0) (qk []) (qh []))
def qh3 (v0:LA)(v1:LU)(v7:Int)(Av:Bool)(Aw Ax:Int)(next:Int->Option Int)(kx0:Unit->Option Int):Option Int:=
 (bif(decide (v7<(v0.length:Int)))then(oB (ixB v0 v7) fun y1=>(bif fitC qj y1.cells then(bif((gS y1.cells 0)==v1)then(oB (ixB v0 v7) fun y2=>(bif fitC qj y2.cells then(bif(((gB y2.cells 1)==Av)&&(((gI y2.cells 2)==Aw)&&(((gI y2.cells 3)==Ax)&&true)))then(some v7)else(next (IntKind.i64.wrap (v7+1))))else none))else(next (IntKind.i64.wrap (v7+1))))else none))else(kx0 ()))
def qh4 (v0:LA)(v1:LU)(Av:Bool)(Aw Ax:Int)(kx0:Unit->Option Int):Nat->Int->Option Int
 |0=>(fun _=>none)
 |n+1=>(fun v7=>qh3 v0 v1 v7 Av Aw Ax (qh4 v0 v1 Av Aw Ax kx0 n) kx0)
def q20:=hull (qh4)
theorem qbbt:q20=qh4:=qa _
def qbe8:SubB Tryz.prog (TIof Tryz.prog) 31 0 (kret [.t 6] (decI .i64)):=lpB tabOk follows Tryz.f55 37 (.s (.s .z (.s .z (.v [.sel [] []]))) (.s (.b (.s (.d [] [(2,.e 16 qj),(10,.e 24 qj)] [] []) .z)) (.v [.sel [0,1,5,7] [0]]))) S128_ (qh4) (fun f v K n=>f (v.l 0 0) (v.s 4 0) (v.b 3 0) (v.i 3 1) (v.i 3 2) (qww K) n) (fun v f K=>qh3 (v.l 0 0) (v.s 4 0) (v.i 28 0) (v.b 3 0) (v.i 3 1) (v.i 3 2) f (qww K)) (fun f v=>f (v.i 28 0)) (fun k v=>(fun z0=>k (v.ui 28 0 z0)))
def qpv (v0:LA)(v1:LU)(Cw:Bool)(Cx Cy:Int):Option Int:=
 (q20 v0 v1 Cw Cx Cy (fun(_:Unit)=>(some (-1:Int))) FU (0:Int))
def qt1:=hull qpv
theorem qbkv:qt1=qpv:=qa _
def q4r {R:Type}:EntF Tryz.prog R:=entB (nt:=31) (dec:=(decI .i64)) (enc:=(AV.int .i64)) tabOk follows Tryz.func55 [.t 6] hdeI (.s .z (.s (.s .z (.b (.sub [.sel [0,1,5,7] [0]] qbe8 []))) .z)) S129_ qpv (fun f v=>f (v.l 0 0) (v.s 4 0) (v.b 9 0) (v.i 9 1) (v.i 9 2))
def S130_:Shp:=⟨[(0,.one (.l (.sl 5))),(3,.one (.ptr 0 0)),(5,.one (.own 1)),(6,.one (.l .b)),(7,.one (.l (.i .i64)))],[.box true (lk qj),.arr true 5]⟩
def q7p (v0:LA)(v6:Bool)(v7:Int)(Av:LU)(Aw:Bool)(Ax Ay Az:Int)(a1:LA)(K:Ex->Env->Mem->Option (List AV)):=(fun z_v23=>K .norm (qk [(0,(.sl 5 v0)),(3,(.ptr 0 0)),(5,(.own 1 a1.length)),(6,(.bool v6)),(7,(.int .i64 v7)),(23,(.bool z_v23))]) (qh [(some (.box true (qfl Av Aw Ax Ay Az))),(some (.arr true 5 a1))]))
def qju (v0:LA)(v6:Bool)(v7:Int)(Av:LU)(Aw:Bool)(Ax Ay Az:Int)(a1:LA)(kn:Bool->Option (List AV)):Option (List AV):=
 (bif(!v6)then(oB (ixB v0 v7) fun y1=>(bif fitC qj y1.cells then(oB (qr0 Av Aw Ax Ay Az (gS y1.cells 0) (gB y1.cells 1) (gI y1.cells 2) (gI y1.cells 3) (gI y1.cells 4)) fun r2=>(kn r2))else none))else(kn false))
def qza:=hull (qju)
theorem q7q:qza=qju:=qa _
def q9l:SubB Tryz.prog (TIof Tryz.prog) 42 0 (kret [.t 4] (decF true 5)):=jnB tabOk follows Tryz.f108 4247 (.d [] [(6,.e 20 qj)] [(0,.c q2u.b)] [.sel [0,3,5,6,7,23] [0,1]]) S130_ (qju) (fun f v K=>f (v.l 0 0) (v.b 24 0) (v.i 28 0) (v.s 3 0) (v.b 3 1) (v.i 3 2) (v.i 3 3) (v.i 3 4) (v.r 1) (q7p (v.l 0 0) (v.b 24 0) (v.i 28 0) (v.s 3 0) (v.b 3 1) (v.i 3 2) (v.i 3 3) (v.i 3 4) (v.r 1) K))
def q7r (v0:LA)(v7:Int)(Av:LU)(Aw:Bool)(Ax Ay Az:Int)(K:Ex->Env->Mem->Option (List AV)):=(fun z_v6 z_a1=>K .norm (qk [(0,(.sl 5 v0)),(3,(.ptr 0 0)),(5,(.own 1 z_a1.length)),(6,(.bool z_v6)),(7,(.int .i64 v7))]) (qh [(some (.box true (qfl Av Aw Ax Ay Az))),(some (.arr true 5 z_a1))]))
def qjv (v0:LA)(v6:Bool)(v7:Int)(Av:LU)(Aw:Bool)(Ax Ay Az:Int)(a1:LA)(kn:Bool->(List AV)->Option (List AV)):Option (List AV):=
 (bif(hd a1 (a1.length)&&true)then(qza v0 v6 v7 Av Aw Ax Ay Az a1 (fun v23q1=>(bif v23q1 then(bif hd a1 a1.length then(bif hd ([(.agg [(.str Av),(.bool Aw),(.int .u64 Ax),(.int .u64 Ay),(.int .i64 Az)])]:List AV) (([(.agg [(.str Av),(.bool Aw),(.int .u64 Ax),(.int .u64 Ay),(.int .i64 Az)])]:List AV).length)then(bif decide ((a1.length+([(.agg [(.str Av),(.bool Aw),(.int .u64 Ax),(.int .u64 Ay),(.int .i64 Az)])]:List AV).length)*48<=140737488355328)then(kn true (a1++([(.agg [(.str Av),(.bool Aw),(.int .u64 Ax),(.int .u64 Ay),(.int .i64 Az)])]:List AV)))else none)else none)else none)else(kn v6 a1))))else none)
def qzb:=hull (qjv)
theorem q7s:qzb=qjv:=qa _
def q9m:SubB Tryz.prog (TIof Tryz.prog) 42 0 (kret [.t 4] (decF true 5)):=jnB tabOk follows Tryz.f108 2199 (.s (.sub [.sel [0,3,5,6,7] [0,1]] q9l []) (.s (.s .z (.v [.sel [0,3,5,6,7] [0,1]])) (.v [.sel [0,3,5,6,7] [0,1]]))) S130_ (qjv) (fun f v K=>f (v.l 0 0) (v.b 24 0) (v.i 28 0) (v.s 3 0) (v.b 3 1) (v.i 3 2) (v.i 3 3) (v.i 3 4) (v.r 1) (q7r (v.l 0 0) (v.i 28 0) (v.s 3 0) (v.b 3 1) (v.i 3 2) (v.i 3 3) (v.i 3 4) K))
def qui (Av:LU)(Aw:Bool)(Ax Ay Az:Int)(K:Ex->Env->Mem->Option (List AV)):=(fun z_v6 z_a1=>K (.exit 0) (qk [(3,(.ptr 0 0)),(5,(.own 1 z_a1.length)),(6,(.bool z_v6))]) (qh [(some (.box true (qfl Av Aw Ax Ay Az))),(some (.arr true 5 z_a1))]))
def qf2 (v0:LA)(v6:Bool)(v7:Int)(Av:LU)(Aw:Bool)(Ax Ay Az:Int)(a1:LA)(next:Bool->Int->(List AV)->Option (List AV))(kx0:Bool->(List AV)->Option (List AV)):Option (List AV):=
 (bif(decide (v7<(v0.length:Int)))then(bif(hd a1 (a1.length)&&true)then(qzb v0 v6 v7 Av Aw Ax Ay Az a1 (fun v6q1 a1q2=>(oB (ixB v0 v7) fun y3=>(bif fitC qj y3.cells then(bif hd a1q2 a1q2.length then(bif hd ([(.agg [(.str (gS y3.cells 0)),(.bool (gB y3.cells 1)),(.int .u64 (gI y3.cells 2)),(.int .u64 (gI y3.cells 3)),(.int .i64 (gI y3.cells 4))])]:List AV) (([(.agg [(.str (gS y3.cells 0)),(.bool (gB y3.cells 1)),(.int .u64 (gI y3.cells 2)),(.int .u64 (gI y3.cells 3)),(.int .i64 (gI y3.cells 4))])]:List AV).length)then(bif decide ((a1q2.length+([(.agg [(.str (gS y3.cells 0)),(.bool (gB y3.cells 1)),(.int .u64 (gI y3.cells 2)),(.int .u64 (gI y3.cells 3)),(.int .i64 (gI y3.cells 4))])]:List AV).length)*48<=140737488355328)then(next v6q1 (IntKind.i64.wrap (v7+1)) (a1q2++([(.agg [(.str (gS y3.cells 0)),(.bool (gB y3.cells 1)),(.int .u64 (gI y3.cells 2)),(.int .u64 (gI y3.cells 3)),(.int .i64 (gI y3.cells 4))])]:List AV)))else none)else none)else none)else none))))else none)else(kx0 v6 a1))
def qel (v0:LA)(Av:LU)(Aw:Bool)(Ax Ay Az:Int)(kx0:Bool->(List AV)->Option (List AV)):Nat->Bool->Int->(List AV)->Option (List AV)
 |0=>(fun _ _ _=>none)
 |n+1=>(fun v6 v7 a1=>qf2 v0 v6 v7 Av Aw Ax Ay Az a1 (qel v0 Av Aw Ax Ay Az kx0 n) kx0)
def qzc:=hull (qel)
theorem q7t:qzc=qel:=qa _
def q9n:SubB Tryz.prog (TIof Tryz.prog) 42 0 (kret [.t 4] (decF true 5)):=lpB tabOk follows Tryz.f108 151 (.s (.s .z (.s .z (.v [.sel [3,5,6] [0,1]]))) (.s (.b (.s (.sub [.sel [0,3,5,6,7] [0,1]] q9m []) (.r [(3,.p (.etac 31 qj))] []))) (.v [.sel [0,3,5,6,7] [0,1]]))) S130_ (qel) (fun f v K n=>f (v.l 0 0) (v.s 3 0) (v.b 3 1) (v.i 3 2) (v.i 3 3) (v.i 3 4) (qui (v.s 3 0) (v.b 3 1) (v.i 3 2) (v.i 3 3) (v.i 3 4) K) n) (fun v f K=>qf2 (v.l 0 0) (v.b 24 0) (v.i 28 0) (v.s 3 0) (v.b 3 1) (v.i 3 2) (v.i 3 3) (v.i 3 4) (v.r 1) f (qui (v.s 3 0) (v.b 3 1) (v.i 3 2) (v.i 3 3) (v.i 3 4) K)) (fun f v=>f (v.b 24 0) (v.i 28 0) (v.r 1)) (fun k v=>(fun z0 z1 z2=>k (((v.ub 24 0 z0).ui 28 0 z1).ur 1 z2)))
def qoa (v0:LA)(B7:LU)(B8:Bool)(B9 Ca Cb:Int):Option (List AV):=
 (bif(hd ([]:List AV) (([]:List AV).length)&&true)then(qzc v0 B7 B8 B9 Ca Cb (fun v6q1 a1q2=>(bif(!v6q1)then(bif hd a1q2 a1q2.length then(bif hd ([(.agg [(.str B7),(.bool B8),(.int .u64 B9),(.int .u64 Ca),(.int .i64 Cb)])]:List AV) (([(.agg [(.str B7),(.bool B8),(.int .u64 B9),(.int .u64 Ca),(.int .i64 Cb)])]:List AV).length)then(bif decide ((a1q2.length+([(.agg [(.str B7),(.bool B8),(.int .u64 B9),(.int .u64 Ca),(.int .i64 Cb)])]:List AV).length)*48<=140737488355328)then(bif hd (a1q2++([(.agg [(.str B7),(.bool B8),(.int .u64 B9),(.int .u64 Ca),(.int .i64 Cb)])]:List AV)) ((a1q2++([(.agg [(.str B7),(.bool B8),(.int .u64 B9),(.int .u64 Ca),(.int .i64 Cb)])]:List AV)).length)then(some (a1q2++([(.agg [(.str B7),(.bool B8),(.int .u64 B9),(.int .u64 Ca),(.int .i64 Cb)])]:List AV)))else none)else none)else none)else none)else(bif hd a1q2 a1q2.length then(some a1q2)else none))) FU false (0:Int) ([]:List AV))else none)
def qr8:=hull qoa
theorem qbhb:qr8=qoa:=qa _
def q21 {R:Type}:EntF Tryz.prog R:=entB (nt:=42) (dec:=(decF true 5)) (enc:=(AV.fr true 5)) tabOk follows Tryz.func108 [.t 4] hdeF (.s .z (.s .z (.s .z (.s (.s .z (.b (.sub [.own 5 5,.sel [0,3,5,6,7] [0,1]] q9n []))) .z)))) S80_ qoa (fun f v=>f (v.l 0 0) (v.s 5 0) (v.b 5 1) (v.i 5 2) (v.i 5 3) (v.i 5 4))
def S131_:Shp:=⟨[(0,.one (.l (.sl 5))),(1,.one (.l (.i .i64))),(5,.one (.own 0)),(6,.one (.l (.i .i64)))],[.arr true 5]⟩
def S132_:Shp:=⟨[(0,.one (.l (.sl 5))),(1,.one (.l (.i .i64)))],[]⟩
def quj (K:Ex->Env->Mem->Option (List AV)):=(fun z_a0=>K (.exit 0) (qk [(5,(.own 0 z_a0.length))]) (qh [(some (.arr true 5 z_a0))]))
def qf3 (v0:LA)(v1 v6:Int)(a0:LA)(next:Int->(List AV)->Option (List AV))(kx0:(List AV)->Option (List AV)):Option (List AV):=
 (bif(decide (v6<(v0.length:Int)))then(bif(v6 != v1)then(oB (ixB v0 v6) fun y1=>(bif fitC qj y1.cells then(bif hd a0 a0.length then(bif hd ([(.agg [(.str (gS y1.cells 0)),(.bool (gB y1.cells 1)),(.int .u64 (gI y1.cells 2)),(.int .u64 (gI y1.cells 3)),(.int .i64 (gI y1.cells 4))])]:List AV) (([(.agg [(.str (gS y1.cells 0)),(.bool (gB y1.cells 1)),(.int .u64 (gI y1.cells 2)),(.int .u64 (gI y1.cells 3)),(.int .i64 (gI y1.cells 4))])]:List AV).length)then(bif decide ((a0.length+([(.agg [(.str (gS y1.cells 0)),(.bool (gB y1.cells 1)),(.int .u64 (gI y1.cells 2)),(.int .u64 (gI y1.cells 3)),(.int .i64 (gI y1.cells 4))])]:List AV).length)*48<=140737488355328)then(next (IntKind.i64.wrap (v6+1)) (a0++([(.agg [(.str (gS y1.cells 0)),(.bool (gB y1.cells 1)),(.int .u64 (gI y1.cells 2)),(.int .u64 (gI y1.cells 3)),(.int .i64 (gI y1.cells 4))])]:List AV)))else none)else none)else none)else none))else(next (IntKind.i64.wrap (v6+1)) a0))else(kx0 a0))
def qf4 (v0:LA)(v1:Int)(kx0:(List AV)->Option (List AV)):Nat->Int->(List AV)->Option (List AV)
 |0=>(fun _ _=>none)
 |n+1=>(fun v6 a0=>qf3 v0 v1 v6 a0 (qf4 v0 v1 kx0 n) kx0)
def qzd:=hull (qf4)
theorem q7u:qzd=qf4:=qa _
def q9o:SubB Tryz.prog (TIof Tryz.prog) 24 0 (kret [.t 4] (decF true 5)):=lpB tabOk follows Tryz.f109 75 (.s (.s .z (.s .z (.v [.sel [5] [0]]))) (.s (.b (.s .z (.s (.r [(3,.p (.etac 19 qj))] []) .z))) (.v [.sel [0,1,5,6] [0]]))) S131_ (qf4) (fun f v K n=>f (v.l 0 0) (v.i 4 0) (quj K) n) (fun v f K=>qf3 (v.l 0 0) (v.i 4 0) (v.i 24 0) (v.r 0) f (quj K)) (fun f v=>f (v.i 24 0) (v.r 0)) (fun k v=>(fun z0 z1=>k ((v.ui 24 0 z0).ur 0 z1)))
def qm8 (v0:LA)(v1:Int):Option (List AV):=
 (bif(hd ([]:List AV) (([]:List AV).length)&&true)then(qzd v0 v1 (fun a0q1=>(bif hd a0q1 a0q1.length then(some a0q1)else none)) FU (0:Int) ([]:List AV))else none)
def qwj:=hull qm8
theorem qbe9:qwj=qm8:=qa _
def qbhc {R:Type}:EntF Tryz.prog R:=entB (nt:=24) (dec:=(decF true 5)) (enc:=(AV.fr true 5)) tabOk follows Tryz.func109 [.t 4] hdeF (.s .z (.s .z (.s (.s .z (.b (.sub [.own 5 5,.sel [0,1,5,6] [0]] q9o []))) .z))) S132_ qm8 (fun f v=>f (v.l 0 0) (v.i 4 0))
def S133_:Shp:=⟨[(2,.one (.ptr 0 0)),(3,.one (.ptr 1 0)),(4,.one (.ptr 2 0)),(6,.one (.ptr 3 0)),(7,.one (.l (.i .i64))),(9,.one (.l (.sl 5)))],[.box true (lk qbs),.box true (lk qcl),.box true [(.l .nil),(.l .nil),(.l .nil)],.box true [(.l .nil),(.l .nil),(.l .nil)]]⟩
def q1d:AV->Option (AV×Int):=decN [(.st [(.sl 8),(.sl 5),(.sl 1)]),(.one (.i .i64))] fun z=>((gC (tpL z) 0),aI (gC (tpL z) 1))
def q9p (v7:Int)(v9 Av Aw Ax:LA)(Ad:Int)(Ae:Bool)(Af Ag Ah Ai:Int)(Aj Ak:LU)(Al Am An:Int)(Ao:LU)(Ap:Bool)(Aq Ar As:Int)(At:LU)(K:Ex->Env->Mem->Option (AV×Int)):=(fun z_v90=>K .norm (qk [(2,(.ptr 0 0)),(3,(.ptr 1 0)),(4,(.ptr 2 0)),(6,(.ptr 3 0)),(7,(.int .i64 v7)),(9,(.sl 5 v9)),(90,(.bool z_v90))]) (qh [(some (.box true (qbo Av Aw Ax))),(some (.box true (qji Ad Ae Af Ag Ah Ai Aj Ak Al Am An Ao Ap Aq Ar As At))),(some (.box true [.nils,.nils,.nils])),(some (.box true [.nils,.nils,.nils]))]))
def qkx (v7:Int)(v9 Av Aw Ax:LA)(Ad:Int)(Ae:Bool)(Af Ag Ah Ai:Int)(Aj Ak:LU)(Al Am An:Int)(Ao:LU)(Ap:Bool)(Aq Ar As:Int)(At:LU)(kn:Bool->Option (AV×Int)):Option (AV×Int):=
 (oB (qoj At) fun r1=>(bif(!r1)then(kn true)else(oB (ixB At (0:Int)) fun c2=>(kn ((c2.toNat:Int)==42)))))
def qs2:=hull (qkx)
theorem q9q:qs2=qkx:=qa _
def qbbu:SubB Tryz.prog (TIof Tryz.prog) 129 0 (kret [(.cell 4 true 3),.t 5] q1d):=jnB tabOk follows Tryz.f50 639 (.r [(2,.c qwa.b)] [.sel [2,3,4,6,7,9,90] [0,1,2,3]]) S133_ (qkx) (fun f v K=>f (v.i 28 0) (v.l 36 0) (v.l 3 0) (v.l 3 1) (v.l 3 2) (v.i 7 0) (v.b 7 1) (v.i 7 2) (v.i 7 3) (v.i 7 4) (v.i 7 5) (v.s 7 6) (v.s 7 7) (v.i 7 8) (v.i 7 9) (v.i 7 10) (v.s 7 11) (v.b 7 12) (v.i 7 13) (v.i 7 14) (v.i 7 15) (v.s 7 16) (q9p (v.i 28 0) (v.l 36 0) (v.l 3 0) (v.l 3 1) (v.l 3 2) (v.i 7 0) (v.b 7 1) (v.i 7 2) (v.i 7 3) (v.i 7 4) (v.i 7 5) (v.s 7 6) (v.s 7 7) (v.i 7 8) (v.i 7 9) (v.i 7 10) (v.s 7 11) (v.b 7 12) (v.i 7 13) (v.i 7 14) (v.i 7 15) (v.s 7 16) K))
def qpw (Aa Ab Ac:LA)(B7:Int)(B8:Bool)(B9 Ca Cb Cc:Int)(Cd Ce:LU)(C0 C1 C2:Int)(C3:LU)(C4:Bool)(C5 C6 C7:Int)(C8:LU):Option (AV×Int):=
 (oB (qt1 Ab C3 C4 C5 C6) fun r1=>(bif(B7==4)then(bif hd ([(.agg [(.str C3),(.bool C4),(.int .u64 C5),(.int .u64 C6),(.int .i64 C7)])]:List AV) (([(.agg [(.str C3),(.bool C4),(.int .u64 C5),(.int .u64 C6),(.int .i64 C7)])]:List AV).length)then(oB (qty ([(.agg [(.str C3),(.bool C4),(.int .u64 C5),(.int .u64 C6),(.int .i64 C7)])]:List AV)) fun r2=>(bif(r2 != (0:Int))then(some ((.agg [(.sl 8 ([]:List AV)),(.sl 5 ([]:List AV)),(.sl 1 ([]:List AV))]),r2))else(bif(decide (r1>=0))then(some ((.agg [(.sl 8 ([]:List AV)),(.sl 5 ([]:List AV)),(.sl 1 ([]:List AV))]),(12:Int)))else(bif(decide ((Ab.length:Int)>=256))then(some ((.agg [(.sl 8 ([]:List AV)),(.sl 5 ([]:List AV)),(.sl 1 ([]:List AV))]),(9:Int)))else(oB (qlc Aa C4 C5 C6) fun r3=>(bif(!r3)then(some ((.agg [(.sl 8 ([]:List AV)),(.sl 5 ([]:List AV)),(.sl 1 ([]:List AV))]),(25:Int)))else(oB (qok Ac C3) fun r4=>(bif(!r4)then(some ((.agg [(.sl 8 ([]:List AV)),(.sl 5 ([]:List AV)),(.sl 1 ([]:List AV))]),(13:Int)))else(oB (qr8 Ab C3 C4 C5 C6 C7) fun r5=>(some ((.agg [(.sl 8 Aa),(.sl 5 r5),(.sl 1 Ac)]),(0:Int))))))))))))else none)else(bif(decide (r1<0))then(some ((.agg [(.sl 8 ([]:List AV)),(.sl 5 ([]:List AV)),(.sl 1 ([]:List AV))]),(11:Int)))else(oB (qwj Ab r1) fun r6=>(bif(B7==5)then(some ((.agg [(.sl 8 Aa),(.sl 5 r6),(.sl 1 Ac)]),(0:Int)))else(qs2 r1 r6 Aa Ab Ac B7 B8 B9 Ca Cb Cc Cd Ce C0 C1 C2 C3 C4 C5 C6 C7 C8 (fun v90q7=>(bif v90q7 then(some ((.agg [(.sl 8 ([]:List AV)),(.sl 5 ([]:List AV)),(.sl 1 ([]:List AV))]),(2:Int)))else(oB (qt1 Ab C8 C4 C5 C6) fun r8=>(bif(decide (r8>=0))then(some ((.agg [(.sl 8 ([]:List AV)),(.sl 5 ([]:List AV)),(.sl 1 ([]:List AV))]),(12:Int)))else(oB (qok Ac C8) fun r9=>(bif(!r9)then(some ((.agg [(.sl 8 ([]:List AV)),(.sl 5 ([]:List AV)),(.sl 1 ([]:List AV))]),(13:Int)))else(oB (ixB Ab r1) fun y10=>(bif fitC qj y10.cells then(oB (qr8 r6 C8 C4 C5 C6 (gI y10.cells 4)) fun r11=>(some ((.agg [(.sl 8 Aa),(.sl 5 r11),(.sl 1 Ac)]),(0:Int))))else none))))))))))))))
def qzs:=hull qpw
theorem qbkw:qzs=qpw:=qa _
def qbmx {R:Type}:EntF Tryz.prog R:=entB (nt:=129) (dec:=q1d) (enc:=(fun r=>.tup [qck (.st [(.sl 8),(.sl 5),(.sl 1)]) r.1,.int .i64 r.2])) tabOk follows Tryz.func50 [(.cell 4 true 3),.t 5] (hdeN fun _=>rfl) (.s .z (.s .z (.s (.r [(8,.c q4r.b)] []) (.s (.s .z (.s (.s (.s (.r [(3,.c q4h.b)] []) (.s .z (.s (.s .z (.v [.nilc 2 0 8,.nilc 2 1 5,.nilc 2 2 1])) .z))) (.s (.s .z (.s (.s .z (.v [.nilc 2 0 8,.nilc 2 1 5,.nilc 2 2 1])) .z)) (.s (.s .z (.s (.s .z (.v [.nilc 2 0 8,.nilc 2 1 5,.nilc 2 2 1])) .z)) (.s (.s (.r [(5,.c qsx.b)] []) (.s (.s .z (.v [.nilc 2 0 8,.nilc 2 1 5,.nilc 2 2 1])) .z)) (.s (.s (.r [(5,.c qwc.b)] []) (.s (.s .z (.v [.nilc 2 0 8,.nilc 2 1 5,.nilc 2 2 1])) .z)) (.s (.d [] [(6,.c q21.b)] [] []) .z)))))) .z)) (.s (.s .z (.s (.s .z (.v [.nilc 2 0 8,.nilc 2 1 5,.nilc 2 2 1])) .z)) (.s (.r [(3,.k qbhc.b)] []) (.s .z (.s (.s (.sub [.sel [2,3,4,6,7,9] [0,1,2,3]] qbbu []) (.s (.s .z (.v [.nilc 2 0 8,.nilc 2 1 5,.nilc 2 2 1])) .z)) (.s (.s (.r [(7,.c q4r.b)] []) (.s (.s .z (.v [.nilc 2 0 8,.nilc 2 1 5,.nilc 2 2 1])) .z)) (.s (.s (.r [(4,.c qwc.b)] []) (.s (.s .z (.v [.nilc 2 0 8,.nilc 2 1 5,.nilc 2 2 1])) .z)) (.s (.d [] [(8,.e 117 qj)] [] []) (.s (.d [] [(4,.c q21.b)] [] []) .z)))))))))))) S90_ qpw (fun f v=>f (v.l 1 0) (v.l 1 1) (v.l 1 2) (v.i 5 0) (v.b 5 1) (v.i 5 2) (v.i 5 3) (v.i 5 4) (v.i 5 5) (v.s 5 6) (v.s 5 7) (v.i 5 8) (v.i 5 9) (v.i 5 10) (v.s 5 11) (v.b 5 12) (v.i 5 13) (v.i 5 14) (v.i 5 15) (v.s 5 16))
def S134_:Shp:=⟨[(2,.one (.ptr 0 0)),(3,.one (.ptr 1 0)),(4,.one (.ptr 2 0)),(6,.one (.ptr 3 0))],[.box true (lk qbs),.box true (lk qcl),.box true [(.l .nil),(.l .nil),(.l .nil)],.box true [(.l .nil),(.l .nil),(.l .nil)]]⟩
def S135_:Shp:=⟨[(2,.one (.ptr 0 0)),(4,.one (.ptr 1 0)),(6,.one (.ptr 2 0)),(9,.one (.l (.sl 8))),(11,.one (.l (.i .i64)))],[.box true (lk qbs),.box true [(.l .nil),(.l .nil),(.l .nil)],.box true [(.l .nil),(.l .nil),(.l .nil)]]⟩
def qs3:AV->Option (AV×Int):=decN [(.st [(.sl 8),(.sl 5),(.sl 1)]),(.one (.i .i64))] fun z=>((gC (tpL z) 0),aI (gC (tpL z) 1))
def qbbv (Av Aw Ax:LA)(Ad:Int)(Ae:Bool)(Af Ag Ah Ai:Int)(Aj Ak:LU)(Al Am An:Int)(Ao:LU)(Ap:Bool)(Aq Ar As:Int)(At:LU)(K:Ex->Env->Mem->Option (AV×Int)):=(fun z_v28=>K .norm (qk [(2,(.ptr 0 0)),(3,(.ptr 1 0)),(4,(.ptr 2 0)),(6,(.ptr 3 0)),(28,(.bool z_v28))]) (qh [(some (.box true (qbo Av Aw Ax))),(some (.box true (qji Ad Ae Af Ag Ah Ai Aj Ak Al Am An Ao Ap Aq Ar As At))),(some (.box true [.nils,.nils,.nils])),(some (.box true [.nils,.nils,.nils]))]))
def qlz (Av Aw Ax:LA)(Ad:Int)(Ae:Bool)(Af Ag Ah Ai:Int)(Aj Ak:LU)(Al Am An:Int)(Ao:LU)(Ap:Bool)(Aq Ar As:Int)(At:LU)(kn:Bool->Option (AV×Int)):Option (AV×Int):=
 (bif(decide (Ad<1))then(kn true)else(bif(decide (Ad>6))then(kn true)else(oB (q2a Ad Ae Af Ag Ah Ai Aj Ak Al Am An Ao Ap Aq Ar As At) fun r1=>(kn (!(((gI r1.cells 0)==Ad)&&(((gB r1.cells 1)==Ae)&&(((gI r1.cells 2)==Af)&&(((gI r1.cells 3)==Ag)&&(((gI r1.cells 4)==Ah)&&(((gI r1.cells 5)==Ai)&&(((gS r1.cells 6)==Aj)&&(((gS r1.cells 7)==Ak)&&(((gI r1.cells 8)==Al)&&(((gI r1.cells 9)==Am)&&(((gI r1.cells 10)==An)&&(((gS r1.cells 11)==Ao)&&(((gB r1.cells 12)==Ap)&&(((gI r1.cells 13)==Aq)&&(((gI r1.cells 14)==Ar)&&(((gI r1.cells 15)==As)&&(((gS r1.cells 16)==At)&&true))))))))))))))))))))))
def quw:=hull (qlz)
theorem qbbw:quw=qlz:=qa _
def qbfa:SubB Tryz.prog (TIof Tryz.prog) 128 0 (kret [(.cell 4 true 3),.t 5] qs3):=jnB tabOk follows Tryz.f15 19 (.d [] [(10,.c qboa.b)] [] [.sel [2,3,4,6,28] [0,1,2,3]]) S134_ (qlz) (fun f v K=>f (v.l 3 0) (v.l 3 1) (v.l 3 2) (v.i 7 0) (v.b 7 1) (v.i 7 2) (v.i 7 3) (v.i 7 4) (v.i 7 5) (v.s 7 6) (v.s 7 7) (v.i 7 8) (v.i 7 9) (v.i 7 10) (v.s 7 11) (v.b 7 12) (v.i 7 13) (v.i 7 14) (v.i 7 15) (v.s 7 16) (qbbv (v.l 3 0) (v.l 3 1) (v.l 3 2) (v.i 7 0) (v.b 7 1) (v.i 7 2) (v.i 7 3) (v.i 7 4) (v.i 7 5) (v.s 7 6) (v.s 7 7) (v.i 7 8) (v.i 7 9) (v.i 7 10) (v.s 7 11) (v.b 7 12) (v.i 7 13) (v.i 7 14) (v.i 7 15) (v.s 7 16) K))
def qvd (v9 Av Aw Ax:LA)(K:Ex->Env->Mem->Option (AV×Int)):=(fun(_:Unit)=>K (.exit 0) (qk [(2,(.ptr 0 0)),(4,(.ptr 1 0)),(9,(.sl 8 v9))]) (qh [(some (.box true (qbo Av Aw Ax))),(some (.box true [.nils,.nils,.nils]))]))
def qg2 (v9:LA)(v11:Int)(Av Aw Ax:LA)(next:Int->Option (AV×Int))(kx0:Unit->Option (AV×Int)):Option (AV×Int):=
 (bif(decide (v11<(Aw.length:Int)))then(oB (ixB Aw v11) fun y1=>(bif fitC qj y1.cells then(oB (qlc v9 (gB y1.cells 1) (gI y1.cells 2) (gI y1.cells 3)) fun r2=>(bif(!r2)then(some ((.agg [(.sl 8 ([]:List AV)),(.sl 5 ([]:List AV)),(.sl 1 ([]:List AV))]),(25:Int)))else(next (IntKind.i64.wrap (v11+1)))))else none))else(kx0 ()))
def qg3 (v9 Av Aw Ax:LA)(kx0:Unit->Option (AV×Int)):Nat->Int->Option (AV×Int)
 |0=>(fun _=>none)
 |n+1=>(fun v11=>qg2 v9 v11 Av Aw Ax (qg3 v9 Av Aw Ax kx0 n) kx0)
def qs4:=hull (qg3)
theorem q9r:qs4=qg3:=qa _
def qbbx:SubB Tryz.prog (TIof Tryz.prog) 128 0 (kret [(.cell 4 true 3),.t 5] qs3):=lpB tabOk follows Tryz.f15 9647 (.s (.s .z (.s .z (.v [.sel [2,4,9] [0,1]]))) (.s (.b (.s (.r [(4,.p (.etac 78 qj)),(7,.c qsx.b)] []) (.s (.s .z (.v [.nilc 1 0 8,.nilc 1 1 5,.nilc 1 2 1])) .z))) (.v [.sel [2,4,6,9,11] [0,1,2]]))) S135_ (qg3) (fun f v K n=>f (v.l 36 0) (v.l 3 0) (v.l 3 1) (v.l 3 2) (qvd (v.l 36 0) (v.l 3 0) (v.l 3 1) (v.l 3 2) K) n) (fun v f K=>qg2 (v.l 36 0) (v.i 44 0) (v.l 3 0) (v.l 3 1) (v.l 3 2) f (qvd (v.l 36 0) (v.l 3 0) (v.l 3 1) (v.l 3 2) K)) (fun f v=>f (v.i 44 0)) (fun k v=>(fun z0=>k (v.ui 44 0 z0)))
def qpx (Aa Ab Ac:LA)(B7:Int)(B8:Bool)(B9 Ca Cb Cc:Int)(Cd Ce:LU)(C0 C1 C2:Int)(C3:LU)(C4:Bool)(C5 C6 C7:Int)(C8:LU):Option (AV×Int):=
 (quw Aa Ab Ac B7 B8 B9 Ca Cb Cc Cd Ce C0 C1 C2 C3 C4 C5 C6 C7 C8 (fun v28q1=>(bif v28q1 then(some ((.agg [(.sl 8 ([]:List AV)),(.sl 5 ([]:List AV)),(.sl 1 ([]:List AV))]),(1:Int)))else(bif(B7==1)then(oB (qx8 Aa B8 B9 Ca Cb Cc Cd Ce C0) fun r2=>(bif(r2.2 != (0:Int))then(some ((.agg [(.sl 8 ([]:List AV)),(.sl 5 ([]:List AV)),(.sl 1 ([]:List AV))]),r2.2))else(some ((.agg [(.sl 8 r2.1),(.sl 5 Ab),(.sl 1 Ac)]),(0:Int)))))else(bif(B7==2)then(oB (qx9 Aa B8 B9 Ca Cb) fun r3=>(bif(r3.2 != (0:Int))then(some ((.agg [(.sl 8 ([]:List AV)),(.sl 5 ([]:List AV)),(.sl 1 ([]:List AV))]),r3.2))else(qs4 r3.1 Aa Ab Ac (fun(_:Unit)=>(some ((.agg [(.sl 8 r3.1),(.sl 5 Ab),(.sl 1 Ac)]),(0:Int)))) FU (0:Int))))else(bif(B7==3)then(oB (quv Aa B8 B9 Ca Cb C1 C2 Cd Ce) fun r4=>(bif(r4.2.2 != (0:Int))then(some ((.agg [(.sl 8 ([]:List AV)),(.sl 5 ([]:List AV)),(.sl 1 ([]:List AV))]),r4.2.2))else(some ((.agg [(.sl 8 r4.1),(.sl 5 Ab),(.sl 1 Ac)]),(0:Int)))))else(oB (qzs Aa Ab Ac B7 B8 B9 Ca Cb Cc Cd Ce C0 C1 C2 C3 C4 C5 C6 C7 C8) fun r5=>(some ((.agg [(.sl 8 (gL r5.1.cells 0)),(.sl 5 (gL r5.1.cells 1)),(.sl 1 (gL r5.1.cells 2))]),r5.2)))))))))
def qt2:=hull qpx
theorem qbkx:qt2=qpx:=qa _
def qbmy {R:Type}:EntF Tryz.prog R:=entB (nt:=128) (dec:=qs3) (enc:=(fun r=>.tup [qck (.st [(.sl 8),(.sl 5),(.sl 1)]) r.1,.int .i64 r.2])) tabOk follows Tryz.func15 [(.cell 4 true 3),.t 5] (hdeN fun _=>rfl) (.s .z (.s .z (.s (.s (.sub [.sel [2,3,4,6] [0,1,2,3]] qbfa []) (.s (.s .z (.v [.nilc 2 0 8,.nilc 2 1 5,.nilc 2 2 1])) .z)) (.s (.s .z (.s (.s (.r [(4,.k q9b.b)] []) (.s (.s .z (.s (.s .z (.v [.nilc 2 0 8,.nilc 2 1 5,.nilc 2 2 1])) .z)) .z)) .z)) (.s (.s .z (.s (.s (.r [(5,.k qbkq.b)] []) (.s (.s .z (.s (.s .z (.v [.nilc 2 0 8,.nilc 2 1 5,.nilc 2 2 1])) .z)) (.s (.s .z (.b (.sub [.sel [2,4,6,9,11] [0,2,3]] qbbx []))) .z))) .z)) (.s (.s .z (.s (.s (.r [(15,.k qbe7.b)] []) (.s (.s .z (.s (.s .z (.v [.nilc 2 0 8,.nilc 2 1 5,.nilc 2 2 1])) .z)) .z)) .z)) (.s (.r [(2,.k qbmx.b)] []) .z))))))) S90_ qpx (fun f v=>f (v.l 1 0) (v.l 1 1) (v.l 1 2) (v.i 5 0) (v.b 5 1) (v.i 5 2) (v.i 5 3) (v.i 5 4) (v.i 5 5) (v.s 5 6) (v.s 5 7) (v.i 5 8) (v.i 5 9) (v.i 5 10) (v.s 5 11) (v.b 5 12) (v.i 5 13) (v.i 5 14) (v.i 5 15) (v.s 5 16))
def S136_:Shp:=⟨[(2,.one (.ptr 0 0)),(3,.one (.ptr 1 0)),(35,.one (.l (.i .i64))),(36,.one (.l (.i .i64)))],[.box true (lk qbs),.box true (lk qbs)]⟩
def S137_:Shp:=⟨[(2,.one (.ptr 0 0)),(3,.one (.ptr 1 0)),(53,.one (.l (.i .i64))),(54,.one (.l (.i .i64)))],[.box true (lk qbs),.box true (lk qbs)]⟩
def S138_:Shp:=⟨[(2,.one (.ptr 0 0)),(3,.one (.ptr 1 0)),(71,.one (.l (.i .i64))),(72,.one (.l (.i .i64)))],[.box true (lk qbs),.box true (lk qbs)]⟩
def S139_:Shp:=⟨[(0,.st (lk qbs)),(1,.st (lk qbs))],[]⟩
def qwx (Av Aw Ax Ad Ae Af:LA)(K:Ex->Env->Mem->Option Bool):=(fun(_:Unit)=>K (.exit 0) (qk [(2,(.ptr 0 0)),(3,(.ptr 1 0))]) (qh [(some (.box true (qbo Av Aw Ax))),(some (.box true (qbo Ad Ae Af)))]))
def qh5 (v35 v36:Int)(Av Aw Ax Ad Ae Af:LA)(next:Int->Option Bool)(kx0:Unit->Option Bool):Option Bool:=
 (bif(decide (v36<v35))then(oB (ixB Av v36) fun y1=>(bif fitC qb y1.cells then(oB (ixB Ad v36) fun y2=>(bif fitC qb y2.cells then(bif(!(((gB y1.cells 0)==(gB y2.cells 0))&&(((gI y1.cells 1)==(gI y2.cells 1))&&(((gI y1.cells 2)==(gI y2.cells 2))&&(((gI y1.cells 3)==(gI y2.cells 3))&&(((gI y1.cells 4)==(gI y2.cells 4))&&(((gS y1.cells 5)==(gS y2.cells 5))&&(((gS y1.cells 6)==(gS y2.cells 6))&&(((gI y1.cells 7)==(gI y2.cells 7))&&true)))))))))then(some false)else(next (IntKind.i64.wrap (v36+1))))else none))else none))else(kx0 ()))
def qh6 (v35:Int)(Av Aw Ax Ad Ae Af:LA)(kx0:Unit->Option Bool):Nat->Int->Option Bool
 |0=>(fun _=>none)
 |n+1=>(fun v36=>qh5 v35 v36 Av Aw Ax Ad Ae Af (qh6 v35 Av Aw Ax Ad Ae Af kx0 n) kx0)
def qux:=hull (qh6)
theorem qbby:qux=qh6:=qa _
def qbfb:SubB Tryz.prog (TIof Tryz.prog) 87 0 (kret [.t 4] decB):=lpB tabOk follows Tryz.f16 75 (.s .z (.s (.s .z (.v [.sel [2,3] [0,1]])) (.s (.b (.s .z (.s (.d [] [(3,.e 42 qb),(8,.e 47 qb)] [] []) .z))) (.v [.sel [2,3,35,36] [0,1]])))) S136_ (qh6) (fun f v K n=>f (v.i 140 0) (v.l 3 0) (v.l 3 1) (v.l 3 2) (v.l 7 0) (v.l 7 1) (v.l 7 2) (qwx (v.l 3 0) (v.l 3 1) (v.l 3 2) (v.l 7 0) (v.l 7 1) (v.l 7 2) K) n) (fun v f K=>qh5 (v.i 140 0) (v.i 144 0) (v.l 3 0) (v.l 3 1) (v.l 3 2) (v.l 7 0) (v.l 7 1) (v.l 7 2) f (qwx (v.l 3 0) (v.l 3 1) (v.l 3 2) (v.l 7 0) (v.l 7 1) (v.l 7 2) K)) (fun f v=>f (v.i 144 0)) (fun k v=>(fun z0=>k (v.ui 144 0 z0)))
def qwy (Av Aw Ax Ad Ae Af:LA)(K:Ex->Env->Mem->Option Bool):=(fun(_:Unit)=>K (.exit 2) (qk [(2,(.ptr 0 0)),(3,(.ptr 1 0))]) (qh [(some (.box true (qbo Av Aw Ax))),(some (.box true (qbo Ad Ae Af)))]))
def qh7 (v53 v54:Int)(Av Aw Ax Ad Ae Af:LA)(next:Int->Option Bool)(kx2:Unit->Option Bool):Option Bool:=
 (bif(decide (v54<v53))then(oB (ixB Aw v54) fun y1=>(bif fitC qj y1.cells then(oB (ixB Ae v54) fun y2=>(bif fitC qj y2.cells then(bif(!(((gS y1.cells 0)==(gS y2.cells 0))&&(((gB y1.cells 1)==(gB y2.cells 1))&&(((gI y1.cells 2)==(gI y2.cells 2))&&(((gI y1.cells 3)==(gI y2.cells 3))&&(((gI y1.cells 4)==(gI y2.cells 4))&&true))))))then(some false)else(next (IntKind.i64.wrap (v54+1))))else none))else none))else(kx2 ()))
def qh8 (v53:Int)(Av Aw Ax Ad Ae Af:LA)(kx2:Unit->Option Bool):Nat->Int->Option Bool
 |0=>(fun _=>none)
 |n+1=>(fun v54=>qh7 v53 v54 Av Aw Ax Ad Ae Af (qh8 v53 Av Aw Ax Ad Ae Af kx2 n) kx2)
def quy:=hull (qh8)
theorem qbbz:quy=qh8:=qa _
def qbfc:SubB Tryz.prog (TIof Tryz.prog) 87 0 (kret [.t 4] decB):=lpB tabOk follows Tryz.f16 151 (.s .z (.s (.s .z (.v [.sel [2,3] [0,1]])) (.s (.b (.s .z (.s (.d [] [(3,.e 60 qj),(8,.e 65 qj)] [] []) .z))) (.v [.sel [2,3,53,54] [0,1]])))) S137_ (qh8) (fun f v K n=>f (v.i 212 0) (v.l 3 0) (v.l 3 1) (v.l 3 2) (v.l 7 0) (v.l 7 1) (v.l 7 2) (qwy (v.l 3 0) (v.l 3 1) (v.l 3 2) (v.l 7 0) (v.l 7 1) (v.l 7 2) K) n) (fun v f K=>qh7 (v.i 212 0) (v.i 216 0) (v.l 3 0) (v.l 3 1) (v.l 3 2) (v.l 7 0) (v.l 7 1) (v.l 7 2) f (qwy (v.l 3 0) (v.l 3 1) (v.l 3 2) (v.l 7 0) (v.l 7 1) (v.l 7 2) K)) (fun f v=>f (v.i 216 0)) (fun k v=>(fun z0=>k (v.ui 216 0 z0)))
def qwz (K:Ex->Env->Mem->Option Bool):=(fun(_:Unit)=>K (.exit 4) (qk []) (qh []))
def qh9 (v71 v72:Int)(Av Aw Ax Ad Ae Af:LA)(next:Int->Option Bool)(kx4:Unit->Option Bool):Option Bool:=
 (bif(decide (v72<v71))then(oB (ixB Ax v72) fun y1=>(bif fitC [.s] y1.cells then(oB (ixB Af v72) fun y2=>(bif fitC [.s] y2.cells then(bif(!((gS y1.cells 0)==(gS y2.cells 0)))then(some false)else(next (IntKind.i64.wrap (v72+1))))else none))else none))else(kx4 ()))
def qia (v71:Int)(Av Aw Ax Ad Ae Af:LA)(kx4:Unit->Option Bool):Nat->Int->Option Bool
 |0=>(fun _=>none)
 |n+1=>(fun v72=>qh9 v71 v72 Av Aw Ax Ad Ae Af (qia v71 Av Aw Ax Ad Ae Af kx4 n) kx4)
def quz:=hull (qia)
theorem qbb0:quz=qia:=qa _
def qbfd:SubB Tryz.prog (TIof Tryz.prog) 87 0 (kret [.t 4] decB):=lpB tabOk follows Tryz.f16 303 (.s .z (.s (.s .z (.v [.sel [] []])) (.s (.b (.s .z (.s (.d [] [(3,.e 78 [.s]),(8,.e 83 [.s])] [] []) .z))) (.v [.sel [2,3,71,72] [0,1]])))) S138_ (qia) (fun f v K n=>f (v.i 284 0) (v.l 3 0) (v.l 3 1) (v.l 3 2) (v.l 7 0) (v.l 7 1) (v.l 7 2) (qwz K) n) (fun v f K=>qh9 (v.i 284 0) (v.i 288 0) (v.l 3 0) (v.l 3 1) (v.l 3 2) (v.l 7 0) (v.l 7 1) (v.l 7 2) f (qwz K)) (fun f v=>f (v.i 288 0)) (fun k v=>(fun z0=>k (v.ui 288 0 z0)))
def qr9 (Aa Ab Ac B7 B8 B9:LA):Option Bool:=
 (bif((((Aa.length:Int) != (B7.length:Int))||((Ab.length:Int) != (B8.length:Int)))||((Ac.length:Int) != (B9.length:Int)))then(some false)else(qux (Aa.length:Int) Aa Ab Ac B7 B8 B9 (fun(_:Unit)=>(quy (Ab.length:Int) Aa Ab Ac B7 B8 B9 (fun(_:Unit)=>(quz (Ac.length:Int) Aa Ab Ac B7 B8 B9 (fun(_:Unit)=>(some true)) FU (0:Int))) FU (0:Int))) FU (0:Int)))
def qv1:=hull qr9
theorem qbmz:qv1=qr9:=qa _
def qboi {R:Type}:EntF Tryz.prog R:=entB (nt:=87) (dec:=decB) (enc:=AV.bool) tabOk follows Tryz.func16 [.t 4] hdeB (.s .z (.s (.s (.r [(8,.g 7),(17,.g 7)] []) .z) (.s (.s .z (.b (.sub [.sel [2,3,35,36] [0,1]] qbfb []))) (.s (.s .z (.b (.sub [.sel [2,3,53,54] [0,1]] qbfc []))) (.s (.s .z (.b (.sub [.sel [2,3,71,72] [0,1]] qbfd []))) .z))))) S139_ qr9 (fun f v=>f (v.l 1 0) (v.l 1 1) (v.l 1 2) (v.l 5 0) (v.l 5 1) (v.l 5 2))
def S141_:Shp:=⟨[(1,.one (.l (.sl 17))),(2,.one (.ptr 0 0)),(4,.one (.ptr 1 0)),(17,.one (.l (.sl 17))),(18,.one (.l (.i .i64))),(19,.one (.l (.i .i64)))],[.box true (lk qbs),.box true [(.l .nil),(.l .nil),(.l .nil)]]⟩
def q9s:AV->Option (AV×Int×Int):=decN [(.st [(.sl 8),(.sl 5),(.sl 1)]),(.one (.i .i64)),(.one (.i .i64))] fun z=>((gC (tpL z) 0),aI (gC (tpL z) 1),aI (gC (tpL z) 2))
def q1e (v1:LA)(K:Ex->Env->Mem->Option (AV×Int×Int)):=(fun z_b0_0 z_b0_1 z_b0_2=>K (.exit 0) (qk [(1,(.sl 17 v1)),(2,(.ptr 0 0)),(4,(.ptr 1 0))]) (qh [(some (.box true (qbo z_b0_0 z_b0_1 z_b0_2))),(some (.box true [.nils,.nils,.nils]))]))
def qle (v1 v17:LA)(v18 v19:Int)(Av Aw Ax:LA)(next:Int->(List AV)->(List AV)->(List AV)->Option (AV×Int×Int))(kx0:(List AV)->(List AV)->(List AV)->Option (AV×Int×Int)):Option (AV×Int×Int):=
 (bif(decide (v19<v18))then(oB (ixB v17 v19) fun y1=>(bif fitC qcl y1.cells then(oB (qes Av Aw Ax (gI y1.cells 0) (gB y1.cells 1) (gI y1.cells 2) (gI y1.cells 3) (gI y1.cells 4) (gI y1.cells 5) (gS y1.cells 6) (gS y1.cells 7) (gI y1.cells 8) (gI y1.cells 9) (gI y1.cells 10) (gS y1.cells 11) (gB y1.cells 12) (gI y1.cells 13) (gI y1.cells 14) (gI y1.cells 15) (gS y1.cells 16)) fun r2=>(bif(r2.2 != (0:Int))then(some ((.agg [(.sl 8 ([]:List AV)),(.sl 5 ([]:List AV)),(.sl 1 ([]:List AV))]),v19,r2.2))else(next (IntKind.i64.wrap (v19+1)) (gL r2.1.cells 0) (gL r2.1.cells 1) (gL r2.1.cells 2))))else none))else(kx0 Av Aw Ax))
def qlf (v1 v17:LA)(v18:Int)(kx0:(List AV)->(List AV)->(List AV)->Option (AV×Int×Int)):Nat->Int->(List AV)->(List AV)->(List AV)->Option (AV×Int×Int)
 |0=>(fun _ _ _ _=>none)
 |n+1=>(fun v19 Av Aw Ax=>qle v1 v17 v18 v19 Av Aw Ax (qlf v1 v17 v18 kx0 n) kx0)
def q9t:=hull (qlf)
theorem qbky:q9t=qlf:=qa _
def qbm0:SubB Tryz.prog (TIof Tryz.prog) 40 0 (kret [(.cell 4 true 3),.t 5,.t 6] q9s):=lpB tabOk follows Tryz.f19 151 (.s .z (.s (.s .z (.v [.sel [1,2,4] [0,1]])) (.s (.b (.s (.r [(1,.p (.etac 22 qcl))] []) (.s (.r [(2,.k qtu.b)] []) (.s (.s .z (.s (.s .z (.v [.nilc 1 0 8,.nilc 1 1 5,.nilc 1 2 1])) .z)) .z)))) (.v [.sel [1,2,4,17,18,19] [0,1]])))) S141_ (qlf) (fun f v K n=>f (v.l 4 0) (v.l 68 0) (v.i 72 0) (q1e (v.l 4 0) K) n) (fun v f K=>qle (v.l 4 0) (v.l 68 0) (v.i 72 0) (v.i 76 0) (v.l 3 0) (v.l 3 1) (v.l 3 2) f (q1e (v.l 4 0) K)) (fun f v=>f (v.i 76 0) (v.l 3 0) (v.l 3 1) (v.l 3 2)) (fun k v=>(fun z0 z1 z2 z3=>k ((((v.ui 76 0 z0).ul 3 0 z1).ul 3 1 z2).ul 3 2 z3)))
def qye (Aa Ab Ac v1:LA):Option (AV×Int×Int):=
 (bif(decide ((v1.length:Int)>64))then(some ((.agg [(.sl 8 ([]:List AV)),(.sl 5 ([]:List AV)),(.sl 1 ([]:List AV))]),(0:Int),(9:Int)))else(oB (qte Aa Ab Ac) fun r1=>(q9t v1 v1 (v1.length:Int) (fun b0_0q2 b0_1q3 b0_2q4=>(some ((.agg [(.sl 8 b0_0q2),(.sl 5 b0_1q3),(.sl 1 b0_2q4)]),(v1.length:Int),(0:Int)))) FU (0:Int) (gL r1.cells 0) (gL r1.cells 1) (gL r1.cells 2))))
def qbb1:=hull qye
theorem qbub:qbb1=qye:=qa _
def qbuz {R:Type}:EntF Tryz.prog R:=entB (nt:=40) (dec:=q9s) (enc:=(fun r=>.tup [qck (.st [(.sl 8),(.sl 5),(.sl 1)]) r.1,.int .i64 r.2.1,.int .i64 r.2.2])) tabOk follows Tryz.func19 [(.cell 4 true 3),.t 5,.t 6] (hdeN fun _=>rfl) (.s .z (.s (.s .z (.s (.s .z (.v [.nilc 1 0 8,.nilc 1 1 5,.nilc 1 2 1])) .z)) (.s (.r [(1,.k qxh.b)] []) (.s (.s .z (.b (.sub [.sel [1,2,4,17,18,19] [0,1]] qbm0 []))) .z)))) S0_ qye (fun f v=>f (v.l 1 0) (v.l 1 1) (v.l 1 2) (v.l 4 0))
def S142_:Shp:=⟨[(1,.one (.l (.sl 17))),(4,.one (.ptr 0 0)),(7,.one (.ptr 1 0)),(8,.one (.ptr 2 0)),(9,.one (.l (.i .i64)))],[.box true [(.l .nil),(.l .nil),(.l .nil)],.box true [(.l .nil),(.l .nil),(.l .nil)],.box true (lk qbs)]⟩
def q4s:AV->Option (AV×Int×Int):=decN [(.st [(.sl 8),(.sl 5),(.sl 1)]),(.one (.i .i64)),(.one (.i .i64))] fun z=>((gC (tpL z) 0),aI (gC (tpL z) 1),aI (gC (tpL z) 2))
def qyf (v1:LA)(K:Ex->Env->Mem->Option (AV×Int×Int)):=(fun z_b1_0 z_b1_1 z_b1_2=>K (.exit 0) (qk [(1,(.sl 17 v1)),(4,(.ptr 0 0)),(8,(.ptr 1 0))]) (qh [(some (.box true [.nils,.nils,.nils])),(some (.box true (qbo z_b1_0 z_b1_1 z_b1_2)))]))
def qjb (v1:LA)(v9:Int)(Au Bc Bd:LA)(next:Int->(List AV)->(List AV)->(List AV)->Option (AV×Int×Int))(kx0:(List AV)->(List AV)->(List AV)->Option (AV×Int×Int)):Option (AV×Int×Int):=
 (bif(decide (v9<(v1.length:Int)))then(oB (ixB v1 v9) fun y1=>(bif fitC qcl y1.cells then(oB (qt2 Au Bc Bd (gI y1.cells 0) (gB y1.cells 1) (gI y1.cells 2) (gI y1.cells 3) (gI y1.cells 4) (gI y1.cells 5) (gS y1.cells 6) (gS y1.cells 7) (gI y1.cells 8) (gI y1.cells 9) (gI y1.cells 10) (gS y1.cells 11) (gB y1.cells 12) (gI y1.cells 13) (gI y1.cells 14) (gI y1.cells 15) (gS y1.cells 16)) fun r2=>(bif(r2.2 != (0:Int))then(some ((.agg [(.sl 8 ([]:List AV)),(.sl 5 ([]:List AV)),(.sl 1 ([]:List AV))]),v9,r2.2))else(next (IntKind.i64.wrap (v9+1)) (gL r2.1.cells 0) (gL r2.1.cells 1) (gL r2.1.cells 2))))else none))else(kx0 Au Bc Bd))
def qjc (v1:LA)(kx0:(List AV)->(List AV)->(List AV)->Option (AV×Int×Int)):Nat->Int->(List AV)->(List AV)->(List AV)->Option (AV×Int×Int)
 |0=>(fun _ _ _ _=>none)
 |n+1=>(fun v9 Au Bc Bd=>qjb v1 v9 Au Bc Bd (qjc v1 kx0 n) kx0)
def q4t:=hull (qjc)
theorem qbfe:q4t=qjc:=qa _
def qbhd:SubB Tryz.prog (TIof Tryz.prog) 41 0 (kret [(.cell 4 true 3),.t 5,.t 6] q4s):=lpB tabOk follows Tryz.f20 303 (.s (.s .z (.s .z (.v [.sel [1,4,8] [0,2]]))) (.s (.b (.s (.d [] [(3,.e 27 qcl),(5,.c qbmy.b)] [] []) (.s (.s .z (.s (.s .z (.v [.nilc 0 0 8,.nilc 0 1 5,.nilc 0 2 1])) .z)) .z))) (.v [.sel [1,4,7,8,9] [0,1,2]]))) S142_ (qjc) (fun f v K n=>f (v.l 4 0) (qyf (v.l 4 0) K) n) (fun v f K=>qjb (v.l 4 0) (v.i 36 0) (v.l 11 0) (v.l 11 1) (v.l 11 2) f (qyf (v.l 4 0) K)) (fun f v=>f (v.i 36 0) (v.l 11 0) (v.l 11 1) (v.l 11 2)) (fun k v=>(fun z0 z1 z2 z3=>k ((((v.ui 36 0 z0).ul 11 0 z1).ul 11 1 z2).ul 11 2 z3)))
def qt3 (Aa Ab Ac v1:LA):Option (AV×Int×Int):=
 (bif(decide ((v1.length:Int)>64))then(some ((.agg [(.sl 8 ([]:List AV)),(.sl 5 ([]:List AV)),(.sl 1 ([]:List AV))]),(0:Int),(9:Int)))else(q4t v1 (fun b1_0q1 b1_1q2 b1_2q3=>(some ((.agg [(.sl 8 b1_0q1),(.sl 5 b1_1q2),(.sl 1 b1_2q3)]),(v1.length:Int),(0:Int)))) FU (0:Int) Aa Ab Ac))
def q4u:=hull qt3
theorem qboj:q4u=qt3:=qa _
def qbq6 {R:Type}:EntF Tryz.prog R:=entB (nt:=41) (dec:=q4s) (enc:=(fun r=>.tup [qck (.st [(.sl 8),(.sl 5),(.sl 1)]) r.1,.int .i64 r.2.1,.int .i64 r.2.2])) tabOk follows Tryz.func20 [(.cell 4 true 3),.t 5,.t 6] (hdeN fun _=>rfl) (.s .z (.s .z (.s (.s .z (.s (.s .z (.v [.nilc 1 0 8,.nilc 1 1 5,.nilc 1 2 1])) .z)) (.s .z (.s (.s .z (.b (.sub [.sel [1,4,7,8,9] [1,2,3]] qbhd []))) .z))))) S0_ qt3 (fun f v=>f (v.l 1 0) (v.l 1 1) (v.l 1 2) (v.l 4 0))
def S143_:Shp:=⟨[(1,.one (.l (.sl 17))),(2,.one (.ptr 0 0))],[.box true (lk qbs)]⟩
def q24 (v1 Av Aw Ax:LA)(K:Ex->Env->Mem->Option Bool):=(fun z_v18=>K .norm (qk [(1,(.sl 17 v1)),(2,(.ptr 0 0)),(18,(.bool z_v18))]) (qh [(some (.box true (qbo Av Aw Ax)))]))
def qg4 (v1 Av Aw Ax:LA)(kn:Bool->Option Bool):Option Bool:=
 (oB (qxd Av Aw Ax v1) fun r1=>(bif r1 then(kn true)else(oB (qzq Av Aw Ax) fun r2=>(kn (r2 != (0:Int))))))
def qve:=hull (qg4)
theorem q25:qve=qg4:=qa _
def q4v:SubB Tryz.prog (TIof Tryz.prog) 50 0 (kret [.t 4] decB):=jnB tabOk follows Tryz.f5 9 (.r [(2,.c qbja.b),(5,.c qbmp.b)] [.sel [1,2,18] [0]]) S143_ (qg4) (fun f v K=>f (v.l 4 0) (v.l 3 0) (v.l 3 1) (v.l 3 2) (q24 (v.l 4 0) (v.l 3 0) (v.l 3 1) (v.l 3 2) K))
def qjw (Aa Ab Ac v1:LA):Option Bool:=
 (qve v1 Aa Ab Ac (fun v18q1=>(bif v18q1 then(oB (qtw) fun r2=>(some r2))else(oB (qbb1 Aa Ab Ac v1) fun r3=>(oB (q4u Aa Ab Ac v1) fun r4=>(bif((r3.2.2==r4.2.2)&&(r3.2.1==r4.2.1))then(oB (qv1 (gL r3.1.cells 0) (gL r3.1.cells 1) (gL r3.1.cells 2) (gL r4.1.cells 0) (gL r4.1.cells 1) (gL r4.1.cells 2)) fun r5=>(bif r5 then(oB (qtw) fun r6=>(some r6))else(some false)))else(some false)))))))
def ql0:=hull qjw
theorem q7v:ql0=qjw:=qa _
def q9u {R:Type}:EntF Tryz.prog R:=entB (nt:=50) (dec:=decB) (enc:=AV.bool) tabOk follows Tryz.func5 [.t 4] hdeB (.s .z (.s (.s (.sub [.sel [1,2] [0]] q4v []) (.s (.s (.r [(0,.c q4c.b)] []) .z) .z)) (.s (.r [(2,.k qbuz.b)] []) (.s (.r [(2,.k qbq6.b)] []) (.s (.r [(4,.g 3),(11,.c qboi.b),(14,.c q4c.b)] []) .z))))) S0_ qjw (fun f v=>f (v.l 1 0) (v.l 1 1) (v.l 1 2) (v.l 4 0))
end
end Go.Proofs.YtoaaphlopbabeaaGreatDoor.Dn
