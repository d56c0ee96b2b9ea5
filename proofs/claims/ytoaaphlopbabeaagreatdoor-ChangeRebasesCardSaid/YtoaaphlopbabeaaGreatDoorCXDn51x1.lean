import Derived.Test.YtoaaphlopbabeaaGreatDoorProg
import Derived.Test.YtoaaphlopbabeaaGreatDoorCXLibD
set_option linter.all false
namespace Go.Proofs.YtoaaphlopbabeaaGreatDoor.Dn
open Go Go.Pev
set_option maxRecDepth 100000
set_option maxHeartbeats 4000000
theorem zT:True:=True.intro
theorem zA {a b:Prop}(x:a)(y:b):a/\b:=⟨x,y⟩
theorem tabOk:Tab.ok (TIof Tryz.prog) Tryz.prog:=fun _ _ h=>h
theorem follows:Tryz.prog.follows .mixedOrders=true:=by kernel_rfl
def qbl:List LT:=[(.sl 8),(.sl 5),(.sl 1)]
def S0_:Shp:=⟨[(0,.st (lk qbl)),(1,.one (.l (.sl 17)))],[]⟩
noncomputable section
def qut (Aa Ab Ac v1:LA):Option Bool:=
 (some ((((decide ((Aa.length:Int)>40))||(decide ((Ab.length:Int)>40)))||(decide ((Ac.length:Int)>40)))||(decide ((v1.length:Int)>68))))
def qrg:=hull qut
theorem qbfr:qrg=qut:=qa _
def q2k {R:Type}:EntF Tryz.prog R:=entB (nt:=26) (dec:=decB) (enc:=AV.bool) tabOk follows Tryz.func11 [.t 4] hdeB (.s .z (.s (.r [(5,.g 4),(11,.g 4),(17,.g 3)] []) .z)) S0_ qut (fun f v=>f (v.l 1 0) (v.l 1 1) (v.l 1 2) (v.l 4 0))
def S1_:Shp:=⟨[(0,.one (.l (.i .i64)))],[]⟩
def qzi (v0:Int):Option AV:=
 (some (.agg [(.bool false),(.int .u64 (0:Int)),(.int .u64 (167772160:Int)),(.int .i64 v0)]))
def qxf:=hull qzi
theorem qbn0:qxf=qzi:=qa _
def q78 {R:Type}:EntF Tryz.prog R:=entB (nt:=6) (dec:=(decT [.b,(.i .u64),(.i .u64),(.i .i64)])) (enc:=(qcl (.st [.b,(.i .u64),(.i .u64),(.i .i64)]))) tabOk follows Tryz.func34 [(.cell 2 true 4)] hdeT (.z) S1_ qzi (fun f v=>f (v.i 0 0))
def qbh:List LT:=[(.i .i64),.b,(.i .u64),(.i .u64),(.i .i64),(.i .i64),.s,.s,(.i .i64),(.i .i64),(.i .i64),.s,.b,(.i .u64),(.i .u64),(.i .i64),.s]
def qjg (x0:Int)(x1:Bool)(x2 x3 x4 x5:Int)(x6 x7:LU)(x8 x9 x10:Int)(x11:LU)(x12:Bool)(x13 x14 x15:Int)(x16:LU):List AV:=[.int .i64 x0,.bool x1,.int .u64 x2,.int .u64 x3,.int .i64 x4,.int .i64 x5,.str x6,.str x7,.int .i64 x8,.int .i64 x9,.int .i64 x10,.str x11,.bool x12,.int .u64 x13,.int .u64 x14,.int .i64 x15,.str x16]
def S2_:Shp:=⟨[(1,.one (.ptr 0 0)),(2,.one (.ptr 1 0)),(4,.one (.ptr 2 0))],[.box true (lk qbh),.box true (lk qbh),.box true (lk qbh)]⟩
def S3_:Shp:=⟨[(0,.st (lk qbh))],[]⟩
def q57:AV->Option (AV×Bool):=decN [(.st [(.i .i64),.b,(.i .u64),(.i .u64),(.i .i64),(.i .i64),.s,.s,(.i .i64),(.i .i64),(.i .i64),.s,.b,(.i .u64),(.i .u64),(.i .i64),.s]),(.one .b)] fun z=>((gC (tpL z) 0),aB (gC (tpL z) 1))
def qbjp (Ad:Int)(Ae:Bool)(Af Ag Ah Ai:Int)(Aj Ak:LU)(Al Am An:Int)(Ao:LU)(Ap:Bool)(Aq Ar As:Int)(At:LU)(Au:Int)(K:Ex->Env->Mem->Option (AV×Bool)):=(fun z_b1_1 z_b1_2 z_b1_3 z_b1_4 z_b1_5 z_b1_6 z_b1_7 z_b1_8 z_b1_9 z_b1_10 z_b1_11 z_b1_12 z_b1_13 z_b1_14 z_b1_15 z_b1_16=>K .norm (qk [(2,(.ptr 0 0)),(4,(.ptr 1 0))]) (qh [(some (.box true (qjg Ad Ae Af Ag Ah Ai Aj Ak Al Am An Ao Ap Aq Ar As At))),(some (.box true (qjg Au z_b1_1 z_b1_2 z_b1_3 z_b1_4 z_b1_5 z_b1_6 z_b1_7 z_b1_8 z_b1_9 z_b1_10 z_b1_11 z_b1_12 z_b1_13 z_b1_14 z_b1_15 z_b1_16)))]))
def qo3 (Av:Int)(Aw:Bool)(Ax Ay Az A0:Int)(A1 A2:LU)(A3 A4 A5:Int)(A6:LU)(A7:Bool)(A8 A9 Ba:Int)(Bb:LU)(Ad:Int)(Ae:Bool)(Af Ag Ah Ai:Int)(Aj Ak:LU)(Al Am An:Int)(Ao:LU)(Ap:Bool)(Aq Ar As:Int)(At:LU)(Au:Int)(Bc:Bool)(Bd Be Bf Bg:Int)(Bh Bi:LU)(Bj Bl Bm:Int)(Bn:LU)(Bo:Bool)(Bp Bq Br:Int)(Bs:LU)(kn:Bool->Int->Int->Int->Int->(List UInt8)->(List UInt8)->Int->Int->Int->(List UInt8)->Bool->Int->Int->Int->(List UInt8)->Option (AV×Bool)):Option (AV×Bool):=
 (bif(Av==1)then(kn Aw Ax Ay Az A0 A1 A2 A3 Bl Bm Bn Bo Bp Bq Br Bs)else(bif(Av==2)then(kn Aw Ax Ay Az Bg Bh Bi Bj Bl Bm Bn Bo Bp Bq Br Bs)else(bif(Av==3)then(kn Aw Ax Ay Az (0:Int) A1 A2 (0:Int) A4 A5 Bn Bo Bp Bq Br Bs)else(bif(Av==4)then(kn Bc Bd Be Bf Bg Bh Bi Bj Bl Bm A6 A7 A8 A9 Ba Bs)else(bif(Av==5)then(kn Bc Bd Be Bf Bg Bh Bi Bj Bl Bm A6 A7 A8 A9 (0:Int) Bs)else(bif(Av==6)then(kn Bc Bd Be Bf Bg Bh Bi Bj Bl Bm A6 A7 A8 A9 (0:Int) Bb)else(some ((.agg [(.int .i64 Au),(.bool Bc),(.int .u64 Bd),(.int .u64 Be),(.int .i64 Bf),(.int .i64 Bg),(.str Bh),(.str Bi),(.int .i64 Bj),(.int .i64 Bl),(.int .i64 Bm),(.str Bn),(.bool Bo),(.int .u64 Bp),(.int .u64 Bq),(.int .i64 Br),(.str Bs)]),false))))))))
def q79:=hull (qo3)
theorem qbjq:q79=qo3:=qa _
def qbl3:SubB Tryz.prog (TIof Tryz.prog) 71 0 (kret [(.cell 2 true 17),.t 3] q57):=jnB tabOk follows Tryz.f35 11 (.s .z (.b (.s .z (.s (.v [.sel [2,4] [1,2]]) (.s .z (.s (.v [.sel [2,4] [1,2]]) (.s .z (.s (.s .z (.d [] [] [] [.sel [2,4] [1,2]])) (.s .z (.s (.v [.sel [2,4] [1,2]]) (.s .z (.s (.v [.sel [2,4] [1,2]]) (.s .z (.s (.s .z (.v [.sel [2,4] [1,2]])) .z)))))))))))))) S2_ (qo3) (fun f v K=>f (v.i 3 0) (v.b 3 1) (v.i 3 2) (v.i 3 3) (v.i 3 4) (v.i 3 5) (v.s 3 6) (v.s 3 7) (v.i 3 8) (v.i 3 9) (v.i 3 10) (v.s 3 11) (v.b 3 12) (v.i 3 13) (v.i 3 14) (v.i 3 15) (v.s 3 16) (v.i 7 0) (v.b 7 1) (v.i 7 2) (v.i 7 3) (v.i 7 4) (v.i 7 5) (v.s 7 6) (v.s 7 7) (v.i 7 8) (v.i 7 9) (v.i 7 10) (v.s 7 11) (v.b 7 12) (v.i 7 13) (v.i 7 14) (v.i 7 15) (v.s 7 16) (v.i 11 0) (v.b 11 1) (v.i 11 2) (v.i 11 3) (v.i 11 4) (v.i 11 5) (v.s 11 6) (v.s 11 7) (v.i 11 8) (v.i 11 9) (v.i 11 10) (v.s 11 11) (v.b 11 12) (v.i 11 13) (v.i 11 14) (v.i 11 15) (v.s 11 16) (qbjp (v.i 7 0) (v.b 7 1) (v.i 7 2) (v.i 7 3) (v.i 7 4) (v.i 7 5) (v.s 7 6) (v.s 7 7) (v.i 7 8) (v.i 7 9) (v.i 7 10) (v.s 7 11) (v.b 7 12) (v.i 7 13) (v.i 7 14) (v.i 7 15) (v.s 7 16) (v.i 11 0) K))
def qvo (Aa:Int)(Ab:Bool)(Ac Bt Bu Bv:Int)(Bw Bx:LU)(By Bz B0:Int)(B1:LU)(B2:Bool)(B3 B4 B5:Int)(B6:LU):Option (AV×Bool):=
 (q79 Aa Ab Ac Bt Bu Bv Bw Bx By Bz B0 B1 B2 B3 B4 B5 B6 (0:Int) false (0:Int) (0:Int) (0:Int) (0:Int) ([]:List UInt8) ([]:List UInt8) (0:Int) (0:Int) (0:Int) ([]:List UInt8) false (0:Int) (0:Int) (0:Int) ([]:List UInt8) Aa false (0:Int) (0:Int) (0:Int) (0:Int) ([]:List UInt8) ([]:List UInt8) (0:Int) (0:Int) (0:Int) ([]:List UInt8) false (0:Int) (0:Int) (0:Int) ([]:List UInt8) (fun b1_1q1 b1_2q2 b1_3q3 b1_4q4 b1_5q5 b1_6q6 b1_7q7 b1_8q8 b1_9q9 b1_10q10 b1_11q11 b1_12q12 b1_13q13 b1_14q14 b1_15q15 b1_16q16=>(some ((.agg [(.int .i64 Aa),(.bool b1_1q1),(.int .u64 b1_2q2),(.int .u64 b1_3q3),(.int .i64 b1_4q4),(.int .i64 b1_5q5),(.str b1_6q6),(.str b1_7q7),(.int .i64 b1_8q8),(.int .i64 b1_9q9),(.int .i64 b1_10q10),(.str b1_11q11),(.bool b1_12q12),(.int .u64 b1_13q13),(.int .u64 b1_14q14),(.int .i64 b1_15q15),(.str b1_16q16)]),true))))
def q7e:=hull qvo
theorem qbq6:q7e=qvo:=qa _
def qbt3 {R:Type}:EntF Tryz.prog R:=entB (nt:=71) (dec:=q57) (enc:=(fun r=>.tup [qcl (.st [(.i .i64),.b,(.i .u64),(.i .u64),(.i .i64),(.i .i64),.s,.s,(.i .i64),(.i .i64),(.i .i64),.s,.b,(.i .u64),(.i .u64),(.i .i64),.s]) r.1,.bool r.2])) tabOk follows Tryz.func35 [(.cell 2 true 17),.t 3] (hdeN fun _=>rfl) (.s .z (.s .z (.s (.sub [.sel [1,2,4] [0,1,2]] qbl3 []) .z))) S3_ qvo (fun f v=>f (v.i 1 0) (v.b 1 1) (v.i 1 2) (v.i 1 3) (v.i 1 4) (v.i 1 5) (v.s 1 6) (v.s 1 7) (v.i 1 8) (v.i 1 9) (v.i 1 10) (v.s 1 11) (v.b 1 12) (v.i 1 13) (v.i 1 14) (v.i 1 15) (v.s 1 16))
def qt (l:LA):Option (List AV):=q1o 80 l
def qq0 {R:Type}(xs:LA)(K:AV->Option R):Option R:=qys 8 80 xs K
theorem qen {R:Type}:qdo Tryz.prog 87 (qq0 (R:=R)):=qbrx (ρ:=q5j 87 4 22 33) tabOk (qbim follows "slices.Clone[[]ddi/api.Block,ddi/api.Block]" (by kernel_rfl) (by kernel_rfl) (by kernel_rfl) (by kernel_rfl) (by kernel_rfl) (by kernel_rfl) (by kernel_rfl) (by kernel_rfl)) (by kernel_rfl) (by decide) (by decide)
def qld (l:LA):Option (List AV):=q1o 48 l
def qsr {R:Type}(xs:LA)(K:AV->Option R):Option R:=qys 5 48 xs K
theorem quu {R:Type}:qdo Tryz.prog 88 (qsr (R:=R)):=qbrx (ρ:=q5j 88 4 23 35) tabOk (qbim follows "slices.Clone[[]ddi/api.Host,ddi/api.Host]" (by kernel_rfl) (by kernel_rfl) (by kernel_rfl) (by kernel_rfl) (by kernel_rfl) (by kernel_rfl) (by kernel_rfl) (by kernel_rfl)) (by kernel_rfl) (by decide) (by decide)
def qon (l:LA):Option (List AV):=q1o 16 l
def qwa {R:Type}(xs:LA)(K:AV->Option R):Option R:=qys 1 16 xs K
theorem qxg {R:Type}:qdo Tryz.prog 89 (qwa (R:=R)):=qbrx (ρ:=q5j 89 4 24 9) tabOk (qbim follows "slices.Clone[[]string,string]" (by kernel_rfl) (by kernel_rfl) (by kernel_rfl) (by kernel_rfl) (by kernel_rfl) (by kernel_rfl) (by kernel_rfl) (by kernel_rfl)) (by kernel_rfl) (by decide) (by decide)
def S4_:Shp:=⟨[(0,.st (lk qbl))],[]⟩
def qxh (Aa Ab Ac:LA):Option AV:=
 (oB (qt Aa) fun r1=>(oB (qld Ab) fun r2=>(oB (qon Ac) fun r3=>(bif hd r1 r1.length then(bif hd r2 r2.length then(bif hd r3 r3.length then(some (.agg [(.fr true 8 r1),(.fr true 5 r2),(.fr true 1 r3)]))else none)else none)else none))))
def qtn:=hull qxh
theorem qbt4:qtn=qxh:=qa _
def qxi {R:Type}:EntF Tryz.prog R:=entB (nt:=13) (dec:=(decT [(.fr true 8),(.fr true 5),(.fr true 1)])) (enc:=(qcl (.st [(.fr true 8),(.fr true 5),(.fr true 1)]))) tabOk follows Tryz.func36 [(.cell 2 true 3)] hdeT (.s .z (.s (.d3 [] [5,8] [(2,.c (eB qen)),(5,.c (eB quu))] [(0,.c (eB qxg))] []) .z)) S4_ qxh (fun f v=>f (v.l 1 0) (v.l 1 1) (v.l 1 2))
def qd3:List LT:=[.b,(.i .u64),(.i .u64)]
def S5_:Shp:=⟨[(0,.st (lk qd3))],[]⟩
def qxj (Aa:Bool)(Ab Ac:Int):Option Bool:=
 (bif Aa then(some true)else(bif(Ab==0)then(some (decide (Ac<=4294967295)))else(some false)))
def qxk:=hull qxj
theorem qbt5:qxk=qxj:=qa _
def q34 {R:Type}:EntF Tryz.prog R:=entB (nt:=15) (dec:=decB) (enc:=AV.bool) tabOk follows Tryz.func167 [.t 2] hdeB (.z) S5_ qxj (fun f v=>f (v.b 1 0) (v.i 1 1) (v.i 1 2))
def qrh (Aa:Bool)(Ab Ac:Int):Option Int:=
 (bif Aa then(some (128:Int))else(some (32:Int)))
def ql5:=hull qrh
theorem qbl4:ql5=qrh:=qa _
def qri {R:Type}:EntF Tryz.prog R:=entB (nt:=5) (dec:=(decI .i64)) (enc:=(AV.int .i64)) tabOk follows Tryz.func174 [.t 2] hdeI (.z) S5_ qrh (fun f v=>f (v.b 1 0) (v.i 1 1) (v.i 1 2))
def S6_:Shp:=⟨[(0,.one (.l .b)),(1,.one (.l (.i .i64)))],[]⟩
def qbl5:AV->Option (Int×Int):=decN [(.one (.i .u64)),(.one (.i .u64))] fun z=>(aI (gC (tpL z) 0),aI (gC (tpL z) 1))
def qoo (v0:Bool)(v1:Int):Option (Int×Int):=
 (bif(!v0)then(bif decide ((IntKind.u64.wrap (IntKind.i64.wrap ((32:Int)-v1)))<0)then none else(some ((0:Int),(IntKind.u64.wrap ((IntKind.u64.wrap ((1:Int)*2^min (IntKind.u64.wrap (IntKind.i64.wrap ((32:Int)-v1))).toNat IntKind.u64.bits))-1)))))else(bif(decide (v1>=64))then(bif decide ((IntKind.u64.wrap (IntKind.i64.wrap ((128:Int)-v1)))<0)then none else(some ((0:Int),(IntKind.u64.wrap ((IntKind.u64.wrap ((1:Int)*2^min (IntKind.u64.wrap (IntKind.i64.wrap ((128:Int)-v1))).toNat IntKind.u64.bits))-1)))))else(bif decide ((IntKind.u64.wrap (IntKind.i64.wrap ((64:Int)-v1)))<0)then none else(some ((IntKind.u64.wrap ((IntKind.u64.wrap ((1:Int)*2^min (IntKind.u64.wrap (IntKind.i64.wrap ((64:Int)-v1))).toNat IntKind.u64.bits))-1)),(18446744073709551615:Int))))))
def qxl:=hull qoo
theorem qbn1:qxl=qoo:=qa _
def q8a {R:Type}:EntF Tryz.prog R:=entB (nt:=25) (dec:=qbl5) (enc:=(fun r=>.tup [.int .u64 r.1,.int .u64 r.2])) tabOk follows Tryz.func175 [.t 4,.t 5] (hdeN fun _=>rfl) (.z) S6_ qoo (fun f v=>f (v.b 0 0) (v.i 4 0))
def qe:List LT:=[.b,(.i .u64),(.i .u64),(.i .i64)]
def qc (x0:Bool)(x1 x2 x3:Int):List AV:=[.bool x0,.int .u64 x1,.int .u64 x2,.int .i64 x3]
def S7_:Shp:=⟨[(1,.one (.ptr 0 0))],[.box true (lk qe)]⟩
def S8_:Shp:=⟨[(0,.st (lk qe))],[]⟩
def qbfs (Av:Bool)(Aw Ax Ay:Int)(K:Ex->Env->Mem->Option Bool):=(fun z_v21=>K .norm (qk [(1,(.ptr 0 0)),(21,(.bool z_v21))]) (qh [(some (.box true (qc Av Aw Ax Ay)))]))
def qno (Av:Bool)(Aw Ax Ay:Int)(kn:Bool->Option Bool):Option Bool:=
 (oB (qxk Av Aw Ax) fun r1=>(bif(!r1)then(kn true)else(bif(decide (Ay<0))then(kn true)else(oB (ql5 Av Aw Ax) fun r2=>(kn (decide (Ay>r2)))))))
def q58:=hull (qno)
theorem qbft:q58=qno:=qa _
def qbjr:SubB Tryz.prog (TIof Tryz.prog) 45 0 (kret [.t 2] decB):=jnB tabOk follows Tryz.f126 9 (.d [] [(2,.c q34.b),(14,.c qri.b)] [] [.sel [1,21] [0]]) S7_ (qno) (fun f v K=>f (v.b 3 0) (v.i 3 1) (v.i 3 2) (v.i 3 3) (qbfs (v.b 3 0) (v.i 3 1) (v.i 3 2) (v.i 3 3) K))
def qto (Aa:Bool)(Ab Ac Bt:Int):Option Bool:=
 (q58 Aa Ab Ac Bt (fun v21q1=>(bif v21q1 then(some false)else(oB (qxl Aa Bt) fun r2=>(some (((qbg .and .u64 Ab r2.1)==0)&&((qbg .and .u64 Ac r2.2)==0)))))))
def qix:=hull qto
theorem qbn2:qix=qto:=qa _
def qk8 {R:Type}:EntF Tryz.prog R:=entB (nt:=45) (dec:=decB) (enc:=AV.bool) tabOk follows Tryz.func126 [.t 2] hdeB (.s .z (.s (.s (.sub [.sel [1] [0]] qbjr []) .z) (.s (.r [(5,.c q8a.b)] []) (.s (.r [(7,.g 6)] []) .z)))) S8_ qto (fun f v=>f (v.b 1 0) (v.i 1 1) (v.i 1 2) (v.i 1 3))
def qtp (Aa:Bool)(Ab Ac Bt:Int):Option Int:=
 (bif Aa then(some (128:Int))else(some (32:Int)))
def q35:=hull qtp
theorem qbn3:q35=qtp:=qa _
def qbq7 {R:Type}:EntF Tryz.prog R:=entB (nt:=6) (dec:=(decI .i64)) (enc:=(AV.int .i64)) tabOk follows Tryz.func137 [.t 2] hdeI (.z) S8_ qtp (fun f v=>f (v.b 1 0) (v.i 1 1) (v.i 1 2) (v.i 1 3))
def S9_:Shp:=⟨[(0,.one (.l .s)),(19,.one (.l (.i .i64))),(20,.one (.l (.i .i64)))],[]⟩
def S10_:Shp:=⟨[(0,.one (.l .s)),(1,.one (.l (.i .i64))),(2,.one (.l (.i .i64)))],[]⟩
def qu4 (K:Ex->Env->Mem->Option Bool):=(fun(_:Unit)=>K (.exit 0) (qk []) (qh []))
def qgl (v0:LU)(v19 v20:Int)(next:Int->Option Bool)(kx0:Unit->Option Bool):Option Bool:=
 (bif(decide (v20<v19))then(oB (ixB v0 v20) fun c1=>(bif(decide ((c1.toNat:Int)<33))then(some false)else(oB (ixB v0 v20) fun c2=>(bif(decide ((c2.toNat:Int)>126))then(some false)else(next (IntKind.i64.wrap (v20+1)))))))else(kx0 ()))
def qgm (v0:LU)(v19:Int)(kx0:Unit->Option Bool):Nat->Int->Option Bool
 |0=>(fun _=>none)
 |n+1=>(fun v20=>qgl v0 v19 v20 (qgm v0 v19 kx0 n) kx0)
def qss:=hull (qgm)
theorem q8b:qss=qgm:=qa _
def qbav:SubB Tryz.prog (TIof Tryz.prog) 34 0 (kret [.t 6] decB):=lpB tabOk follows Tryz.f138 75 (.s .z (.s (.s .z (.v [.sel [] []])) (.s .z (.v [.sel [0,19,20] []])))) S9_ (qgm) (fun f v K n=>f (v.s 0 0) (v.i 76 0) (qu4 K) n) (fun v f K=>qgl (v.s 0 0) (v.i 76 0) (v.i 80 0) f (qu4 K)) (fun f v=>f (v.i 80 0)) (fun k v=>(fun z0=>k (v.ui 80 0 z0)))
def qo4 (v0:LU)(v1 v2:Int):Option Bool:=
 (bif((decide ((v0.length:Int)<v1))||(decide ((v0.length:Int)>v2)))then(some false)else(qss v0 (v0.length:Int) (fun(_:Unit)=>(some true)) FU (0:Int)))
def qtq:=hull qo4
theorem qbjs:qtq=qo4:=qa _
def q36 {R:Type}:EntF Tryz.prog R:=entB (nt:=34) (dec:=decB) (enc:=AV.bool) tabOk follows Tryz.func138 [.t 6] hdeB (.s .z (.s (.s (.r [(5,.g 4)] []) .z) (.s (.s .z (.b (.sub [.sel [0,19,20] []] qbav []))) .z))) S10_ qo4 (fun f v=>f (v.s 0 0) (v.i 4 0) (v.i 8 0))
def qb:List LT:=[.b,(.i .u64),(.i .u64),(.i .i64),(.i .i64),.s,.s,(.i .i64)]
def qn (x0:Bool)(x1 x2 x3 x4:Int)(x5 x6:LU)(x7:Int):List AV:=[.bool x0,.int .u64 x1,.int .u64 x2,.int .i64 x3,.int .i64 x4,.str x5,.str x6,.int .i64 x7]
def S11_:Shp:=⟨[(1,.one (.ptr 0 0))],[.box true (lk qb)]⟩
def S12_:Shp:=⟨[(0,.st (lk qb))],[]⟩
def qbdx (Av:Bool)(Aw Ax Ay Az:Int)(A0 A1:LU)(A2:Int)(K:Ex->Env->Mem->Option Int):=(fun z_v28=>K .norm (qk [(1,(.ptr 0 0)),(28,(.bool z_v28))]) (qh [(some (.box true (qn Av Aw Ax Ay Az A0 A1 A2)))]))
def qmc (Av:Bool)(Aw Ax Ay Az:Int)(A0 A1:LU)(A2:Int)(kn:Bool->Option Int):Option Int:=
 (bif(decide (Az<1))then(kn true)else(bif(decide (Az>3))then(kn true)else(bif(Az==3)then(oB (q35 Av Aw Ax Ay) fun r1=>(kn (Ay != r1)))else(kn false))))
def q37:=hull (qmc)
theorem qbdy:q37=qmc:=qa _
def qbfu:SubB Tryz.prog (TIof Tryz.prog) 49 0 (kret [.t 2] (decI .i64)):=jnB tabOk follows Tryz.f90 19 (.d [] [(18,.c qbq7.b)] [] [.sel [1,28] [0]]) S11_ (qmc) (fun f v K=>f (v.b 3 0) (v.i 3 1) (v.i 3 2) (v.i 3 3) (v.i 3 4) (v.s 3 5) (v.s 3 6) (v.i 3 7) (qbdx (v.b 3 0) (v.i 3 1) (v.i 3 2) (v.i 3 3) (v.i 3 4) (v.s 3 5) (v.s 3 6) (v.i 3 7) K))
def qtr (Aa:Bool)(Ab Ac Bt Bu:Int)(Bv Bw:LU)(Bx:Int):Option Int:=
 (oB (qix Aa Ab Ac Bt) fun r1=>(bif(!r1)then(some (3:Int))else(q37 Aa Ab Ac Bt Bu Bv Bw Bx (fun v28q2=>(bif v28q2 then(some (1:Int))else(oB (qtq Bv (1:Int) (63:Int)) fun r3=>(bif(!r3)then(some (1:Int))else(oB (qtq Bw (0:Int) (32:Int)) fun r4=>(bif(((!r4)||(decide (Bx<0)))||(decide (Bx>4294967295)))then(some (1:Int))else(some (0:Int)))))))))))
def qxm:=hull qtr
theorem qbn4:qxm=qtr:=qa _
def qbq8 {R:Type}:EntF Tryz.prog R:=entB (nt:=49) (dec:=(decI .i64)) (enc:=(AV.int .i64)) tabOk follows Tryz.func90 [.t 2] hdeI (.s .z (.s (.s (.r [(2,.c qk8.b)] []) .z) (.s (.s (.sub [.sel [1] [0]] qbfu []) .z) (.s (.s (.r [(2,.c q36.b),(7,.c q36.b),(11,.g 3),(16,.g 3)] []) .z) .z)))) S12_ qtr (fun f v=>f (v.b 1 0) (v.i 1 1) (v.i 1 2) (v.i 1 3) (v.i 1 4) (v.s 1 5) (v.s 1 6) (v.i 1 7))
def S13_:Shp:=⟨[(0,.st (lk qb)),(1,.one (.ptr 0 0))],[.box true (lk qe)]⟩
def qbjt {R:Type}(KK:AV->Mem->Option R):=(fun v3 Av Aw Ax Ay=>KK (.bool v3) (qh [(some (.box true (qc Av Aw Ax Ay)))]))
def qo5 {R:Type}(Aa:Bool)(Ab Ac Bt Bu:Int)(Bv Bw:LU)(Bx:Int)(Av:Bool)(Aw Ax Ay:Int)(kr:Bool->Bool->Int->Int->Int->Option R):Option R:=
 (kr ((Aa==Av)&&((Ab==Aw)&&((Ac==Ax)&&((Bt==Ay)&&true)))) Av Aw Ax Ay)
def q8c {R:Type}:=hull (qo5 (R:=R))
theorem qbju {R:Type}:q8c (R:=R)=qo5:=qa _
def qbl6 {R:Type}:RefB Tryz.prog R:=refB (nt:=8) (nb:=1) tabOk follows Tryz.func139 [.t 3] (fun KK=>.s .z (.s .z (.v [.sel [3] [0]]))) S13_ (qo5 (R:=R)) (fun f v KK=>f (v.b 1 0) (v.i 1 1) (v.i 1 2) (v.i 1 3) (v.i 1 4) (v.s 1 5) (v.s 1 6) (v.i 1 7) (v.b 3 0) (v.i 3 1) (v.i 3 2) (v.i 3 3) (qbjt KK)) (by kernel_rfl) (by kernel_rfl) (fun _=>(by kernel_rfl)) rfl
def S14_:Shp:=⟨[(0,.one (.l (.sl 8))),(1,.one (.fn 139 [(0,0)])),(7,.one (.l (.i .i64))),(8,.one (.l (.i .i64)))],[.box true (lk qe)]⟩
def S15_:Shp:=⟨[(0,.one (.l (.sl 8))),(1,.one (.fn 139 [(0,0)]))],[.box true (lk qe)]⟩
def qde {R:Type}(K:Ex->Env->Mem->Option R):=(fun z_b0_0 z_b0_1 z_b0_2 z_b0_3=>K (.exit 0) (qk []) (qh [(some (.box true (qc z_b0_0 z_b0_1 z_b0_2 z_b0_3)))]))
def qdl {R:Type}(KK:AV->Mem->Option R):=(fun v4 Av Aw Ax Ay=>KK (.int .i64 v4) (qh [(some (.box true (qc Av Aw Ax Ay)))]))
def q8 {R:Type}(v0:LA)(v7 v8:Int)(Av:Bool)(Aw Ax Ay:Int)(next:Int->Bool->Int->Int->Int->Option R)(kx0:Bool->Int->Int->Int->Option R)(kr:Int->Bool->Int->Int->Int->Option R):Option R:=
 (bif(decide (v8<v7))then(oB (ixB v0 v8) fun y1=>(bif fitC qb y1.cells then(q8c (gB y1.cells 0) (gI y1.cells 1) (gI y1.cells 2) (gI y1.cells 3) (gI y1.cells 4) (gS y1.cells 5) (gS y1.cells 6) (gI y1.cells 7) Av Aw Ax Ay fun v3q2 b0_0q3 b0_1q4 b0_2q5 b0_3q6=>(bif v3q2 then(kr v8 b0_0q3 b0_1q4 b0_2q5 b0_3q6)else(next (IntKind.i64.wrap (v8+1)) b0_0q3 b0_1q4 b0_2q5 b0_3q6)))else none))else(kx0 Av Aw Ax Ay))
def q9 {R:Type}(v0:LA)(v7:Int)(kx0:Bool->Int->Int->Int->Option R)(kr:Int->Bool->Int->Int->Int->Option R):Nat->Int->Bool->Int->Int->Int->Option R
 |0=>(fun _ _ _ _ _=>none)
 |n+1=>(fun v8 Av Aw Ax Ay=>q8 v0 v7 v8 Av Aw Ax Ay (q9 v0 v7 kx0 kr n) kx0 kr)
def qdy {R:Type}:=hull (q9 (R:=R))
theorem qhr {R:Type}:qdy (R:=R)=q9:=qa _
def qhz {R:Type}(KK:AV->Mem->Option R):SubB Tryz.prog (TIof Tryz.prog) 19 1 (qdu [.t 4] KK):=lpB tabOk follows Tryz.f125 37 (.s .z (.s (.s .z (.v [.sel [] [0]])) (.s (.b (.s .z (.s (.r [(3,.p (.etac 14 qb)),(5,.s (.sel [0,1,5,7,8,11,15] [0])),(5,.r qbl6)] []) (.s (.s .z (.v [.sel [4] [0]])) .z)))) (.v [.sel [0,1,7,8] [0]])))) S14_ (q9 (R:=R)) (fun f v K n=>f (v.l 0 0) (v.i 28 0) (qde K) (qdl KK) n) (fun v f K=>q8 (v.l 0 0) (v.i 28 0) (v.i 32 0) (v.b 3 0) (v.i 3 1) (v.i 3 2) (v.i 3 3) f (qde K) (qdl KK)) (fun f v=>f (v.i 32 0) (v.b 3 0) (v.i 3 1) (v.i 3 2) (v.i 3 3)) (fun k v=>(fun z0 z1 z2 z3 z4=>k (((((v.ui 32 0 z0).ub 3 0 z1).ui 3 1 z2).ui 3 2 z3).ui 3 3 z4)))
def qim {R:Type}(KK:AV->Mem->Option R):=(fun v4 Av Aw Ax Ay=>KK (.int .i64 v4) (qh [(some (.box true (qc Av Aw Ax Ay)))]))
def qbw {R:Type}(v0:LA)(Av:Bool)(Aw Ax Ay:Int)(kr:Int->Bool->Int->Int->Int->Option R):Option R:=
 (qdy v0 (v0.length:Int) (fun b0_0q1 b0_1q2 b0_2q3 b0_3q4=>(kr (-1:Int) b0_0q1 b0_1q2 b0_2q3 b0_3q4)) kr FU (0:Int) Av Aw Ax Ay)
def qd6 {R:Type}:=hull (qbw (R:=R))
theorem qin {R:Type}:qd6 (R:=R)=qbw:=qa _
def qiy {R:Type}:RefB Tryz.prog R:=refB (nt:=19) (nb:=1) tabOk follows Tryz.func125 [.t 4] (fun KK=>.s .z (.s (.s .z (.b (.sub [.sel [0,1,7,8] [0]] (qhz KK) []))) (.s .z (.v [.sel [4] [0]])))) S15_ (qbw (R:=R)) (fun f v KK=>f (v.l 0 0) (v.b 3 0) (v.i 3 1) (v.i 3 2) (v.i 3 3) (qim KK)) (by kernel_rfl) (by kernel_rfl) (fun _=>(by kernel_rfl)) rfl
def S16_:Shp:=⟨[(0,.one (.l (.sl 8))),(1,.st (lk qe))],[]⟩
def qts (v0:LA)(B7:Bool)(B8 B9 Ca:Int):Option Int:=
 (qd6 v0 B7 B8 B9 Ca fun v4q1 b0_0q2 b0_1q3 b0_2q4 b0_3q5=>(some v4q1))
def qst:=hull qts
theorem qbn5:qst=qts:=qa _
def qzj {R:Type}:EntF Tryz.prog R:=entB (nt:=8) (dec:=(decI .i64)) (enc:=(AV.int .i64)) tabOk follows Tryz.func91 [.t 4] hdeI (.s .z (.s (.r [(2,.s (.sel [5,6] [0])),(2,.r qiy)] []) .z)) S16_ qts (fun f v=>f (v.l 0 0) (v.b 5 0) (v.i 5 1) (v.i 5 2) (v.i 5 3))
def qhi (x0:Bool)(x1 x2:Int):List AV:=[.bool x0,.int .u64 x1,.int .u64 x2]
def S17_:Shp:=⟨[(1,.one (.l (.i .i64))),(2,.one (.ptr 0 0)),(4,.one (.ptr 1 0))],[.box true (lk qd3),.box true (lk qe)]⟩
def S18_:Shp:=⟨[(0,.st (lk qd3)),(1,.one (.l (.i .i64)))],[]⟩
def qbdn:AV->Option (AV×Bool):=decN [(.st [.b,(.i .u64),(.i .u64),(.i .i64)]),(.one .b)] fun z=>((gC (tpL z) 0),aB (gC (tpL z) 1))
def qbn6 (v1:Int)(Av:Bool)(Aw Ax:Int)(Ad:Bool)(Ae Af Ag:Int)(K:Ex->Env->Mem->Option (AV×Bool)):=(fun z_v20=>K .norm (qk [(1,(.int .i64 v1)),(2,(.ptr 0 0)),(4,(.ptr 1 0)),(20,(.bool z_v20))]) (qh [(some (.box true (qhi Av Aw Ax))),(some (.box true (qc Ad Ae Af Ag)))]))
def qtt (v1:Int)(Av:Bool)(Aw Ax:Int)(Ad:Bool)(Ae Af Ag:Int)(kn:Bool->Option (AV×Bool)):Option (AV×Bool):=
 (oB (qxk Av Aw Ax) fun r1=>(bif((!r1)||(decide (v1<0)))then(kn true)else(oB (ql5 Av Aw Ax) fun r2=>(kn (decide (v1>r2))))))
def qbfv:=hull (qtt)
theorem qbn7:qbfv=qtt:=qa _
def qbq9:SubB Tryz.prog (TIof Tryz.prog) 42 0 (kret [(.cell 4 true 4),.t 5] qbdn):=jnB tabOk follows Tryz.f127 9 (.r [(1,.c q34.b),(4,.g 2),(10,.c qri.b)] [.sel [1,2,4,20] [0,1]]) S17_ (qtt) (fun f v K=>f (v.i 4 0) (v.b 3 0) (v.i 3 1) (v.i 3 2) (v.b 7 0) (v.i 7 1) (v.i 7 2) (v.i 7 3) (qbn6 (v.i 4 0) (v.b 3 0) (v.i 3 1) (v.i 3 2) (v.b 7 0) (v.i 7 1) (v.i 7 2) (v.i 7 3) K))
def q0i (Aa:Bool)(Ab Ac v1:Int):Option (AV×Bool):=
 (qbfv v1 Aa Ab Ac false (0:Int) (0:Int) (0:Int) (fun v20q1=>(bif v20q1 then(some ((.agg [(.bool false),(.int .u64 (0:Int)),(.int .u64 (0:Int)),(.int .i64 (0:Int))]),false))else(oB (qxl Aa v1) fun r2=>(some ((.agg [(.bool Aa),(.int .u64 (qbg .andNot .u64 Ab r2.1)),(.int .u64 (qbg .andNot .u64 Ac r2.2)),(.int .i64 v1)]),true))))))
def qbfw:=hull q0i
theorem qbu5:qbfw=q0i:=qa _
def qbxm {R:Type}:EntF Tryz.prog R:=entB (nt:=42) (dec:=qbdn) (enc:=(fun r=>.tup [qcl (.st [.b,(.i .u64),(.i .u64),(.i .i64)]) r.1,.bool r.2])) tabOk follows Tryz.func127 [(.cell 4 true 4),.t 5] (hdeN fun _=>rfl) (.s .z (.s (.s (.sub [.sel [1,2,4] [0,1]] qbq9 []) .z) (.s (.r [(3,.c q8a.b)] []) .z))) S18_ q0i (fun f v=>f (v.b 1 0) (v.i 1 1) (v.i 1 2) (v.i 4 0))
def S19_:Shp:=⟨[(0,.st (lk qe)),(1,.st (lk qd3))],[]⟩
def qnp (Aa:Bool)(Ab Ac Bt:Int)(B7:Bool)(B8 B9:Int):Option Bool:=
 (oB (qix Aa Ab Ac Bt) fun r1=>(bif((!r1)||(!((Aa==B7)&&true)))then(some false)else(oB (qbfw B7 B8 B9 Bt) fun r2=>(some (r2.2&&(((gB r2.1.cells 0)==Aa)&&(((gI r2.1.cells 1)==Ab)&&(((gI r2.1.cells 2)==Ac)&&(((gI r2.1.cells 3)==Bt)&&true)))))))))
def qrj:=hull qnp
theorem qbfx:qrj=qnp:=qa _
def q2l {R:Type}:EntF Tryz.prog R:=entB (nt:=31) (dec:=decB) (enc:=AV.bool) tabOk follows Tryz.func67 [.t 4] hdeB (.s .z (.s (.s (.r [(1,.c qk8.b),(4,.g 6)] []) .z) (.s (.r [(3,.c qbxm.b)] []) (.s (.r [(2,.g 3)] []) .z)))) S19_ qnp (fun f v=>f (v.b 1 0) (v.i 1 1) (v.i 1 2) (v.i 1 3) (v.b 5 0) (v.i 5 1) (v.i 5 2))
def S20_:Shp:=⟨[(0,.st (lk qe)),(1,.st (lk qe))],[]⟩
def qrk (Aa:Bool)(Ab Ac Bt:Int)(B7:Bool)(B8 B9 Ca:Int):Option Bool:=
 (oB (qix Aa Ab Ac Bt) fun r1=>(bif r1 then(oB (qix B7 B8 B9 Ca) fun r2=>(bif(r2&&(decide (Bt>=Ca)))then(oB (qrj B7 B8 B9 Ca Aa Ab Ac) fun r3=>(some r3))else(some false)))else(some false)))
def ql6:=hull qrk
theorem qbl7:ql6=qrk:=qa _
def qmd {R:Type}:EntF Tryz.prog R:=entB (nt:=24) (dec:=decB) (enc:=AV.bool) tabOk follows Tryz.func122 [.t 4] hdeB (.s .z (.s (.r [(1,.c qk8.b),(4,.c qk8.b),(7,.g 5),(17,.c q2l.b)] []) .z)) S20_ qrk (fun f v=>f (v.b 1 0) (v.i 1 1) (v.i 1 2) (v.i 1 3) (v.b 5 0) (v.i 5 1) (v.i 5 2) (v.i 5 3))
def qvp (Aa:Bool)(Ab Ac Bt:Int)(B7:Bool)(B8 B9 Ca:Int):Option Bool:=
 (bif(decide (Bt>Ca))then(oB (ql6 Aa Ab Ac Bt B7 B8 B9 Ca) fun r1=>(some r1))else(some false))
def qu5:=hull qvp
theorem qbra:qu5=qvp:=qa _
def q14 {R:Type}:EntF Tryz.prog R:=entB (nt:=15) (dec:=decB) (enc:=AV.bool) tabOk follows Tryz.func141 [.t 4] hdeB (.s .z (.s (.r [(8,.c qmd.b)] []) .z)) S20_ qvp (fun f v=>f (v.b 1 0) (v.i 1 1) (v.i 1 2) (v.i 1 3) (v.b 5 0) (v.i 5 1) (v.i 5 2) (v.i 5 3))
def S21_:Shp:=⟨[(0,.st (lk qb)),(1,.st (lk qb))],[]⟩
def qrl (Aa:Bool)(Ab Ac Bt Bu:Int)(Bv Bw:LU)(Bx:Int)(B7:Bool)(B8 B9 Ca Cb:Int)(Cc Cd:LU)(Ce:Int):Option Bool:=
 (bif(Bu==1)then(some true)else(bif(Bu==2)then(some (Cb==3))else(some false)))
def q15:=hull qrl
theorem qbl8:q15=qrl:=qa _
def qbn8 {R:Type}:EntF Tryz.prog R:=entB (nt:=18) (dec:=decB) (enc:=AV.bool) tabOk follows Tryz.func142 [.t 4] hdeB (.z) S21_ qrl (fun f v=>f (v.b 1 0) (v.i 1 1) (v.i 1 2) (v.i 1 3) (v.i 1 4) (v.s 1 5) (v.s 1 6) (v.i 1 7) (v.b 5 0) (v.i 5 1) (v.i 5 2) (v.i 5 3) (v.i 5 4) (v.s 5 5) (v.s 5 6) (v.i 5 7))
def S22_:Shp:=⟨[(0,.st (lk qb)),(1,.one (.ptr 0 0))],[.box true (lk qb)]⟩
def q8d {R:Type}(KK:AV->Mem->Option R):=(fun v3 Av Aw Ax Ay Az A0 A1 A2=>KK (.bool v3) (qh [(some (.box true (qn Av Aw Ax Ay Az A0 A1 A2)))]))
def qki {R:Type}(Aa:Bool)(Ab Ac Bt Bu:Int)(Bv Bw:LU)(Bx:Int)(Av:Bool)(Aw Ax Ay Az:Int)(A0 A1:LU)(A2:Int)(kr:Bool->Bool->Int->Int->Int->Int->(List UInt8)->(List UInt8)->Int->Option R):Option R:=
 (oB (qu5 Av Aw Ax Ay Aa Ab Ac Bt) fun r1=>(bif r1 then(oB (q15 Aa Ab Ac Bt Bu Bv Bw Bx Av Aw Ax Ay Az A0 A1 A2) fun r2=>(kr (!r2) Av Aw Ax Ay Az A0 A1 A2))else(kr false Av Aw Ax Ay Az A0 A1 A2)))
def qsu {R:Type}:=hull (qki (R:=R))
theorem q8e {R:Type}:qsu (R:=R)=qki:=qa _
def qbaw {R:Type}:RefB Tryz.prog R:=refB (nt:=15) (nb:=1) tabOk follows Tryz.func140 [.t 3] (fun KK=>.s .z (.s (.r [(4,.c q14.b),(8,.c qbn8.b)] []) (.v [.sel [3] [0]]))) S22_ (qki (R:=R)) (fun f v KK=>f (v.b 1 0) (v.i 1 1) (v.i 1 2) (v.i 1 3) (v.i 1 4) (v.s 1 5) (v.s 1 6) (v.i 1 7) (v.b 3 0) (v.i 3 1) (v.i 3 2) (v.i 3 3) (v.i 3 4) (v.s 3 5) (v.s 3 6) (v.i 3 7) (q8d KK)) (by kernel_rfl) (by kernel_rfl) (fun _=>(by kernel_rfl)) rfl
def S23_:Shp:=⟨[(0,.one (.l (.sl 8))),(1,.one (.fn 140 [(0,0)])),(7,.one (.l (.i .i64))),(8,.one (.l (.i .i64)))],[.box true (lk qb)]⟩
def S24_:Shp:=⟨[(0,.one (.l (.sl 8))),(1,.one (.fn 140 [(0,0)]))],[.box true (lk qb)]⟩
def qc2 {R:Type}(K:Ex->Env->Mem->Option R):=(fun z_b0_0 z_b0_1 z_b0_2 z_b0_3 z_b0_4 z_b0_5 z_b0_6 z_b0_7=>K (.exit 0) (qk []) (qh [(some (.box true (qn z_b0_0 z_b0_1 z_b0_2 z_b0_3 z_b0_4 z_b0_5 z_b0_6 z_b0_7)))]))
def qc4 {R:Type}(KK:AV->Mem->Option R):=(fun v4 Av Aw Ax Ay Az A0 A1 A2=>KK (.int .i64 v4) (qh [(some (.box true (qn Av Aw Ax Ay Az A0 A1 A2)))]))
def qu {R:Type}(v0:LA)(v7 v8:Int)(Av:Bool)(Aw Ax Ay Az:Int)(A0 A1:LU)(A2:Int)(next:Int->Bool->Int->Int->Int->Int->(List UInt8)->(List UInt8)->Int->Option R)(kx0:Bool->Int->Int->Int->Int->(List UInt8)->(List UInt8)->Int->Option R)(kr:Int->Bool->Int->Int->Int->Int->(List UInt8)->(List UInt8)->Int->Option R):Option R:=
 (bif(decide (v8<v7))then(oB (ixB v0 v8) fun y1=>(bif fitC qb y1.cells then(qsu (gB y1.cells 0) (gI y1.cells 1) (gI y1.cells 2) (gI y1.cells 3) (gI y1.cells 4) (gS y1.cells 5) (gS y1.cells 6) (gI y1.cells 7) Av Aw Ax Ay Az A0 A1 A2 fun v3q2 b0_0q3 b0_1q4 b0_2q5 b0_3q6 b0_4q7 b0_5q8 b0_6q9 b0_7q10=>(bif v3q2 then(kr v8 b0_0q3 b0_1q4 b0_2q5 b0_3q6 b0_4q7 b0_5q8 b0_6q9 b0_7q10)else(next (IntKind.i64.wrap (v8+1)) b0_0q3 b0_1q4 b0_2q5 b0_3q6 b0_4q7 b0_5q8 b0_6q9 b0_7q10)))else none))else(kx0 Av Aw Ax Ay Az A0 A1 A2))
def qv {R:Type}(v0:LA)(v7:Int)(kx0:Bool->Int->Int->Int->Int->(List UInt8)->(List UInt8)->Int->Option R)(kr:Int->Bool->Int->Int->Int->Int->(List UInt8)->(List UInt8)->Int->Option R):Nat->Int->Bool->Int->Int->Int->Int->(List UInt8)->(List UInt8)->Int->Option R
 |0=>(fun _ _ _ _ _ _ _ _ _=>none)
 |n+1=>(fun v8 Av Aw Ax Ay Az A0 A1 A2=>qu v0 v7 v8 Av Aw Ax Ay Az A0 A1 A2 (qv v0 v7 kx0 kr n) kx0 kr)
def qdf {R:Type}:=hull (qv (R:=R))
theorem qgc {R:Type}:qdf (R:=R)=qv:=qa _
def qgf {R:Type}(KK:AV->Mem->Option R):SubB Tryz.prog (TIof Tryz.prog) 19 1 (qdu [.t 4] KK):=lpB tabOk follows Tryz.f125 37 (.s .z (.s (.s .z (.v [.sel [] [0]])) (.s (.b (.s .z (.s (.r [(3,.p (.etac 14 qb)),(5,.s (.sel [0,1,5,7,8,11,15] [0])),(5,.r qbaw)] []) (.s (.s .z (.v [.sel [4] [0]])) .z)))) (.v [.sel [0,1,7,8] [0]])))) S23_ (qv (R:=R)) (fun f v K n=>f (v.l 0 0) (v.i 28 0) (qc2 K) (qc4 KK) n) (fun v f K=>qu (v.l 0 0) (v.i 28 0) (v.i 32 0) (v.b 3 0) (v.i 3 1) (v.i 3 2) (v.i 3 3) (v.i 3 4) (v.s 3 5) (v.s 3 6) (v.i 3 7) f (qc2 K) (qc4 KK)) (fun f v=>f (v.i 32 0) (v.b 3 0) (v.i 3 1) (v.i 3 2) (v.i 3 3) (v.i 3 4) (v.s 3 5) (v.s 3 6) (v.i 3 7)) (fun k v=>(fun z0 z1 z2 z3 z4 z5 z6 z7 z8=>k (((((((((v.ui 32 0 z0).ub 3 0 z1).ui 3 1 z2).ui 3 2 z3).ui 3 3 z4).ui 3 4 z5).us 3 5 z6).us 3 6 z7).ui 3 7 z8)))
def qhf {R:Type}(KK:AV->Mem->Option R):=(fun v4 Av Aw Ax Ay Az A0 A1 A2=>KK (.int .i64 v4) (qh [(some (.box true (qn Av Aw Ax Ay Az A0 A1 A2)))]))
def qbn {R:Type}(v0:LA)(Av:Bool)(Aw Ax Ay Az:Int)(A0 A1:LU)(A2:Int)(kr:Int->Bool->Int->Int->Int->Int->(List UInt8)->(List UInt8)->Int->Option R):Option R:=
 (qdf v0 (v0.length:Int) (fun b0_0q1 b0_1q2 b0_2q3 b0_3q4 b0_4q5 b0_5q6 b0_6q7 b0_7q8=>(kr (-1:Int) b0_0q1 b0_1q2 b0_2q3 b0_3q4 b0_4q5 b0_5q6 b0_6q7 b0_7q8)) kr FU (0:Int) Av Aw Ax Ay Az A0 A1 A2)
def qb6 {R:Type}:=hull (qbn (R:=R))
theorem qhg {R:Type}:qb6 (R:=R)=qbn:=qa _
def qhs {R:Type}:RefB Tryz.prog R:=refB (nt:=19) (nb:=1) tabOk follows Tryz.func125 [.t 4] (fun KK=>.s .z (.s (.s .z (.b (.sub [.sel [0,1,7,8] [0]] (qgf KK) []))) (.s .z (.v [.sel [4] [0]])))) S24_ (qbn (R:=R)) (fun f v KK=>f (v.l 0 0) (v.b 3 0) (v.i 3 1) (v.i 3 2) (v.i 3 3) (v.i 3 4) (v.s 3 5) (v.s 3 6) (v.i 3 7) (qhf KK)) (by kernel_rfl) (by kernel_rfl) (fun _=>(by kernel_rfl)) rfl
def qgd {R:Type}(KK:AV->Mem->Option R):=(fun v4 Av Aw Ax Ay Az A0 A1 A2=>KK (.bool v4) (qh [(some (.box true (qn Av Aw Ax Ay Az A0 A1 A2)))]))
def qbi {R:Type}(v0:LA)(Av:Bool)(Aw Ax Ay Az:Int)(A0 A1:LU)(A2:Int)(kr:Bool->Bool->Int->Int->Int->Int->(List UInt8)->(List UInt8)->Int->Option R):Option R:=
 (qb6 v0 Av Aw Ax Ay Az A0 A1 A2 fun v4q1 b0_0q2 b0_1q3 b0_2q4 b0_3q5 b0_4q6 b0_5q7 b0_6q8 b0_7q9=>(kr (decide (v4q1>=0)) b0_0q2 b0_1q3 b0_2q4 b0_3q5 b0_4q6 b0_5q7 b0_6q8 b0_7q9))
def qdg {R:Type}:=hull (qbi (R:=R))
theorem qge {R:Type}:qdg (R:=R)=qbi:=qa _
def qgg {R:Type}:RefB Tryz.prog R:=refB (nt:=9) (nb:=1) tabOk follows Tryz.func65 [.t 4] (fun KK=>.s .z (.s (.r [(2,.s (.sel [5,6] [0])),(2,.r qhs)] []) (.v [.sel [4] [0]]))) S24_ (qbi (R:=R)) (fun f v KK=>f (v.l 0 0) (v.b 3 0) (v.i 3 1) (v.i 3 2) (v.i 3 3) (v.i 3 4) (v.s 3 5) (v.s 3 6) (v.i 3 7) (qgd KK)) (by kernel_rfl) (by kernel_rfl) (fun _=>(by kernel_rfl)) rfl
def S25_:Shp:=⟨[(0,.one (.l (.sl 8))),(1,.st (lk qb))],[]⟩
def qme (v0:LA)(B7:Bool)(B8 B9 Ca Cb:Int)(Cc Cd:LU)(Ce:Int):Option Bool:=
 (qdg v0 B7 B8 B9 Ca Cb Cc Cd Ce fun v4q1 b0_0q2 b0_1q3 b0_2q4 b0_3q5 b0_4q6 b0_5q7 b0_6q8 b0_7q9=>(some v4q1))
def qo6:=hull qme
theorem qbdz:qo6=qme:=qa _
def qbfy {R:Type}:EntF Tryz.prog R:=entB (nt:=8) (dec:=decB) (enc:=AV.bool) tabOk follows Tryz.func92 [.t 4] hdeB (.s .z (.s (.r [(2,.s (.sel [5,6] [0])),(2,.r qgg)] []) .z)) S25_ qme (fun f v=>f (v.l 0 0) (v.b 5 0) (v.i 5 1) (v.i 5 2) (v.i 5 3) (v.i 5 4) (v.s 5 5) (v.s 5 6) (v.i 5 7))
def qbax {R:Type}(KK:AV->Mem->Option R):=(fun v3 Av Aw Ax Ay=>KK (.bool v3) (qh [(some (.box true (qc Av Aw Ax Ay)))]))
def qlk {R:Type}(Aa:Bool)(Ab Ac Bt Bu:Int)(Bv Bw:LU)(Bx:Int)(Av:Bool)(Aw Ax Ay:Int)(kr:Bool->Bool->Int->Int->Int->Option R):Option R:=
 (oB (qu5 Aa Ab Ac Bt Av Aw Ax Ay) fun r1=>(kr r1 Av Aw Ax Ay))
def quv {R:Type}:=hull (qlk (R:=R))
theorem qbay {R:Type}:quv (R:=R)=qlk:=qa _
def qbd0 {R:Type}:RefB Tryz.prog R:=refB (nt:=8) (nb:=1) tabOk follows Tryz.func143 [.t 3] (fun KK=>.s .z (.s (.r [(3,.c q14.b)] []) (.v [.sel [3] [0]]))) S13_ (qlk (R:=R)) (fun f v KK=>f (v.b 1 0) (v.i 1 1) (v.i 1 2) (v.i 1 3) (v.i 1 4) (v.s 1 5) (v.s 1 6) (v.i 1 7) (v.b 3 0) (v.i 3 1) (v.i 3 2) (v.i 3 3) (qbax KK)) (by kernel_rfl) (by kernel_rfl) (fun _=>(by kernel_rfl)) rfl
def S26_:Shp:=⟨[(0,.one (.l (.sl 8))),(1,.one (.fn 143 [(0,0)])),(7,.one (.l (.i .i64))),(8,.one (.l (.i .i64)))],[.box true (lk qe)]⟩
def S27_:Shp:=⟨[(0,.one (.l (.sl 8))),(1,.one (.fn 143 [(0,0)]))],[.box true (lk qe)]⟩
def qc5 {R:Type}(K:Ex->Env->Mem->Option R):=(fun z_b0_0 z_b0_1 z_b0_2 z_b0_3=>K (.exit 0) (qk []) (qh [(some (.box true (qc z_b0_0 z_b0_1 z_b0_2 z_b0_3)))]))
def qda {R:Type}(KK:AV->Mem->Option R):=(fun v4 Av Aw Ax Ay=>KK (.int .i64 v4) (qh [(some (.box true (qc Av Aw Ax Ay)))]))
def qw {R:Type}(v0:LA)(v7 v8:Int)(Av:Bool)(Aw Ax Ay:Int)(next:Int->Bool->Int->Int->Int->Option R)(kx0:Bool->Int->Int->Int->Option R)(kr:Int->Bool->Int->Int->Int->Option R):Option R:=
 (bif(decide (v8<v7))then(oB (ixB v0 v8) fun y1=>(bif fitC qb y1.cells then(quv (gB y1.cells 0) (gI y1.cells 1) (gI y1.cells 2) (gI y1.cells 3) (gI y1.cells 4) (gS y1.cells 5) (gS y1.cells 6) (gI y1.cells 7) Av Aw Ax Ay fun v3q2 b0_0q3 b0_1q4 b0_2q5 b0_3q6=>(bif v3q2 then(kr v8 b0_0q3 b0_1q4 b0_2q5 b0_3q6)else(next (IntKind.i64.wrap (v8+1)) b0_0q3 b0_1q4 b0_2q5 b0_3q6)))else none))else(kx0 Av Aw Ax Ay))
def qx {R:Type}(v0:LA)(v7:Int)(kx0:Bool->Int->Int->Int->Option R)(kr:Int->Bool->Int->Int->Int->Option R):Nat->Int->Bool->Int->Int->Int->Option R
 |0=>(fun _ _ _ _ _=>none)
 |n+1=>(fun v8 Av Aw Ax Ay=>qw v0 v7 v8 Av Aw Ax Ay (qx v0 v7 kx0 kr n) kx0 kr)
def qdm {R:Type}:=hull (qx (R:=R))
theorem qgh {R:Type}:qdm (R:=R)=qx:=qa _
def qgn {R:Type}(KK:AV->Mem->Option R):SubB Tryz.prog (TIof Tryz.prog) 19 1 (qdu [.t 4] KK):=lpB tabOk follows Tryz.f125 37 (.s .z (.s (.s .z (.v [.sel [] [0]])) (.s (.b (.s .z (.s (.r [(3,.p (.etac 14 qb)),(5,.s (.sel [0,1,5,7,8,11,15] [0])),(5,.r qbd0)] []) (.s (.s .z (.v [.sel [4] [0]])) .z)))) (.v [.sel [0,1,7,8] [0]])))) S26_ (qx (R:=R)) (fun f v K n=>f (v.l 0 0) (v.i 28 0) (qc5 K) (qda KK) n) (fun v f K=>qw (v.l 0 0) (v.i 28 0) (v.i 32 0) (v.b 3 0) (v.i 3 1) (v.i 3 2) (v.i 3 3) f (qc5 K) (qda KK)) (fun f v=>f (v.i 32 0) (v.b 3 0) (v.i 3 1) (v.i 3 2) (v.i 3 3)) (fun k v=>(fun z0 z1 z2 z3 z4=>k (((((v.ui 32 0 z0).ub 3 0 z1).ui 3 1 z2).ui 3 2 z3).ui 3 3 z4)))
def qht {R:Type}(KK:AV->Mem->Option R):=(fun v4 Av Aw Ax Ay=>KK (.int .i64 v4) (qh [(some (.box true (qc Av Aw Ax Ay)))]))
def qbp {R:Type}(v0:LA)(Av:Bool)(Aw Ax Ay:Int)(kr:Int->Bool->Int->Int->Int->Option R):Option R:=
 (qdm v0 (v0.length:Int) (fun b0_0q1 b0_1q2 b0_2q3 b0_3q4=>(kr (-1:Int) b0_0q1 b0_1q2 b0_2q3 b0_3q4)) kr FU (0:Int) Av Aw Ax Ay)
def qcg {R:Type}:=hull (qbp (R:=R))
theorem qhu {R:Type}:qcg (R:=R)=qbp:=qa _
def qh0 {R:Type}:RefB Tryz.prog R:=refB (nt:=19) (nb:=1) tabOk follows Tryz.func125 [.t 4] (fun KK=>.s .z (.s (.s .z (.b (.sub [.sel [0,1,7,8] [0]] (qgn KK) []))) (.s .z (.v [.sel [4] [0]])))) S27_ (qbp (R:=R)) (fun f v KK=>f (v.l 0 0) (v.b 3 0) (v.i 3 1) (v.i 3 2) (v.i 3 3) (qht KK)) (by kernel_rfl) (by kernel_rfl) (fun _=>(by kernel_rfl)) rfl
def qgi {R:Type}(KK:AV->Mem->Option R):=(fun v4 Av Aw Ax Ay=>KK (.bool v4) (qh [(some (.box true (qc Av Aw Ax Ay)))]))
def qbk {R:Type}(v0:LA)(Av:Bool)(Aw Ax Ay:Int)(kr:Bool->Bool->Int->Int->Int->Option R):Option R:=
 (qcg v0 Av Aw Ax Ay fun v4q1 b0_0q2 b0_1q3 b0_2q4 b0_3q5=>(kr (decide (v4q1>=0)) b0_0q2 b0_1q3 b0_2q4 b0_3q5))
def qdn {R:Type}:=hull (qbk (R:=R))
theorem qgj {R:Type}:qdn (R:=R)=qbk:=qa _
def qgo {R:Type}:RefB Tryz.prog R:=refB (nt:=9) (nb:=1) tabOk follows Tryz.func65 [.t 4] (fun KK=>.s .z (.s (.r [(2,.s (.sel [5,6] [0])),(2,.r qh0)] []) (.v [.sel [4] [0]]))) S27_ (qbk (R:=R)) (fun f v KK=>f (v.l 0 0) (v.b 3 0) (v.i 3 1) (v.i 3 2) (v.i 3 3) (qgi KK)) (by kernel_rfl) (by kernel_rfl) (fun _=>(by kernel_rfl)) rfl
def qnq (v0:LA)(B7:Bool)(B8 B9 Ca:Int):Option Bool:=
 (qdn v0 B7 B8 B9 Ca fun v4q1 b0_0q2 b0_1q3 b0_2q4 b0_3q5=>(some v4q1))
def qrm:=hull qnq
theorem qbfz:qrm=qnq:=qa _
def q2m {R:Type}:EntF Tryz.prog R:=entB (nt:=8) (dec:=decB) (enc:=AV.bool) tabOk follows Tryz.func93 [.t 4] hdeB (.s .z (.s (.r [(2,.s (.sel [5,6] [0])),(2,.r qgo)] []) .z)) S16_ qnq (fun f v=>f (v.l 0 0) (v.b 5 0) (v.i 5 1) (v.i 5 2) (v.i 5 3))
def S28_:Shp:=⟨[(0,.one (.l (.i .u64))),(1,.one (.l (.i .u64)))],[]⟩
def qvq (v0 v1:Int):Option Int:=
 (bif(decide (v0<v1))then(some (-1:Int))else(bif(decide (v0>v1))then(some (1:Int))else(some (0:Int))))
def q7f:=hull qvq
theorem qbrb:q7f=qvq:=qa _
def qbdo {R:Type}:EntF Tryz.prog R:=entB (nt:=13) (dec:=(decI .i64)) (enc:=(AV.int .i64)) tabOk follows Tryz.func184 [.t 4] hdeI (.z) S28_ qvq (fun f v=>f (v.i 0 0) (v.i 4 0))
def S29_:Shp:=⟨[(0,.st (lk qd3)),(1,.st (lk qd3))],[]⟩
def qtu (Aa:Bool)(Ab Ac:Int)(B7:Bool)(B8 B9:Int):Option Int:=
 (bif((!((Aa==B7)&&true))&&B7)then(some (-1:Int))else(bif(!((Aa==B7)&&true))then(some (1:Int))else(bif(Ab != B8)then(oB (q7f Ab B8) fun r1=>(some r1))else(oB (q7f Ac B9) fun r2=>(some r2)))))
def qsv:=hull qtu
theorem qbn9:qsv=qtu:=qa _
def qzk {R:Type}:EntF Tryz.prog R:=entB (nt:=37) (dec:=(decI .i64)) (enc:=(AV.int .i64)) tabOk follows Tryz.func166 [.t 4] hdeI (.s .z (.s (.b (.s (.r [(6,.g 2)] []) (.s .z (.s .z (.s .z (.s .z (.s (.s (.r [(4,.c qbdo.b)] []) .z) .z))))))) (.s (.r [(4,.c qbdo.b)] []) .z))) S29_ qtu (fun f v=>f (v.b 1 0) (v.i 1 1) (v.i 1 2) (v.b 5 0) (v.i 5 1) (v.i 5 2))
def qo7 (Aa:Bool)(Ab Ac Bt:Int)(B7:Bool)(B8 B9 Ca:Int):Option Int:=
 (oB (qsv Aa Ab Ac B7 B8 B9) fun r1=>(bif(r1 != (0:Int))then(some r1)else(bif(decide (Bt<Ca))then(some (-1:Int))else(bif(decide (Bt>Ca))then(some (1:Int))else(some (0:Int))))))
def qzl:=hull qo7
theorem qbjv:qzl=qo7:=qa _
def qbl9 {R:Type}:EntF Tryz.prog R:=entB (nt:=26) (dec:=(decI .i64)) (enc:=(AV.int .i64)) tabOk follows Tryz.func110 [.t 4] hdeI (.s .z (.s (.s (.r [(4,.c qzk.b)] []) .z) .z)) S20_ qo7 (fun f v=>f (v.b 1 0) (v.i 1 1) (v.i 1 2) (v.i 1 3) (v.b 5 0) (v.i 5 1) (v.i 5 2) (v.i 5 3))
def qbf0 {R:Type}(KK:AV->Mem->Option R):=(fun v3 Av Aw Ax Ay Az A0 A1 A2=>KK (.bool v3) (qh [(some (.box true (qn Av Aw Ax Ay Az A0 A1 A2)))]))
def qnr {R:Type}(Aa:Bool)(Ab Ac Bt Bu:Int)(Bv Bw:LU)(Bx:Int)(Av:Bool)(Aw Ax Ay Az:Int)(A0 A1:LU)(A2:Int)(kr:Bool->Bool->Int->Int->Int->Int->(List UInt8)->(List UInt8)->Int->Option R):Option R:=
 (oB (qzl Aa Ab Ac Bt Av Aw Ax Ay) fun r1=>(kr (decide (r1>0)) Av Aw Ax Ay Az A0 A1 A2))
def qxn {R:Type}:=hull (qnr (R:=R))
theorem qbf1 {R:Type}:qxn (R:=R)=qnr:=qa _
def qbjw {R:Type}:RefB Tryz.prog R:=refB (nt:=10) (nb:=1) tabOk follows Tryz.func144 [.t 3] (fun KK=>.s .z (.s (.r [(4,.c qbl9.b)] []) (.v [.sel [3] [0]]))) S22_ (qnr (R:=R)) (fun f v KK=>f (v.b 1 0) (v.i 1 1) (v.i 1 2) (v.i 1 3) (v.i 1 4) (v.s 1 5) (v.s 1 6) (v.i 1 7) (v.b 3 0) (v.i 3 1) (v.i 3 2) (v.i 3 3) (v.i 3 4) (v.s 3 5) (v.s 3 6) (v.i 3 7) (qbf0 KK)) (by kernel_rfl) (by kernel_rfl) (fun _=>(by kernel_rfl)) rfl
def S30_:Shp:=⟨[(0,.one (.l (.sl 8))),(1,.one (.fn 144 [(0,0)])),(7,.one (.l (.i .i64))),(8,.one (.l (.i .i64)))],[.box true (lk qb)]⟩
def S31_:Shp:=⟨[(0,.one (.l (.sl 8))),(1,.one (.fn 144 [(0,0)]))],[.box true (lk qb)]⟩
def qdb {R:Type}(K:Ex->Env->Mem->Option R):=(fun z_b0_0 z_b0_1 z_b0_2 z_b0_3 z_b0_4 z_b0_5 z_b0_6 z_b0_7=>K (.exit 0) (qk []) (qh [(some (.box true (qn z_b0_0 z_b0_1 z_b0_2 z_b0_3 z_b0_4 z_b0_5 z_b0_6 z_b0_7)))]))
def qdh {R:Type}(KK:AV->Mem->Option R):=(fun v4 Av Aw Ax Ay Az A0 A1 A2=>KK (.int .i64 v4) (qh [(some (.box true (qn Av Aw Ax Ay Az A0 A1 A2)))]))
def qy {R:Type}(v0:LA)(v7 v8:Int)(Av:Bool)(Aw Ax Ay Az:Int)(A0 A1:LU)(A2:Int)(next:Int->Bool->Int->Int->Int->Int->(List UInt8)->(List UInt8)->Int->Option R)(kx0:Bool->Int->Int->Int->Int->(List UInt8)->(List UInt8)->Int->Option R)(kr:Int->Bool->Int->Int->Int->Int->(List UInt8)->(List UInt8)->Int->Option R):Option R:=
 (bif(decide (v8<v7))then(oB (ixB v0 v8) fun y1=>(bif fitC qb y1.cells then(qxn (gB y1.cells 0) (gI y1.cells 1) (gI y1.cells 2) (gI y1.cells 3) (gI y1.cells 4) (gS y1.cells 5) (gS y1.cells 6) (gI y1.cells 7) Av Aw Ax Ay Az A0 A1 A2 fun v3q2 b0_0q3 b0_1q4 b0_2q5 b0_3q6 b0_4q7 b0_5q8 b0_6q9 b0_7q10=>(bif v3q2 then(kr v8 b0_0q3 b0_1q4 b0_2q5 b0_3q6 b0_4q7 b0_5q8 b0_6q9 b0_7q10)else(next (IntKind.i64.wrap (v8+1)) b0_0q3 b0_1q4 b0_2q5 b0_3q6 b0_4q7 b0_5q8 b0_6q9 b0_7q10)))else none))else(kx0 Av Aw Ax Ay Az A0 A1 A2))
def qz {R:Type}(v0:LA)(v7:Int)(kx0:Bool->Int->Int->Int->Int->(List UInt8)->(List UInt8)->Int->Option R)(kr:Int->Bool->Int->Int->Int->Int->(List UInt8)->(List UInt8)->Int->Option R):Nat->Int->Bool->Int->Int->Int->Int->(List UInt8)->(List UInt8)->Int->Option R
 |0=>(fun _ _ _ _ _ _ _ _ _=>none)
 |n+1=>(fun v8 Av Aw Ax Ay Az A0 A1 A2=>qy v0 v7 v8 Av Aw Ax Ay Az A0 A1 A2 (qz v0 v7 kx0 kr n) kx0 kr)
def qdv {R:Type}:=hull (qz (R:=R))
theorem qhh {R:Type}:qdv (R:=R)=qz:=qa _
def qhv {R:Type}(KK:AV->Mem->Option R):SubB Tryz.prog (TIof Tryz.prog) 19 1 (qdu [.t 4] KK):=lpB tabOk follows Tryz.f125 37 (.s .z (.s (.s .z (.v [.sel [] [0]])) (.s (.b (.s .z (.s (.r [(3,.p (.etac 14 qb)),(5,.s (.sel [0,1,5,7,8,11,15] [0])),(5,.r qbjw)] []) (.s (.s .z (.v [.sel [4] [0]])) .z)))) (.v [.sel [0,1,7,8] [0]])))) S30_ (qz (R:=R)) (fun f v K n=>f (v.l 0 0) (v.i 28 0) (qdb K) (qdh KK) n) (fun v f K=>qy (v.l 0 0) (v.i 28 0) (v.i 32 0) (v.b 3 0) (v.i 3 1) (v.i 3 2) (v.i 3 3) (v.i 3 4) (v.s 3 5) (v.s 3 6) (v.i 3 7) f (qdb K) (qdh KK)) (fun f v=>f (v.i 32 0) (v.b 3 0) (v.i 3 1) (v.i 3 2) (v.i 3 3) (v.i 3 4) (v.s 3 5) (v.s 3 6) (v.i 3 7)) (fun k v=>(fun z0 z1 z2 z3 z4 z5 z6 z7 z8=>k (((((((((v.ui 32 0 z0).ub 3 0 z1).ui 3 1 z2).ui 3 2 z3).ui 3 3 z4).ui 3 4 z5).us 3 5 z6).us 3 6 z7).ui 3 7 z8)))
def qic {R:Type}(KK:AV->Mem->Option R):=(fun v4 Av Aw Ax Ay Az A0 A1 A2=>KK (.int .i64 v4) (qh [(some (.box true (qn Av Aw Ax Ay Az A0 A1 A2)))]))
def qbu {R:Type}(v0:LA)(Av:Bool)(Aw Ax Ay Az:Int)(A0 A1:LU)(A2:Int)(kr:Int->Bool->Int->Int->Int->Int->(List UInt8)->(List UInt8)->Int->Option R):Option R:=
 (qdv v0 (v0.length:Int) (fun b0_0q1 b0_1q2 b0_2q3 b0_3q4 b0_4q5 b0_5q6 b0_6q7 b0_7q8=>(kr (-1:Int) b0_0q1 b0_1q2 b0_2q3 b0_3q4 b0_4q5 b0_5q6 b0_6q7 b0_7q8)) kr FU (0:Int) Av Aw Ax Ay Az A0 A1 A2)
def qcj {R:Type}:=hull (qbu (R:=R))
theorem qid {R:Type}:qcj (R:=R)=qbu:=qa _
def qio {R:Type}:RefB Tryz.prog R:=refB (nt:=19) (nb:=1) tabOk follows Tryz.func125 [.t 4] (fun KK=>.s .z (.s (.s .z (.b (.sub [.sel [0,1,7,8] [0]] (qhv KK) []))) (.s .z (.v [.sel [4] [0]])))) S31_ (qbu (R:=R)) (fun f v KK=>f (v.l 0 0) (v.b 3 0) (v.i 3 1) (v.i 3 2) (v.i 3 3) (v.i 3 4) (v.s 3 5) (v.s 3 6) (v.i 3 7) (qic KK)) (by kernel_rfl) (by kernel_rfl) (fun _=>(by kernel_rfl)) rfl
def qbt6 {R:Type}(vs:LA)(m:Mem)(K:AV->Mem->Option R):Option R:=q1q 8 80 vs m K
theorem qbt7 {R:Type}:qne Tryz.prog 145 (qbt6 (R:=R)):=qbtc (ρ:=q65 145 177 178 0 3 4 22 33) tabOk (qbp7 follows "slices.Insert[[]ddi/api.Block,ddi/api.Block]" (by kernel_rfl) (by kernel_rfl) Tryz.func177 (by kernel_rfl) (by kernel_rfl) (by kernel_rfl) (by kernel_rfl) (by kernel_rfl) (by kernel_rfl) (by kernel_rfl) (by kernel_rfl) (by kernel_rfl) (by kernel_rfl) (by kernel_rfl) (by kernel_rfl) (by kernel_rfl) (by kernel_rfl) (by kernel_rfl) (by kernel_rfl) (by kernel_rfl)) (by kernel_rfl) (by kernel_rfl) (by decide) (by decide)
def S32_:Shp:=⟨[(0,.one (.l (.sl 8))),(3,.one (.ptr 0 0)),(5,.one (.l (.i .i64)))],[.box true (lk qb)]⟩
def qbd1 (v0:LA)(Av:Bool)(Aw Ax Ay Az:Int)(A0 A1:LU)(A2:Int)(K:Ex->Env->Mem->Option (List AV)):=(fun z_v5=>K .norm (qk [(0,(.sl 8 v0)),(3,(.ptr 0 0)),(5,(.int .i64 z_v5))]) (qh [(some (.box true (qn Av Aw Ax Ay Az A0 A1 A2)))]))
def qmf (v0:LA)(v5:Int)(Av:Bool)(Aw Ax Ay Az:Int)(A0 A1:LU)(A2:Int)(kn:Int->Option (List AV)):Option (List AV):=
 (bif(decide (v5<0))then(kn (v0.length:Int))else(kn v5))
def q38:=hull (qmf)
theorem qbd2:q38=qmf:=qa _
def qbf2:SubB Tryz.prog (TIof Tryz.prog) 19 0 (kret [.t 4] (decF true 8)):=jnB tabOk follows Tryz.f94 11 (.s .z (.s (.v [.sel [0,3,5] [0]]) (.v [.sel [0,3,5] [0]]))) S32_ (qmf) (fun f v K=>f (v.l 0 0) (v.i 20 0) (v.b 3 0) (v.i 3 1) (v.i 3 2) (v.i 3 3) (v.i 3 4) (v.s 3 5) (v.s 3 6) (v.i 3 7) (qbd1 (v.l 0 0) (v.b 3 0) (v.i 3 1) (v.i 3 2) (v.i 3 3) (v.i 3 4) (v.s 3 5) (v.s 3 6) (v.i 3 7) K))
def qrn (v0:LA)(B7:Bool)(B8 B9 Ca Cb:Int)(Cc Cd:LU)(Ce:Int):Option (List AV):=
 (qcj v0 B7 B8 B9 Ca Cb Cc Cd Ce fun v4q1 b0_0q2 b0_1q3 b0_2q4 b0_3q5 b0_4q6 b0_5q7 b0_6q8 b0_7q9=>(q38 v0 v4q1 b0_0q2 b0_1q3 b0_2q4 b0_3q5 b0_4q6 b0_5q7 b0_6q8 b0_7q9 (fun v5q10=>(oB (qt v0) fun r11=>(bif hd r11 r11.length then(bif hd ([(.agg [(.bool b0_0q2),(.int .u64 b0_1q3),(.int .u64 b0_2q4),(.int .i64 b0_3q5),(.int .i64 b0_4q6),(.str b0_5q7),(.str b0_6q8),(.int .i64 b0_7q9)])]:List AV) (([(.agg [(.bool b0_0q2),(.int .u64 b0_1q3),(.int .u64 b0_2q4),(.int .i64 b0_3q5),(.int .i64 b0_4q6),(.str b0_5q7),(.str b0_6q8),(.int .i64 b0_7q9)])]:List AV).length)then(oB (qow 80 r11 v5q10 ([(.agg [(.bool b0_0q2),(.int .u64 b0_1q3),(.int .u64 b0_2q4),(.int .i64 b0_3q5),(.int .i64 b0_4q6),(.str b0_5q7),(.str b0_6q8),(.int .i64 b0_7q9)])]:List AV)) fun r12=>(bif hd r12 r12.length then(some r12)else none))else none)else none)))))
def q16:=hull qrn
theorem qbma:q16=qrn:=qa _
def qboa {R:Type}:EntF Tryz.prog R:=entB (nt:=19) (dec:=(decF true 8)) (enc:=(AV.fr true 8)) tabOk follows Tryz.func94 [.t 4] hdeF (.s .z (.s (.r [(2,.s (.sel [0,3,6,7] [0])),(2,.r qio)] []) (.s (.sub [.sel [0,3,5] [0]] qbf2 []) (.s (.d3 [] [14,17] [(1,.c (eB qen))] [(0,.r (rB qbt7))] []) .z)))) S25_ qrn (fun f v=>f (v.l 0 0) (v.b 5 0) (v.i 5 1) (v.i 5 2) (v.i 5 3) (v.i 5 4) (v.s 5 5) (v.s 5 6) (v.i 5 7))
def S33_:Shp:=⟨[(0,.one (.l (.sl 8))),(3,.one (.ptr 0 0))],[.box true (lk qb)]⟩
def q8f:AV->Option ((List AV)×Int):=decN [(.one (.sl 8)),(.one (.i .i64))] fun z=>(aL (gC (tpL z) 0),aI (gC (tpL z) 1))
def qbjx (v0:LA)(Av:Bool)(Aw Ax Ay Az:Int)(A0 A1:LU)(A2:Int)(K:Ex->Env->Mem->Option ((List AV)×Int)):=(fun z_v25=>K .norm (qk [(0,(.sl 8 v0)),(3,(.ptr 0 0)),(25,(.bool z_v25))]) (qh [(some (.box true (qn Av Aw Ax Ay Az A0 A1 A2)))]))
def qo8 (v0:LA)(Av:Bool)(Aw Ax Ay Az:Int)(A0 A1:LU)(A2:Int)(kn:Bool->Option ((List AV)×Int)):Option ((List AV)×Int):=
 (oB (qo6 v0 Av Aw Ax Ay Az A0 A1 A2) fun r1=>(bif r1 then(kn true)else(oB (qrm v0 Av Aw Ax Ay) fun r2=>(kn r2))))
def q8g:=hull (qo8)
theorem qbjy:q8g=qo8:=qa _
def qbmb:SubB Tryz.prog (TIof Tryz.prog) 32 0 (kret [.t 4,.t 5] q8f):=jnB tabOk follows Tryz.f37 39 (.r [(2,.c qbfy.b),(7,.c q2m.b)] [.sel [0,3,25] [0]]) S33_ (qo8) (fun f v K=>f (v.l 0 0) (v.b 3 0) (v.i 3 1) (v.i 3 2) (v.i 3 3) (v.i 3 4) (v.s 3 5) (v.s 3 6) (v.i 3 7) (qbjx (v.l 0 0) (v.b 3 0) (v.i 3 1) (v.i 3 2) (v.i 3 3) (v.i 3 4) (v.s 3 5) (v.s 3 6) (v.i 3 7) K))
def qxo (v0:LA)(B7:Bool)(B8 B9 Ca Cb:Int)(Cc Cd:LU)(Ce:Int):Option ((List AV)×Int):=
 (oB (qxm B7 B8 B9 Ca Cb Cc Cd Ce) fun r1=>(bif(r1 != (0:Int))then(some (([]:List AV),r1))else(oB (qst v0 B7 B8 B9 Ca) fun r2=>(bif(decide (r2>=0))then(some (([]:List AV),(12:Int)))else(q8g v0 B7 B8 B9 Ca Cb Cc Cd Ce (fun v25q3=>(bif v25q3 then(some (([]:List AV),(24:Int)))else(bif(decide ((v0.length:Int)>=512))then(some (([]:List AV),(9:Int)))else(oB (q16 v0 B7 B8 B9 Ca Cb Cc Cd Ce) fun r4=>(some (r4,(0:Int))))))))))))
def q3e:=hull qxo
theorem qbt8:q3e=qxo:=qa _
def qbf3 {R:Type}:EntF Tryz.prog R:=entB (nt:=32) (dec:=q8f) (enc:=(fun r=>.tup [.sl 8 r.1,.int .i64 r.2])) tabOk follows Tryz.func37 [.t 4,.t 5] (hdeN fun _=>rfl) (.s .z (.s (.s (.r [(1,.c qbq8.b)] []) (.s .z (.s (.s .z (.v [.eta 4 (.one (.sl 8))])) .z))) (.s (.s (.r [(3,.c qzj.b)] []) (.s (.s .z (.v [.eta 4 (.one (.sl 8))])) .z)) (.s (.s (.sub [.sel [0,3] [0]] qbmb []) (.s (.s .z (.v [.eta 4 (.one (.sl 8))])) .z)) (.s (.s .z (.s (.s .z (.v [.eta 4 (.one (.sl 8))])) .z)) (.s (.r [(2,.k qboa.b)] []) .z)))))) S25_ qxo (fun f v=>f (v.l 0 0) (v.b 5 0) (v.i 5 1) (v.i 5 2) (v.i 5 3) (v.i 5 4) (v.s 5 5) (v.s 5 6) (v.i 5 7))
def qbt9 {R:Type}(vs:LA)(m:Mem)(K:AV->Mem->Option R):Option R:=q1p 8 vs m K
theorem qbua {R:Type}:qne Tryz.prog 146 (qbt9 (R:=R)):=qbtb (ρ:=q64 146 0 3 4 22 33) tabOk (qbp6 follows "slices.Delete[[]ddi/api.Block,ddi/api.Block]" (by kernel_rfl) (by kernel_rfl) (by kernel_rfl) (by kernel_rfl) (by kernel_rfl) (by kernel_rfl) (by kernel_rfl) (by kernel_rfl) (by kernel_rfl) (by kernel_rfl) (by kernel_rfl) (by kernel_rfl) (by kernel_rfl) (by kernel_rfl)) (by kernel_rfl) (by decide)
def S34_:Shp:=⟨[(0,.one (.l (.sl 8))),(1,.one (.l (.i .i64)))],[]⟩
def qo9 (v0:LA)(v1:Int):Option (List AV):=
 (oB (qt v0) fun r1=>(bif hd r1 r1.length then(oB (qxd r1 v1 (IntKind.i64.wrap (v1+1))) fun r2=>(bif hd r2 r2.length then(some r2)else none))else none))
def qtv:=hull qo9
theorem qbjz:qtv=qo9:=qa _
def qbmc {R:Type}:EntF Tryz.prog R:=entB (nt:=11) (dec:=(decF true 8)) (enc:=(AV.fr true 8)) tabOk follows Tryz.func95 [.t 4] hdeF (.s .z (.s (.r [(1,.c (eB qen)),(5,.r (rB qbua))] []) .z)) S34_ qo9 (fun f v=>f (v.l 0 0) (v.i 4 0))
def qbj0:AV->Option ((List AV)×Int):=decN [(.one (.sl 8)),(.one (.i .i64))] fun z=>(aL (gC (tpL z) 0),aI (gC (tpL z) 1))
def qro (v0:LA)(B7:Bool)(B8 B9 Ca:Int):Option ((List AV)×Int):=
 (oB (qst v0 B7 B8 B9 Ca) fun r1=>(bif(decide (r1<0))then(some (([]:List AV),(11:Int)))else(oB (qrm v0 B7 B8 B9 Ca) fun r2=>(bif r2 then(some (([]:List AV),(25:Int)))else(oB (qtv v0 r1) fun r3=>(some (r3,(0:Int))))))))
def q17:=hull qro
theorem qbmd:q17=qro:=qa _
def qbob {R:Type}:EntF Tryz.prog R:=entB (nt:=18) (dec:=qbj0) (enc:=(fun r=>.tup [.sl 8 r.1,.int .i64 r.2])) tabOk follows Tryz.func38 [.t 4,.t 5] (hdeN fun _=>rfl) (.s .z (.s (.r [(2,.c qzj.b)] []) (.s (.s .z (.s (.s .z (.v [.eta 4 (.one (.sl 8))])) .z)) (.s (.s (.r [(2,.c q2m.b)] []) (.s (.s .z (.v [.eta 4 (.one (.sl 8))])) .z)) (.s (.r [(2,.k qbmc.b)] []) .z))))) S16_ qro (fun f v=>f (v.l 0 0) (v.b 5 0) (v.i 5 1) (v.i 5 2) (v.i 5 3))
def qj:List LT:=[.s,.b,(.i .u64),(.i .u64),(.i .i64)]
def S35_:Shp:=⟨[(0,.st (lk qb)),(1,.one (.ptr 1 0))],[.box true (lk qb),.box true (lk qd3),.box true (lk qb),.box true (lk qb),.box true (lk qb)]⟩
def qbf4 {R:Type}(KK:AV->Mem->Option R):=(fun v3 Av Aw Ax Ay Az A0 A1 A2 Ad Ae Af Au Bc Bd Be Bf Bg Bh Bi Cf Cg Ch Ci Cj Ck Cl Cm Cn Co Cp Cq Cr Cs Ct Cu=>KK (.bool v3) (qh [(some (.box true (qn Av Aw Ax Ay Az A0 A1 A2))),(some (.box true (qhi Ad Ae Af))),(some (.box true (qn Au Bc Bd Be Bf Bg Bh Bi))),(some (.box true (qn Cf Cg Ch Ci Cj Ck Cl Cm))),(some (.box true (qn Cn Co Cp Cq Cr Cs Ct Cu)))]))
def qns {R:Type}(Aa:Bool)(Ab Ac Bt Bu:Int)(Bv Bw:LU)(Bx:Int)(Av:Bool)(Aw Ax Ay Az:Int)(A0 A1:LU)(A2:Int)(Ad:Bool)(Ae Af:Int)(Au:Bool)(Bc Bd Be Bf:Int)(Bg Bh:LU)(Bi:Int)(Cf:Bool)(Cg Ch Ci Cj:Int)(Ck Cl:LU)(Cm:Int)(Cn:Bool)(Co Cp Cq Cr:Int)(Cs Ct:LU)(Cu:Int)(kr:Bool->Bool->Int->Int->Int->Int->(List UInt8)->(List UInt8)->Int->Bool->Int->Int->Bool->Int->Int->Int->Int->(List UInt8)->(List UInt8)->Int->Bool->Int->Int->Int->Int->(List UInt8)->(List UInt8)->Int->Bool->Int->Int->Int->Int->(List UInt8)->(List UInt8)->Int->Option R):Option R:=
 (oB (qrj Aa Ab Ac Bt Ad Ae Af) fun r1=>(kr r1 Av Aw Ax Ay Az A0 A1 A2 Ad Ae Af Au Bc Bd Be Bf Bg Bh Bi Cf Cg Ch Ci Cj Ck Cl Cm Cn Co Cp Cq Cr Cs Ct Cu))
def q59 {R:Type}:=hull (qns (R:=R))
theorem qbf5 {R:Type}:q59 (R:=R)=qns:=qa _
def qbj1 {R:Type}:RefB Tryz.prog R:=refB (nt:=8) (nb:=5) tabOk follows Tryz.func148 [.t 3] (fun KK=>.s .z (.s (.r [(3,.c q2l.b)] []) (.v [.sel [3] [0,1,2,3,4]]))) S35_ (qns (R:=R)) (fun f v KK=>f (v.b 1 0) (v.i 1 1) (v.i 1 2) (v.i 1 3) (v.i 1 4) (v.s 1 5) (v.s 1 6) (v.i 1 7) (v.b 3 0) (v.i 3 1) (v.i 3 2) (v.i 3 3) (v.i 3 4) (v.s 3 5) (v.s 3 6) (v.i 3 7) (v.b 7 0) (v.i 7 1) (v.i 7 2) (v.b 11 0) (v.i 11 1) (v.i 11 2) (v.i 11 3) (v.i 11 4) (v.s 11 5) (v.s 11 6) (v.i 11 7) (v.b 15 0) (v.i 15 1) (v.i 15 2) (v.i 15 3) (v.i 15 4) (v.s 15 5) (v.s 15 6) (v.i 15 7) (v.b 19 0) (v.i 19 1) (v.i 19 2) (v.i 19 3) (v.i 19 4) (v.s 19 5) (v.s 19 6) (v.i 19 7) (qbf4 KK)) (by kernel_rfl) (by kernel_rfl) (fun _=>(by kernel_rfl)) rfl
def S36_:Shp:=⟨[(1,.one (.fn 148 [(1,0)])),(4,.one (.ptr 2 0)),(6,.one (.ptr 3 0)),(7,.one (.l .b)),(9,.one (.ptr 4 0)),(10,.one (.l (.sl 8))),(11,.one (.l (.i .i64))),(12,.one (.l (.i .i64)))],[.box true (lk qb),.box true (lk qd3),.box true (lk qb),.box true (lk qb),.box true (lk qb)]⟩
def S37_:Shp:=⟨[(1,.one (.fn 148 [(1,0)])),(4,.one (.ptr 2 0)),(6,.one (.ptr 3 0)),(7,.one (.l .b)),(10,.one (.l (.sl 8))),(11,.one (.l (.i .i64))),(12,.one (.l (.i .i64)))],[.box true (lk qb),.box true (lk qd3),.box true (lk qb),.box true (lk qb)]⟩
def S38_:Shp:=⟨[(0,.one (.l (.sl 8))),(1,.one (.fn 148 [(1,0)]))],[.box true (lk qb),.box true (lk qd3)]⟩
def qq1 {R:Type}(v7:Bool)(v10:LA)(v11 v12:Int)(K:Ex->Env->Mem->Option R):=(fun z_v31 z_b0_0 z_b0_1 z_b0_2 z_b0_3 z_b0_4 z_b0_5 z_b0_6 z_b0_7 z_b1_0 z_b1_1 z_b1_2 z_b2_0 z_b2_1 z_b2_2 z_b2_3 z_b2_4 z_b2_5 z_b2_6 z_b2_7 z_b3_0 z_b3_1 z_b3_2 z_b3_3 z_b3_4 z_b3_5 z_b3_6 z_b3_7 z_b4_0 z_b4_1 z_b4_2 z_b4_3 z_b4_4 z_b4_5 z_b4_6 z_b4_7=>K .norm (qk [(1,(.func 148 [(.ptr 1 0)])),(4,(.ptr 2 0)),(6,(.ptr 3 0)),(7,(.bool v7)),(9,(.ptr 4 0)),(10,(.sl 8 v10)),(11,(.int .i64 v11)),(12,(.int .i64 v12)),(31,(.bool z_v31))]) (qh [(some (.box true (qn z_b0_0 z_b0_1 z_b0_2 z_b0_3 z_b0_4 z_b0_5 z_b0_6 z_b0_7))),(some (.box true (qhi z_b1_0 z_b1_1 z_b1_2))),(some (.box true (qn z_b2_0 z_b2_1 z_b2_2 z_b2_3 z_b2_4 z_b2_5 z_b2_6 z_b2_7))),(some (.box true (qn z_b3_0 z_b3_1 z_b3_2 z_b3_3 z_b3_4 z_b3_5 z_b3_6 z_b3_7))),(some (.box true (qn z_b4_0 z_b4_1 z_b4_2 z_b4_3 z_b4_4 z_b4_5 z_b4_6 z_b4_7)))]))
def qc7 {R:Type}(v7:Bool)(v10:LA)(v11 v12:Int)(Av:Bool)(Aw Ax Ay Az:Int)(A0 A1:LU)(A2:Int)(Ad:Bool)(Ae Af:Int)(Au:Bool)(Bc Bd Be Bf:Int)(Bg Bh:LU)(Bi:Int)(Cf:Bool)(Cg Ch Ci Cj:Int)(Ck Cl:LU)(Cm:Int)(Cn:Bool)(Co Cp Cq Cr:Int)(Cs Ct:LU)(Cu:Int)(kn:Bool->Bool->Int->Int->Int->Int->(List UInt8)->(List UInt8)->Int->Bool->Int->Int->Bool->Int->Int->Int->Int->(List UInt8)->(List UInt8)->Int->Bool->Int->Int->Int->Int->(List UInt8)->(List UInt8)->Int->Bool->Int->Int->Int->Int->(List UInt8)->(List UInt8)->Int->Option R):Option R:=
 (q59 Cn Co Cp Cq Cr Cs Ct Cu Av Aw Ax Ay Az A0 A1 A2 Ad Ae Af Au Bc Bd Be Bf Bg Bh Bi Cf Cg Ch Ci Cj Ck Cl Cm Cn Co Cp Cq Cr Cs Ct Cu fun v3q1 b0_0q2 b0_1q3 b0_2q4 b0_3q5 b0_4q6 b0_5q7 b0_6q8 b0_7q9 b1_0q10 b1_1q11 b1_2q12 b2_0q13 b2_1q14 b2_2q15 b2_3q16 b2_4q17 b2_5q18 b2_6q19 b2_7q20 b3_0q21 b3_1q22 b3_2q23 b3_3q24 b3_4q25 b3_5q26 b3_6q27 b3_7q28 b4_0q29 b4_1q30 b4_2q31 b4_3q32 b4_4q33 b4_5q34 b4_6q35 b4_7q36=>(bif v3q1 then(bif(!v7)then(kn true b0_0q2 b0_1q3 b0_2q4 b0_3q5 b0_4q6 b0_5q7 b0_6q8 b0_7q9 b1_0q10 b1_1q11 b1_2q12 b2_0q13 b2_1q14 b2_2q15 b2_3q16 b2_4q17 b2_5q18 b2_6q19 b2_7q20 b3_0q21 b3_1q22 b3_2q23 b3_3q24 b3_4q25 b3_5q26 b3_6q27 b3_7q28 b4_0q29 b4_1q30 b4_2q31 b4_3q32 b4_4q33 b4_5q34 b4_6q35 b4_7q36)else(kn (decide (b4_3q32>b3_3q24)) b0_0q2 b0_1q3 b0_2q4 b0_3q5 b0_4q6 b0_5q7 b0_6q8 b0_7q9 b1_0q10 b1_1q11 b1_2q12 b2_0q13 b2_1q14 b2_2q15 b2_3q16 b2_4q17 b2_5q18 b2_6q19 b2_7q20 b3_0q21 b3_1q22 b3_2q23 b3_3q24 b3_4q25 b3_5q26 b3_6q27 b3_7q28 b4_0q29 b4_1q30 b4_2q31 b4_3q32 b4_4q33 b4_5q34 b4_6q35 b4_7q36))else(kn false b0_0q2 b0_1q3 b0_2q4 b0_3q5 b0_4q6 b0_5q7 b0_6q8 b0_7q9 b1_0q10 b1_1q11 b1_2q12 b2_0q13 b2_1q14 b2_2q15 b2_3q16 b2_4q17 b2_5q18 b2_6q19 b2_7q20 b3_0q21 b3_1q22 b3_2q23 b3_3q24 b3_4q25 b3_5q26 b3_6q27 b3_7q28 b4_0q29 b4_1q30 b4_2q31 b4_3q32 b4_4q33 b4_5q34 b4_6q35 b4_7q36)))
def qjh {R:Type}:=hull (qc7 (R:=R))
theorem qq2 {R:Type}:qjh (R:=R)=qc7:=qa _
def qsm {R:Type}(KK:AV->Mem->Option R):SubB Tryz.prog (TIof Tryz.prog) 36 2 (qdu [(.cell 4 true 8),.t 5] KK):=jnB tabOk follows Tryz.f147 10647 (.r [(2,.s (.sel [1,4,6,7,9,10,11,12,16,17] [0,1,2,3,4])),(2,.r qbj1)] [.sel [1,4,6,7,9,10,11,12,31] [0,1,2,3,4]]) S36_ (qc7 (R:=R)) (fun f v K=>f (v.b 28 0) (v.l 40 0) (v.i 44 0) (v.i 48 0) (v.b 3 0) (v.i 3 1) (v.i 3 2) (v.i 3 3) (v.i 3 4) (v.s 3 5) (v.s 3 6) (v.i 3 7) (v.b 7 0) (v.i 7 1) (v.i 7 2) (v.b 11 0) (v.i 11 1) (v.i 11 2) (v.i 11 3) (v.i 11 4) (v.s 11 5) (v.s 11 6) (v.i 11 7) (v.b 15 0) (v.i 15 1) (v.i 15 2) (v.i 15 3) (v.i 15 4) (v.s 15 5) (v.s 15 6) (v.i 15 7) (v.b 19 0) (v.i 19 1) (v.i 19 2) (v.i 19 3) (v.i 19 4) (v.s 19 5) (v.s 19 6) (v.i 19 7) (qq1 (v.b 28 0) (v.l 40 0) (v.i 44 0) (v.i 48 0) K))
def qhj {R:Type}(K:Ex->Env->Mem->Option R):=(fun z_v7 z_b0_0 z_b0_1 z_b0_2 z_b0_3 z_b0_4 z_b0_5 z_b0_6 z_b0_7 z_b1_0 z_b1_1 z_b1_2 z_b2_0 z_b2_1 z_b2_2 z_b2_3 z_b2_4 z_b2_5 z_b2_6 z_b2_7 z_b3_0 z_b3_1 z_b3_2 z_b3_3 z_b3_4 z_b3_5 z_b3_6 z_b3_7=>K (.exit 0) (qk [(4,(.ptr 2 0)),(6,(.ptr 3 0)),(7,(.bool z_v7))]) (qh [(some (.box true (qn z_b0_0 z_b0_1 z_b0_2 z_b0_3 z_b0_4 z_b0_5 z_b0_6 z_b0_7))),(some (.box true (qhi z_b1_0 z_b1_1 z_b1_2))),(some (.box true (qn z_b2_0 z_b2_1 z_b2_2 z_b2_3 z_b2_4 z_b2_5 z_b2_6 z_b2_7))),(some (.box true (qn z_b3_0 z_b3_1 z_b3_2 z_b3_3 z_b3_4 z_b3_5 z_b3_6 z_b3_7)))]))
def qb9 {R:Type}(v7:Bool)(v10:LA)(v11 v12:Int)(Av:Bool)(Aw Ax Ay Az:Int)(A0 A1:LU)(A2:Int)(Ad:Bool)(Ae Af:Int)(Au:Bool)(Bc Bd Be Bf:Int)(Bg Bh:LU)(Bi:Int)(Cf:Bool)(Cg Ch Ci Cj:Int)(Ck Cl:LU)(Cm:Int)(next:Bool->Int->Bool->Int->Int->Int->Int->(List UInt8)->(List UInt8)->Int->Bool->Int->Int->Bool->Int->Int->Int->Int->(List UInt8)->(List UInt8)->Int->Bool->Int->Int->Int->Int->(List UInt8)->(List UInt8)->Int->Option R)(kx0:Bool->Bool->Int->Int->Int->Int->(List UInt8)->(List UInt8)->Int->Bool->Int->Int->Bool->Int->Int->Int->Int->(List UInt8)->(List UInt8)->Int->Bool->Int->Int->Int->Int->(List UInt8)->(List UInt8)->Int->Option R):Option R:=
 (bif(decide (v12<v11))then(oB (ixB v10 v12) fun y1=>(bif fitC qb y1.cells then(qjh v7 v10 v11 v12 Av Aw Ax Ay Az A0 A1 A2 Ad Ae Af Au Bc Bd Be Bf Bg Bh Bi Cf Cg Ch Ci Cj Ck Cl Cm (gB y1.cells 0) (gI y1.cells 1) (gI y1.cells 2) (gI y1.cells 3) (gI y1.cells 4) (gS y1.cells 5) (gS y1.cells 6) (gI y1.cells 7) (fun v31q2 b0_0q3 b0_1q4 b0_2q5 b0_3q6 b0_4q7 b0_5q8 b0_6q9 b0_7q10 b1_0q11 b1_1q12 b1_2q13 b2_0q14 b2_1q15 b2_2q16 b2_3q17 b2_4q18 b2_5q19 b2_6q20 b2_7q21 b3_0q22 b3_1q23 b3_2q24 b3_3q25 b3_4q26 b3_5q27 b3_6q28 b3_7q29 b4_0q30 b4_1q31 b4_2q32 b4_3q33 b4_4q34 b4_5q35 b4_6q36 b4_7q37=>(bif v31q2 then(next true (IntKind.i64.wrap (v12+1)) b0_0q3 b0_1q4 b0_2q5 b0_3q6 b0_4q7 b0_5q8 b0_6q9 b0_7q10 b1_0q11 b1_1q12 b1_2q13 b2_0q14 b2_1q15 b2_2q16 b2_3q17 b2_4q18 b2_5q19 b2_6q20 b2_7q21 b4_0q30 b4_1q31 b4_2q32 b4_3q33 b4_4q34 b4_5q35 b4_6q36 b4_7q37)else(next v7 (IntKind.i64.wrap (v12+1)) b0_0q3 b0_1q4 b0_2q5 b0_3q6 b0_4q7 b0_5q8 b0_6q9 b0_7q10 b1_0q11 b1_1q12 b1_2q13 b2_0q14 b2_1q15 b2_2q16 b2_3q17 b2_4q18 b2_5q19 b2_6q20 b2_7q21 b3_0q22 b3_1q23 b3_2q24 b3_3q25 b3_4q26 b3_5q27 b3_6q28 b3_7q29))))else none))else(kx0 v7 Av Aw Ax Ay Az A0 A1 A2 Ad Ae Af Au Bc Bd Be Bf Bg Bh Bi Cf Cg Ch Ci Cj Ck Cl Cm))
def qb0 {R:Type}(v10:LA)(v11:Int)(kx0:Bool->Bool->Int->Int->Int->Int->(List UInt8)->(List UInt8)->Int->Bool->Int->Int->Bool->Int->Int->Int->Int->(List UInt8)->(List UInt8)->Int->Bool->Int->Int->Int->Int->(List UInt8)->(List UInt8)->Int->Option R):Nat->Bool->Int->Bool->Int->Int->Int->Int->(List UInt8)->(List UInt8)->Int->Bool->Int->Int->Bool->Int->Int->Int->Int->(List UInt8)->(List UInt8)->Int->Bool->Int->Int->Int->Int->(List UInt8)->(List UInt8)->Int->Option R
 |0=>(fun _ _ _ _ _ _ _ _ _ _ _ _ _ _ _ _ _ _ _ _ _ _ _ _ _ _ _ _ _=>none)
 |n+1=>(fun v7 v12 Av Aw Ax Ay Az A0 A1 A2 Ad Ae Af Au Bc Bd Be Bf Bg Bh Bi Cf Cg Ch Ci Cj Ck Cl Cm=>qb9 v7 v10 v11 v12 Av Aw Ax Ay Az A0 A1 A2 Ad Ae Af Au Bc Bd Be Bf Bg Bh Bi Cf Cg Ch Ci Cj Ck Cl Cm (qb0 v10 v11 kx0 n) kx0)
def qji {R:Type}:=hull (qb0 (R:=R))
theorem qq3 {R:Type}:qji (R:=R)=qb0:=qa _
def qsn {R:Type}(KK:AV->Mem->Option R):SubB Tryz.prog (TIof Tryz.prog) 36 2 (qdu [(.cell 4 true 8),.t 5] KK):=lpB tabOk follows Tryz.f147 151 (.s .z (.s (.s .z (.v [.sel [4,6,7] [0,1,2,3]])) (.s (.b (.s (.r [(0,.p (.etac 14 qb))] []) (.s (.sub [.sel [1,4,6,7,9,10,11,12] [0,1,2,3,4]] (qsm KK) []) .z))) (.v [.sel [1,4,6,7,10,11,12] [0,1,2,3]])))) S37_ (qb0 (R:=R)) (fun f v K n=>f (v.l 40 0) (v.i 44 0) (qhj K) n) (fun v f K=>qb9 (v.b 28 0) (v.l 40 0) (v.i 44 0) (v.i 48 0) (v.b 3 0) (v.i 3 1) (v.i 3 2) (v.i 3 3) (v.i 3 4) (v.s 3 5) (v.s 3 6) (v.i 3 7) (v.b 7 0) (v.i 7 1) (v.i 7 2) (v.b 11 0) (v.i 11 1) (v.i 11 2) (v.i 11 3) (v.i 11 4) (v.s 11 5) (v.s 11 6) (v.i 11 7) (v.b 15 0) (v.i 15 1) (v.i 15 2) (v.i 15 3) (v.i 15 4) (v.s 15 5) (v.s 15 6) (v.i 15 7) f (qhj K)) (fun f v=>f (v.b 28 0) (v.i 48 0) (v.b 3 0) (v.i 3 1) (v.i 3 2) (v.i 3 3) (v.i 3 4) (v.s 3 5) (v.s 3 6) (v.i 3 7) (v.b 7 0) (v.i 7 1) (v.i 7 2) (v.b 11 0) (v.i 11 1) (v.i 11 2) (v.i 11 3) (v.i 11 4) (v.s 11 5) (v.s 11 6) (v.i 11 7) (v.b 15 0) (v.i 15 1) (v.i 15 2) (v.i 15 3) (v.i 15 4) (v.s 15 5) (v.s 15 6) (v.i 15 7)) (fun k v=>(fun z0 z1 z2 z3 z4 z5 z6 z7 z8 z9 z10 z11 z12 z13 z14 z15 z16 z17 z18 z19 z20 z21 z22 z23 z24 z25 z26 z27 z28=>k (((((((((((((((((((((((((((((v.ub 28 0 z0).ui 48 0 z1).ub 3 0 z2).ui 3 1 z3).ui 3 2 z4).ui 3 3 z5).ui 3 4 z6).us 3 5 z7).us 3 6 z8).ui 3 7 z9).ub 7 0 z10).ui 7 1 z11).ui 7 2 z12).ub 11 0 z13).ui 11 1 z14).ui 11 2 z15).ui 11 3 z16).ui 11 4 z17).us 11 5 z18).us 11 6 z19).ui 11 7 z20).ub 15 0 z21).ui 15 1 z22).ui 15 2 z23).ui 15 3 z24).ui 15 4 z25).us 15 5 z26).us 15 6 z27).ui 15 7 z28)))
def quw {R:Type}(KK:AV->Mem->Option R):=(fun v5 Av Aw Ax Ay Az A0 A1 A2 Ad Ae Af Au Bc Bd Be Bf Bg Bh Bi=>KK (.tup [(.agg [(.bool Au),(.int .u64 Bc),(.int .u64 Bd),(.int .i64 Be),(.int .i64 Bf),(.str Bg),(.str Bh),(.int .i64 Bi)]),(.bool v5)]) (qh [(some (.box true (qn Av Aw Ax Ay Az A0 A1 A2))),(some (.box true (qhi Ad Ae Af))),(some (.box true (qn Au Bc Bd Be Bf Bg Bh Bi)))]))
def qdz {R:Type}(v0:LA)(Av:Bool)(Aw Ax Ay Az:Int)(A0 A1:LU)(A2:Int)(Ad:Bool)(Ae Af:Int)(kr:Bool->Bool->Int->Int->Int->Int->(List UInt8)->(List UInt8)->Int->Bool->Int->Int->Bool->Int->Int->Int->Int->(List UInt8)->(List UInt8)->Int->Option R):Option R:=
 (qji v0 (v0.length:Int) (fun v7q1 b0_0q2 b0_1q3 b0_2q4 b0_3q5 b0_4q6 b0_5q7 b0_6q8 b0_7q9 b1_0q10 b1_1q11 b1_2q12 b2_0q13 b2_1q14 b2_2q15 b2_3q16 b2_4q17 b2_5q18 b2_6q19 b2_7q20 b3_0q21 b3_1q22 b3_2q23 b3_3q24 b3_4q25 b3_5q26 b3_6q27 b3_7q28=>(kr v7q1 b0_0q2 b0_1q3 b0_2q4 b0_3q5 b0_4q6 b0_5q7 b0_6q8 b0_7q9 b1_0q10 b1_1q11 b1_2q12 b3_0q21 b3_1q22 b3_2q23 b3_3q24 b3_4q25 b3_5q26 b3_6q27 b3_7q28)) FU false (0:Int) Av Aw Ax Ay Az A0 A1 A2 Ad Ae Af false (0:Int) (0:Int) (0:Int) (0:Int) ([]:List UInt8) ([]:List UInt8) (0:Int) false (0:Int) (0:Int) (0:Int) (0:Int) ([]:List UInt8) ([]:List UInt8) (0:Int))
def ql3 {R:Type}:=hull (qdz (R:=R))
theorem qux {R:Type}:ql3 (R:=R)=qdz:=qa _
def qu6 {R:Type}:RefB Tryz.prog R:=refB (nt:=36) (nb:=2) tabOk follows Tryz.func147 [(.cell 4 true 8),.t 5] (fun KK=>.s .z (.s .z (.s .z (.s (.s .z (.b (.sub [.sel [1,4,6,7,10,11,12] [0,1,2,3]] (qsn KK) []))) (.s .z (.v [.sel [4,5] [0,1,2]])))))) S38_ (qdz (R:=R)) (fun f v KK=>f (v.l 0 0) (v.b 3 0) (v.i 3 1) (v.i 3 2) (v.i 3 3) (v.i 3 4) (v.s 3 5) (v.s 3 6) (v.i 3 7) (v.b 7 0) (v.i 7 1) (v.i 7 2) (quw KK)) (by kernel_rfl) (by kernel_rfl) (fun _=>(by kernel_rfl)) rfl
def S39_:Shp:=⟨[(0,.one (.l (.sl 8))),(1,.st (lk qd3))],[]⟩
def qbj2:AV->Option (AV×Bool):=decN [(.st [.b,(.i .u64),(.i .u64),(.i .i64),(.i .i64),.s,.s,(.i .i64)]),(.one .b)] fun z=>((gC (tpL z) 0),aB (gC (tpL z) 1))
def qrp (v0:LA)(B7:Bool)(B8 B9:Int):Option (AV×Bool):=
 (ql3 v0 false (0:Int) (0:Int) (0:Int) (0:Int) ([]:List UInt8) ([]:List UInt8) (0:Int) B7 B8 B9 fun v5q1 b0_0q2 b0_1q3 b0_2q4 b0_3q5 b0_4q6 b0_5q7 b0_6q8 b0_7q9 b1_0q10 b1_1q11 b1_2q12 b2_0q13 b2_1q14 b2_2q15 b2_3q16 b2_4q17 b2_5q18 b2_6q19 b2_7q20=>(some ((.agg [(.bool b2_0q13),(.int .u64 b2_1q14),(.int .u64 b2_2q15),(.int .i64 b2_3q16),(.int .i64 b2_4q17),(.str b2_5q18),(.str b2_6q19),(.int .i64 b2_7q20)]),v5q1)))
def q18:=hull qrp
theorem qbme:q18=qrp:=qa _
def qboc {R:Type}:EntF Tryz.prog R:=entB (nt:=11) (dec:=qbj2) (enc:=(fun r=>.tup [qcl (.st [.b,(.i .u64),(.i .u64),(.i .i64),(.i .i64),.s,.s,(.i .i64)]) r.1,.bool r.2])) tabOk follows Tryz.func97 [(.cell 4 true 8),.t 5] (hdeN fun _=>rfl) (.s .z (.s (.r [(2,.s (.sel [4,6,7] [1,0])),(2,.r qu6)] []) .z)) S39_ qrp (fun f v=>f (v.l 0 0) (v.b 5 0) (v.i 5 1) (v.i 5 2))
def S40_:Shp:=⟨[(0,.one (.l (.sl 8))),(1,.st (lk qj))],[]⟩
def qnt (v0:LA)(B7:LU)(B8:Bool)(B9 Ca Cb:Int):Option Bool:=
 (oB (q18 v0 B8 B9 Ca) fun r1=>(bif r1.2 then(bif((gI r1.1.cells 4)==2)then(some true)else(some ((gI r1.1.cells 4)==3)))else(some false)))
def qrq:=hull qnt
theorem qbf6:qrq=qnt:=qa _
def q2n {R:Type}:EntF Tryz.prog R:=entB (nt:=25) (dec:=decB) (enc:=AV.bool) tabOk follows Tryz.func41 [.t 4] hdeB (.s .z (.s (.r [(3,.c qboc.b)] []) .z)) S40_ qnt (fun f v=>f (v.l 0 0) (v.s 5 0) (v.b 5 1) (v.i 5 2) (v.i 5 3) (v.i 5 4))
def qbr (x0 x1 x2:LA):List AV:=[.sl 8 x0,.sl 5 x1,.sl 1 x2]
def S41_:Shp:=⟨[(0,.st (lk qj)),(1,.one (.ptr 0 0))],[.box true (lk qbl),.box true [(.l .nil),(.l .nil),(.l .nil)]]⟩
def qbj3 {R:Type}(KK:AV->Mem->Option R):=(fun v3 Av Aw Ax=>KK (.bool v3) (qh [(some (.box true (qbr Av Aw Ax))),(some (.box true [.nils,.nils,.nils]))]))
def qpa {R:Type}(Aa:LU)(Ab:Bool)(Ac Bt Bu:Int)(Av Aw Ax:LA)(kr:Bool->(List AV)->(List AV)->(List AV)->Option R):Option R:=
 (oB (qrq Av Aa Ab Ac Bt Bu) fun r1=>(kr (!r1) Av Aw Ax))
def q8h {R:Type}:=hull (qpa (R:=R))
theorem qbj4 {R:Type}:q8h (R:=R)=qpa:=qa _
def qbmf {R:Type}:RefB Tryz.prog R:=refB (nt:=9) (nb:=2) tabOk follows Tryz.func40 [.t 3] (fun KK=>.s .z (.s (.r [(3,.c q2n.b)] []) (.v [.sel [3] [0,1]]))) S41_ (qpa (R:=R)) (fun f v KK=>f (v.s 1 0) (v.b 1 1) (v.i 1 2) (v.i 1 3) (v.i 1 4) (v.l 3 0) (v.l 3 1) (v.l 3 2) (qbj3 KK)) (by kernel_rfl) (by kernel_rfl) (fun _=>(by kernel_rfl)) rfl
def S42_:Shp:=⟨[(0,.one (.l (.sl 5))),(1,.one (.fn 40 [(0,0)])),(7,.one (.l (.i .i64))),(8,.one (.l (.i .i64)))],[.box true (lk qbl),.box true [(.l .nil),(.l .nil),(.l .nil)]]⟩
def S43_:Shp:=⟨[(0,.one (.l (.sl 5))),(1,.one (.fn 40 [(0,0)]))],[.box true (lk qbl),.box true [(.l .nil),(.l .nil),(.l .nil)]]⟩
def qdp {R:Type}(K:Ex->Env->Mem->Option R):=(fun z_b0_0 z_b0_1 z_b0_2=>K (.exit 0) (qk []) (qh [(some (.box true (qbr z_b0_0 z_b0_1 z_b0_2))),(some (.box true [.nils,.nils,.nils]))]))
def qdw {R:Type}(KK:AV->Mem->Option R):=(fun v4 Av Aw Ax=>KK (.int .i64 v4) (qh [(some (.box true (qbr Av Aw Ax))),(some (.box true [.nils,.nils,.nils]))]))
def qba {R:Type}(v0:LA)(v7 v8:Int)(Av Aw Ax:LA)(next:Int->(List AV)->(List AV)->(List AV)->Option R)(kx0:(List AV)->(List AV)->(List AV)->Option R)(kr:Int->(List AV)->(List AV)->(List AV)->Option R):Option R:=
 (bif(decide (v8<v7))then(oB (ixB v0 v8) fun y1=>(bif fitC qj y1.cells then(q8h (gS y1.cells 0) (gB y1.cells 1) (gI y1.cells 2) (gI y1.cells 3) (gI y1.cells 4) Av Aw Ax fun v3q2 b0_0q3 b0_1q4 b0_2q5=>(bif v3q2 then(kr v8 b0_0q3 b0_1q4 b0_2q5)else(next (IntKind.i64.wrap (v8+1)) b0_0q3 b0_1q4 b0_2q5)))else none))else(kx0 Av Aw Ax))
def qbb {R:Type}(v0:LA)(v7:Int)(kx0:(List AV)->(List AV)->(List AV)->Option R)(kr:Int->(List AV)->(List AV)->(List AV)->Option R):Nat->Int->(List AV)->(List AV)->(List AV)->Option R
 |0=>(fun _ _ _ _=>none)
 |n+1=>(fun v8 Av Aw Ax=>qba v0 v7 v8 Av Aw Ax (qbb v0 v7 kx0 kr n) kx0 kr)
def qd5 {R:Type}:=hull (qbb (R:=R))
theorem qie {R:Type}:qd5 (R:=R)=qbb:=qa _
def qip {R:Type}(KK:AV->Mem->Option R):SubB Tryz.prog (TIof Tryz.prog) 19 2 (qdu [.t 4] KK):=lpB tabOk follows Tryz.f96 37 (.s .z (.s (.s .z (.v [.sel [] [0,1]])) (.s (.b (.s .z (.s (.r [(3,.p (.etac 14 qj)),(5,.s (.sel [0,1,5,7,8,11,15] [0,1])),(5,.r qbmf)] []) (.s (.s .z (.v [.sel [4] [0,1]])) .z)))) (.v [.sel [0,1,7,8] [0,1]])))) S42_ (qbb (R:=R)) (fun f v K n=>f (v.l 0 0) (v.i 28 0) (qdp K) (qdw KK) n) (fun v f K=>qba (v.l 0 0) (v.i 28 0) (v.i 32 0) (v.l 3 0) (v.l 3 1) (v.l 3 2) f (qdp K) (qdw KK)) (fun f v=>f (v.i 32 0) (v.l 3 0) (v.l 3 1) (v.l 3 2)) (fun k v=>(fun z0 z1 z2 z3=>k ((((v.ui 32 0 z0).ul 3 0 z1).ul 3 1 z2).ul 3 2 z3)))
def qjc {R:Type}(KK:AV->Mem->Option R):=(fun v4 Av Aw Ax=>KK (.int .i64 v4) (qh [(some (.box true (qbr Av Aw Ax))),(some (.box true [.nils,.nils,.nils]))]))
def qbz {R:Type}(v0 Av Aw Ax:LA)(kr:Int->(List AV)->(List AV)->(List AV)->Option R):Option R:=
 (qd5 v0 (v0.length:Int) (fun b0_0q1 b0_1q2 b0_2q3=>(kr (-1:Int) b0_0q1 b0_1q2 b0_2q3)) kr FU (0:Int) Av Aw Ax)
def qej {R:Type}:=hull (qbz (R:=R))
theorem qjd {R:Type}:qej (R:=R)=qbz:=qa _
def qjy {R:Type}:RefB Tryz.prog R:=refB (nt:=19) (nb:=2) tabOk follows Tryz.func96 [.t 4] (fun KK=>.s .z (.s (.s .z (.b (.sub [.sel [0,1,7,8] [0,1]] (qip KK) []))) (.s .z (.v [.sel [4] [0,1]])))) S43_ (qbz (R:=R)) (fun f v KK=>f (v.l 0 0) (v.l 3 0) (v.l 3 1) (v.l 3 2) (qjc KK)) (by kernel_rfl) (by kernel_rfl) (fun _=>(by kernel_rfl)) rfl
def qif {R:Type}(KK:AV->Mem->Option R):=(fun v4 Av Aw Ax=>KK (.bool v4) (qh [(some (.box true (qbr Av Aw Ax))),(some (.box true [.nils,.nils,.nils]))]))
def qbv {R:Type}(v0 Av Aw Ax:LA)(kr:Bool->(List AV)->(List AV)->(List AV)->Option R):Option R:=
 (qej v0 Av Aw Ax fun v4q1 b0_0q2 b0_1q3 b0_2q4=>(kr (decide (v4q1>=0)) b0_0q2 b0_1q3 b0_2q4))
def qck {R:Type}:=hull (qbv (R:=R))
theorem qig {R:Type}:qck (R:=R)=qbv:=qa _
def qiq {R:Type}:RefB Tryz.prog R:=refB (nt:=9) (nb:=2) tabOk follows Tryz.func39 [.t 4] (fun KK=>.s .z (.s (.r [(2,.s (.sel [5,6] [0,1])),(2,.r qjy)] []) (.v [.sel [4] [0,1]]))) S43_ (qbv (R:=R)) (fun f v KK=>f (v.l 0 0) (v.l 3 0) (v.l 3 1) (v.l 3 2) (qif KK)) (by kernel_rfl) (by kernel_rfl) (fun _=>(by kernel_rfl)) rfl
def qbod:AV->Option (AV×Bool):=decN [(.st [.b,(.i .u64),(.i .u64),(.i .i64),(.i .i64),.s,.s,(.i .i64)]),(.one .b)] fun z=>((gC (tpL z) 0),aB (gC (tpL z) 1))
def qvr (v0:LA)(B7:Bool)(B8 B9 Ca:Int):Option (AV×Bool):=
 (oB (qst v0 B7 B8 B9 Ca) fun r1=>(bif(decide (r1>=0))then(oB (ixB v0 r1) fun y2=>(bif fitC qb y2.cells then(some ((.agg [(.bool (gB y2.cells 0)),(.int .u64 (gI y2.cells 1)),(.int .u64 (gI y2.cells 2)),(.int .i64 (gI y2.cells 3)),(.int .i64 (gI y2.cells 4)),(.str (gS y2.cells 5)),(.str (gS y2.cells 6)),(.int .i64 (gI y2.cells 7))]),true))else none))else(some ((.agg [(.bool false),(.int .u64 (0:Int)),(.int .u64 (0:Int)),(.int .i64 (0:Int)),(.int .i64 (0:Int)),(.str ([]:List UInt8)),(.str ([]:List UInt8)),(.int .i64 (0:Int))]),false))))
def qqv:=hull qvr
theorem qbrc:qqv=qvr:=qa _
def qvs {R:Type}:EntF Tryz.prog R:=entB (nt:=17) (dec:=qbod) (enc:=(fun r=>.tup [qcl (.st [.b,(.i .u64),(.i .u64),(.i .i64),(.i .i64),.s,.s,(.i .i64)]) r.1,.bool r.2])) tabOk follows Tryz.func51 [(.cell 4 true 8),.t 5] (hdeN fun _=>rfl) (.s .z (.s (.s (.r [(2,.c qzj.b)] []) (.s .z (.s (.s (.r [(2,.p (.etac 14 qb))] []) .z) .z))) .z)) S16_ qvr (fun f v=>f (v.l 0 0) (v.b 5 0) (v.i 5 1) (v.i 5 2) (v.i 5 3))
def qnu (Aa:Bool)(Ab Ac Bt:Int):Option Int:=
 (bif Aa then(some (128:Int))else(some (32:Int)))
def qxp:=hull qnu
theorem qbf7:qxp=qnu:=qa _
def qbj5 {R:Type}:EntF Tryz.prog R:=entB (nt:=6) (dec:=(decI .i64)) (enc:=(AV.int .i64)) tabOk follows Tryz.func149 [.t 2] hdeI (.z) S8_ qnu (fun f v=>f (v.b 1 0) (v.i 1 1) (v.i 1 2) (v.i 1 3))
def qpb (Aa:Bool)(Ab Ac Bt:Int)(B7:Bool)(B8 B9 Ca:Int):Option Bool:=
 (oB (ql6 Aa Ab Ac Bt B7 B8 B9 Ca) fun r1=>(bif r1 then(some true)else(oB (ql6 B7 B8 B9 Ca Aa Ab Ac Bt) fun r2=>(some r2))))
def qzm:=hull qpb
theorem qbj6:qzm=qpb:=qa _
def q39 {R:Type}:EntF Tryz.prog R:=entB (nt:=13) (dec:=decB) (enc:=AV.bool) tabOk follows Tryz.func190 [.t 4] hdeB (.s .z (.s (.r [(2,.c qmd.b),(6,.c qmd.b)] []) .z)) S20_ qpb (fun f v=>f (v.b 1 0) (v.i 1 1) (v.i 1 2) (v.i 1 3) (v.b 5 0) (v.i 5 1) (v.i 5 2) (v.i 5 3))
def S44_:Shp:=⟨[(1,.one (.l (.i .i64))),(2,.one (.l (.i .u64))),(3,.one (.ptr 0 0)),(6,.one (.ptr 1 0))],[.box true (lk qe),.box true (lk qe)]⟩
def S45_:Shp:=⟨[(1,.one (.l (.i .i64))),(2,.one (.l (.i .u64))),(3,.one (.ptr 0 0)),(6,.one (.ptr 1 0)),(8,.one (.l (.i .i64)))],[.box true (lk qe),.box true (lk qe)]⟩
def S46_:Shp:=⟨[(1,.one (.l (.i .i64))),(2,.one (.l (.i .u64))),(3,.one (.ptr 0 0)),(6,.one (.ptr 1 0)),(9,.one (.l (.i .u64))),(10,.one (.l (.i .u64))),(11,.one (.l (.i .u64)))],[.box true (lk qe),.box true (lk qe)]⟩
def S47_:Shp:=⟨[(0,.st (lk qe)),(1,.one (.l (.i .i64))),(2,.one (.l (.i .u64)))],[]⟩
def qrr:AV->Option (AV×Bool):=decN [(.st [.b,(.i .u64),(.i .u64),(.i .i64)]),(.one .b)] fun z=>((gC (tpL z) 0),aB (gC (tpL z) 1))
def qbj7 (v1 v2:Int)(Av:Bool)(Aw Ax Ay:Int)(Ad:Bool)(Ae Af Ag:Int)(K:Ex->Env->Mem->Option (AV×Bool)):=(fun z_v28=>K .norm (qk [(1,(.int .i64 v1)),(2,(.int .u64 v2)),(3,(.ptr 0 0)),(6,(.ptr 1 0)),(28,(.bool z_v28))]) (qh [(some (.box true (qc Av Aw Ax Ay))),(some (.box true (qc Ad Ae Af Ag)))]))
def qpc (v1 v2:Int)(Av:Bool)(Aw Ax Ay:Int)(Ad:Bool)(Ae Af Ag:Int)(kn:Bool->Option (AV×Bool)):Option (AV×Bool):=
 (oB (qix Av Aw Ax Ay) fun r1=>(bif((!r1)||(decide (v1<Ay)))then(kn true)else(oB (ql5 Av Aw Ax) fun r2=>(kn (decide (v1>r2))))))
def qzn:=hull (qpc)
theorem qbj8:qzn=qpc:=qa _
def qbmg:SubB Tryz.prog (TIof Tryz.prog) 81 0 (kret [(.cell 6 true 4),.t 7] qrr):=jnB tabOk follows Tryz.f156 9 (.r [(1,.c qk8.b),(4,.g 4),(13,.c qri.b)] [.sel [1,2,3,6,28] [0,1]]) S44_ (qpc) (fun f v K=>f (v.i 4 0) (v.i 8 0) (v.b 3 0) (v.i 3 1) (v.i 3 2) (v.i 3 3) (v.b 7 0) (v.i 7 1) (v.i 7 2) (v.i 7 3) (qbj7 (v.i 4 0) (v.i 8 0) (v.b 3 0) (v.i 3 1) (v.i 3 2) (v.i 3 3) (v.b 7 0) (v.i 7 1) (v.i 7 2) (v.i 7 3) K))
def qbf8 (v1 v2:Int)(Av:Bool)(Aw Ax Ay:Int)(Ad:Bool)(Ae Af Ag:Int)(K:Ex->Env->Mem->Option (AV×Bool)):=(fun z_v42=>K .norm (qk [(1,(.int .i64 v1)),(2,(.int .u64 v2)),(3,(.ptr 0 0)),(6,(.ptr 1 0)),(42,(.bool z_v42))]) (qh [(some (.box true (qc Av Aw Ax Ay))),(some (.box true (qc Ad Ae Af Ag)))]))
def qj2 (v1 v2 v8:Int)(Av:Bool)(Aw Ax Ay:Int)(Ad:Bool)(Ae Af Ag:Int)(kn:Bool->Option (AV×Bool)):Option (AV×Bool):=
 (bif(decide (v8<64))then(bif decide ((IntKind.u64.wrap v8)<0)then none else(kn ((v2.fdiv (2^min (IntKind.u64.wrap v8).toNat IntKind.u64.bits)) != (0:Int))))else(kn false))
def q6a:=hull (qj2)
theorem q0y:q6a=qj2:=qa _
def qbj9:SubB Tryz.prog (TIof Tryz.prog) 81 0 (kret [(.cell 6 true 4),.t 7] qrr):=jnB tabOk follows Tryz.f156 43 (.v [.sel [1,2,3,6,42] [0,1]]) S45_ (qj2) (fun f v K=>f (v.i 4 0) (v.i 8 0) (v.i 32 0) (v.b 3 0) (v.i 3 1) (v.i 3 2) (v.i 3 3) (v.b 7 0) (v.i 7 1) (v.i 7 2) (v.i 7 3) (qbf8 (v.i 4 0) (v.i 8 0) (v.b 3 0) (v.i 3 1) (v.i 3 2) (v.i 3 3) (v.b 7 0) (v.i 7 1) (v.i 7 2) (v.i 7 3) K))
def qbf9 (v1:Int)(Av:Bool)(Aw Ax Ay:Int)(Ad:Bool)(Ae Af Ag:Int)(K:Ex->Env->Mem->Option (AV×Bool)):=(fun z_v10 z_v11=>K .norm (qk [(1,(.int .i64 v1)),(3,(.ptr 0 0)),(6,(.ptr 1 0)),(10,(.int .u64 z_v10)),(11,(.int .u64 z_v11))]) (qh [(some (.box true (qc Av Aw Ax Ay))),(some (.box true (qc Ad Ae Af Ag)))]))
def qj3 (v1 v2 v9 v10 v11:Int)(Av:Bool)(Aw Ax Ay:Int)(Ad:Bool)(Ae Af Ag:Int)(kn:Int->Int->Option (AV×Bool)):Option (AV×Bool):=
 (bif(decide (v9>=64))then(bif decide ((IntKind.u64.wrap (v9-64))<0)then none else(kn (IntKind.u64.wrap (v2*2^min (IntKind.u64.wrap (v9-64)).toNat IntKind.u64.bits)) (0:Int)))else(bif(decide (v9>0))then(bif decide ((IntKind.u64.wrap ((64:Int)-v9))<0)then none else(bif decide (v9<0)then none else(kn (v2.fdiv (2^min (IntKind.u64.wrap ((64:Int)-v9)).toNat IntKind.u64.bits)) (IntKind.u64.wrap (v2*2^min v9.toNat IntKind.u64.bits)))))else(kn v10 v11)))
def qmg:=hull (qj3)
theorem q0z:qmg=qj3:=qa _
def qbka:SubB Tryz.prog (TIof Tryz.prog) 81 0 (kret [(.cell 6 true 4),.t 7] qrr):=jnB tabOk follows Tryz.f156 95 (.s .z (.s (.v [.sel [1,3,6,10,11] [0,1]]) (.s .z (.s (.v [.sel [1,3,6,10,11] [0,1]]) (.v [.sel [1,3,6,10,11] [0,1]]))))) S46_ (qj3) (fun f v K=>f (v.i 4 0) (v.i 8 0) (v.i 36 0) (v.i 40 0) (v.i 44 0) (v.b 3 0) (v.i 3 1) (v.i 3 2) (v.i 3 3) (v.b 7 0) (v.i 7 1) (v.i 7 2) (v.i 7 3) (qbf9 (v.i 4 0) (v.b 3 0) (v.i 3 1) (v.i 3 2) (v.i 3 3) (v.b 7 0) (v.i 7 1) (v.i 7 2) (v.i 7 3) K))
def qqh (Aa:Bool)(Ab Ac Bt v1 v2:Int):Option (AV×Bool):=
 (qzn v1 v2 Aa Ab Ac Bt false (0:Int) (0:Int) (0:Int) (fun v28q1=>(bif v28q1 then(some ((.agg [(.bool false),(.int .u64 (0:Int)),(.int .u64 (0:Int)),(.int .i64 (0:Int))]),false))else(q6a v1 v2 (IntKind.i64.wrap (v1-Bt)) Aa Ab Ac Bt false (0:Int) (0:Int) (0:Int) (fun v42q2=>(bif v42q2 then(some ((.agg [(.bool false),(.int .u64 (0:Int)),(.int .u64 (0:Int)),(.int .i64 (0:Int))]),false))else(oB (ql5 Aa Ab Ac) fun r3=>(qmg v1 v2 (IntKind.u64.wrap (IntKind.i64.wrap (r3-v1))) (0:Int) v2 Aa Ab Ac Bt false (0:Int) (0:Int) (0:Int) (fun v10q4 v11q5=>(some ((.agg [(.bool Aa),(.int .u64 (qbg .or .u64 Ab v10q4)),(.int .u64 (qbg .or .u64 Ac v11q5)),(.int .i64 v1)]),true)))))))))))
def qed:=hull qqh
theorem q8i:qed=qqh:=qa _
def q19 {R:Type}:EntF Tryz.prog R:=entB (nt:=81) (dec:=qrr) (enc:=(fun r=>.tup [qcl (.st [.b,(.i .u64),(.i .u64),(.i .i64)]) r.1,.bool r.2])) tabOk follows Tryz.func156 [(.cell 6 true 4),.t 7] (hdeN fun _=>rfl) (.s .z (.s (.s (.sub [.sel [1,2,3,6] [0,1]] qbmg []) .z) (.s (.s .z (.s (.sub [.sel [1,2,3,6,8] [0,1]] qbj9 []) .z)) (.s (.r [(2,.c qri.b)] []) (.s .z (.s (.sub [.sel [1,2,3,6,9,10,11] [0,1]] qbka []) .z)))))) S47_ qqh (fun f v=>f (v.b 1 0) (v.i 1 1) (v.i 1 2) (v.i 1 3) (v.i 4 0) (v.i 8 0))
def S48_:Shp:=⟨[(1,.one (.ptr 0 0)),(2,.one (.ptr 1 0)),(3,.one (.ptr 2 0)),(5,.one (.ptr 3 0)),(6,.one (.l .b))],[.box true (lk qe),.box true (lk qe),.box true (lk qe),.box true (lk qe)]⟩
def q2o:AV->Option (AV×AV×Bool):=decN [(.st [.b,(.i .u64),(.i .u64),(.i .i64)]),(.st [.b,(.i .u64),(.i .u64),(.i .i64)]),(.one .b)] fun z=>((gC (tpL z) 0),(gC (tpL z) 1),aB (gC (tpL z) 2))
def qbd3 (Av:Bool)(Aw Ax Ay:Int)(Ad:Bool)(Ae Af Ag:Int)(Au:Bool)(Bc Bd Be:Int)(Cf:Bool)(Cg Ch Ci:Int)(K:Ex->Env->Mem->Option (AV×AV×Bool)):=(fun z_v22=>K .norm (qk [(1,(.ptr 0 0)),(2,(.ptr 1 0)),(3,(.ptr 2 0)),(5,(.ptr 3 0)),(22,(.bool z_v22))]) (qh [(some (.box true (qc Av Aw Ax Ay))),(some (.box true (qc Ad Ae Af Ag))),(some (.box true (qc Au Bc Bd Be))),(some (.box true (qc Cf Cg Ch Ci)))]))
def qmh (v6 Av:Bool)(Aw Ax Ay:Int)(Ad:Bool)(Ae Af Ag:Int)(Au:Bool)(Bc Bd Be:Int)(Cf:Bool)(Cg Ch Ci:Int)(kn:Bool->Option (AV×AV×Bool)):Option (AV×AV×Bool):=
 (bif(!v6)then(kn true)else(oB (qix Av Aw Ax Ay) fun r1=>(kn (!r1))))
def q4a:=hull (qmh)
theorem qbd4:q4a=qmh:=qa _
def qbga:SubB Tryz.prog (TIof Tryz.prog) 36 0 (kret [(.cell 2 true 4),(.cell 3 true 4),.t 4] q2o):=jnB tabOk follows Tryz.f155 19 (.r [(4,.c qk8.b)] [.sel [1,2,3,5,22] [0,1,2,3]]) S48_ (qmh) (fun f v K=>f (v.b 24 0) (v.b 3 0) (v.i 3 1) (v.i 3 2) (v.i 3 3) (v.b 7 0) (v.i 7 1) (v.i 7 2) (v.i 7 3) (v.b 11 0) (v.i 11 1) (v.i 11 2) (v.i 11 3) (v.b 15 0) (v.i 15 1) (v.i 15 2) (v.i 15 3) (qbd3 (v.b 3 0) (v.i 3 1) (v.i 3 2) (v.i 3 3) (v.b 7 0) (v.i 7 1) (v.i 7 2) (v.i 7 3) (v.b 11 0) (v.i 11 1) (v.i 11 2) (v.i 11 3) (v.b 15 0) (v.i 15 1) (v.i 15 2) (v.i 15 3) K))
def qrs (Aa:Bool)(Ab Ac Bt:Int):Option (AV×AV×Bool):=
 (oB (qed Aa Ab Ac Bt (IntKind.i64.wrap (Bt+1)) (0:Int)) fun r1=>(q4a r1.2 Aa Ab Ac Bt false (0:Int) (0:Int) (0:Int) false (0:Int) (0:Int) (0:Int) (gB r1.1.cells 0) (gI r1.1.cells 1) (gI r1.1.cells 2) (gI r1.1.cells 3) (fun v22q2=>(bif v22q2 then(some ((.agg [(.bool false),(.int .u64 (0:Int)),(.int .u64 (0:Int)),(.int .i64 (0:Int))]),(.agg [(.bool false),(.int .u64 (0:Int)),(.int .u64 (0:Int)),(.int .i64 (0:Int))]),false))else(oB (qed Aa Ab Ac Bt (IntKind.i64.wrap (Bt+1)) (1:Int)) fun r3=>(some ((.agg [(.bool (gB r1.1.cells 0)),(.int .u64 (gI r1.1.cells 1)),(.int .u64 (gI r1.1.cells 2)),(.int .i64 (gI r1.1.cells 3))]),(.agg [(.bool (gB r3.1.cells 0)),(.int .u64 (gI r3.1.cells 1)),(.int .u64 (gI r3.1.cells 2)),(.int .i64 (gI r3.1.cells 3))]),r3.2)))))))
def qjz:=hull qrs
theorem qbmh:qjz=qrs:=qa _
def qxq {R:Type}:EntF Tryz.prog R:=entB (nt:=36) (dec:=q2o) (enc:=(fun r=>.tup [qcl (.st [.b,(.i .u64),(.i .u64),(.i .i64)]) r.1,qcl (.st [.b,(.i .u64),(.i .u64),(.i .i64)]) r.2.1,.bool r.2.2])) tabOk follows Tryz.func155 [(.cell 2 true 4),(.cell 3 true 4),.t 4] (hdeN fun _=>rfl) (.s .z (.s (.r [(4,.c q19.b)] []) (.s (.s (.sub [.sel [1,2,3,5,6] [0,1,2,3]] qbga []) .z) (.s (.r [(4,.c q19.b)] []) .z)))) S8_ qrs (fun f v=>f (v.b 1 0) (v.i 1 1) (v.i 1 2) (v.i 1 3))
def q6b {β:Type}(cs:LA)(f:Bool->Int->Int->Int->β):β:=f (gB cs 0) (gI cs 1) (gI cs 2) (gI cs 3)
def qxr:Shp:=⟨[(0,.one (.own 0)),(1,.one (.l (.sl 8))),(2,.st (lk qe))],[.arr true 4]⟩
def qfl (rec:(List AV)->(List AV)->Bool->Int->Int->Int->Option (List AV))(xs cl:LA):Option (List AV):=chk (q3k qxr (qbq (.own 0 xs.length::cl)) (M1 4 xs)) (cond (hdS qxr (qbq (.own 0 xs.length::cl)) (M1 4 xs)) (rec xs (gL [(qbq (.own 0 xs.length::cl)) 1] 0) (gB ((qbq (.own 0 xs.length::cl)) 2).cells 0) (gI ((qbq (.own 0 xs.length::cl)) 2).cells 1) (gI ((qbq (.own 0 xs.length::cl)) 2).cells 2) (gI ((qbq (.own 0 xs.length::cl)) 2).cells 3)) none)
def qmi (a0:LA)(Ad:Bool)(Ae Af Ag:Int)(K:Ex->Env->Mem->Option (List AV)):=(fun z_a2=>K (.exit 0) (qk [(0,(.own 0 a0.length)),(5,(.ptr 1 0)),(7,(.own 2 z_a2.length))]) (qh [(some (.arr true 4 a0)),(some (.box true (qc Ad Ae Af Ag))),(some (.arr true 8 z_a2))]))
def qbgb:Shp:=⟨[(0,.one (.own 0)),(5,.one (.ptr 1 0)),(7,.one (.own 2)),(13,.one (.l (.sl 8))),(14,.one (.l (.i .i64))),(15,.one (.l (.i .i64)))],[.arr true 4,.box true (lk qe),.arr true 8]⟩
def quy (v13:LA)(v14 v15:Int)(a0:LA)(Ad:Bool)(Ae Af Ag:Int)(a2:LA):Env:=qk [(0,(.own 0 a0.length)),(5,(.ptr 1 0)),(7,(.own 2 a2.length)),(13,(.sl 8 v13)),(14,(.int .i64 v14)),(15,(.int .i64 v15))]
def quz (v13:LA)(v14 v15:Int)(a0:LA)(Ad:Bool)(Ae Af Ag:Int)(a2:LA):Mem:=qh [(some (.arr true 4 a0)),(some (.box true (qc Ad Ae Af Ag))),(some (.arr true 8 a2))]
def qih (rec:(List AV)->(List AV)->Bool->Int->Int->Int->Option (List AV))(v13:LA)(v14 v15:Int)(a0:LA)(Ad:Bool)(Ae Af Ag:Int)(a2:LA)(next:Int->(List AV)->Option (List AV))(kx0:(List AV)->Option (List AV)):Option (List AV):=
 (bif(decide (v15<v14))then(oB (ixB v13 v15) fun y1=>(bif fitC qb y1.cells then(oB (ql6 Ad Ae Af Ag (gB y1.cells 0) (gI y1.cells 1) (gI y1.cells 2) (gI y1.cells 3)) fun r2=>(bif r2 then(bif hd a0 a0.length then(some a0)else none)else(oB (qzm (gB y1.cells 0) (gI y1.cells 1) (gI y1.cells 2) (gI y1.cells 3) Ad Ae Af Ag) fun r3=>(bif r3 then(bif hd a2 a2.length then(bif hd ([(.agg [(.bool (gB y1.cells 0)),(.int .u64 (gI y1.cells 1)),(.int .u64 (gI y1.cells 2)),(.int .i64 (gI y1.cells 3)),(.int .i64 (gI y1.cells 4)),(.str (gS y1.cells 5)),(.str (gS y1.cells 6)),(.int .i64 (gI y1.cells 7))])]:List AV) (([(.agg [(.bool (gB y1.cells 0)),(.int .u64 (gI y1.cells 1)),(.int .u64 (gI y1.cells 2)),(.int .i64 (gI y1.cells 3)),(.int .i64 (gI y1.cells 4)),(.str (gS y1.cells 5)),(.str (gS y1.cells 6)),(.int .i64 (gI y1.cells 7))])]:List AV).length)then(bif decide ((a2.length+([(.agg [(.bool (gB y1.cells 0)),(.int .u64 (gI y1.cells 1)),(.int .u64 (gI y1.cells 2)),(.int .i64 (gI y1.cells 3)),(.int .i64 (gI y1.cells 4)),(.str (gS y1.cells 5)),(.str (gS y1.cells 6)),(.int .i64 (gI y1.cells 7))])]:List AV).length)*80<=140737488355328)then(next (IntKind.i64.wrap (v15+1)) (a2++([(.agg [(.bool (gB y1.cells 0)),(.int .u64 (gI y1.cells 1)),(.int .u64 (gI y1.cells 2)),(.int .i64 (gI y1.cells 3)),(.int .i64 (gI y1.cells 4)),(.str (gS y1.cells 5)),(.str (gS y1.cells 6)),(.int .i64 (gI y1.cells 7))])]:List AV)))else none)else none)else none)else(next (IntKind.i64.wrap (v15+1)) a2)))))else none))else(kx0 a2))
def qpd (rec:(List AV)->(List AV)->Bool->Int->Int->Int->Option (List AV))(v13:LA)(v14:Int)(a0:LA)(Ad:Bool)(Ae Af Ag:Int)(kx0:(List AV)->Option (List AV)):Nat->Int->(List AV)->Option (List AV)
 |0=>(fun _ _=>none)
 |n+1=>(fun v15 a2=>qih rec v13 v14 v15 a0 Ad Ae Af Ag a2 (qpd rec v13 v14 a0 Ad Ae Af Ag kx0 n) kx0)
def qop (rec:(List AV)->(List AV)->Bool->Int->Int->Int->Option (List AV)):=hull (qpd rec)
theorem q2p (rec:(List AV)->(List AV)->Bool->Int->Int->Int->Option (List AV)):qop rec=qpd rec:=qa _
def qii (rec:(List AV)->(List AV)->Bool->Int->Int->Int->Option (List AV)):AC (List AV):=
 .seq (.reg [ao 16 (.bin .lss 15 14)]) (.seq (.cond 16 (.skip) (.seq (.view [.sel [0,5,7] [0,1,2]]) (.exit 0))) (.seq (.block 1 (.seq (.reg [ao 17 (.ia 8 13 15),
 .st (.etac 17 qb),
 ao 18 (.load true 8 17),
 ao 9 (.alloc [(.bool false),(.int .u64 0),(.int .u64 0),(.int .i64 0),(.int .i64 0),(.str []),(.str []),(.int .i64 0)]),
 an (.store 8 9 18)]) (.seq (.seq (.reg [ao 19 (.load true 4 5),
 ao 20 (.fa 0 9),
 ao 21 (.load true 4 20),
 .call (po 22 (.call 122 [19,21])) 122 qmd.e]) (.cond 22 (.seq (.reg [ao 23 (.mv 0),
 ao 6 (.mv 23)]) (.ret)) (.skip))) (.seq (.reg [ao 24 (.fa 0 9),
 ao 25 (.load true 4 24),
 ao 26 (.load true 4 5),
 .call (po 27 (.call 190 [25,26])) 190 q39.e]) (.cond 27 (.reg [ao 28 (.mv 7),
 ao 29 (.load true 8 9),
 ao 30 (.bsl 8 [29]),
 ao 31 (.app 8 80 28 30),
 ao 7 (.mv 31)]) (.skip)))))) (.seq (.reg [ao 32 (.bin .add 15 (.c (.int .i64 1))),
 ao 15 (.mv 32)]) (.view [.sel [0,5,7,13,14,15] [0,1,2]]))))
theorem qbkb (rec:(List AV)->(List AV)->Bool->Int->Int->Int->Option (List AV))(hrec:qth Tryz.prog 179 4 (qfl rec)):AC.ok Tryz.prog (TIof Tryz.prog) 56 1 (qdu [.t 6] (grK 4)) (qii rec):=qbu3 (zA (qdo.ok qmd.h) (zA (qdo.ok q39.h) trivial))
theorem qbgc (rec:(List AV)->(List AV)->Bool->Int->Int->Int->Option (List AV))(v13:LA)(v14 v15:Int)(a0:LA)(Ad:Bool)(Ae Af Ag:Int)(a2:LA)(K:Ex->Env->Mem->Option (List AV)):den 1 (qdu [.t 6] (grK 4)) (qii rec) (quy v13 v14 v15 a0 Ad Ae Af Ag a2) (quz v13 v14 v15 a0 Ad Ae Af Ag a2) K=qih rec v13 v14 v15 a0 Ad Ae Af Ag a2 (fun z_v15 z_a2=>K .norm (quy v13 v14 z_v15 a0 Ad Ae Af Ag z_a2) (quz v13 v14 z_v15 a0 Ad Ae Af Ag z_a2)) (qmi a0 Ad Ae Af Ag K):=by kernel_rfl
theorem qbmi (rec:(List AV)->(List AV)->Bool->Int->Int->Int->Option (List AV))(v13:LA)(v14:Int)(a0:LA)(Ad:Bool)(Ae Af Ag:Int)(K:Ex->Env->Mem->Option (List AV)):∀(n:Nat) (v15:Int) (a2:LA),qv7 (den 1 (qdu [.t 6] (grK 4)) (qii rec)) n (quy v13 v14 v15 a0 Ad Ae Af Ag a2) (quz v13 v14 v15 a0 Ad Ae Af Ag a2) K=qop rec v13 v14 a0 Ad Ae Af Ag (qmi a0 Ad Ae Af Ag K) n v15 a2:=by
 rw[q2p]
 intro n
 induction n with
 |zero=>intros;rfl
 |succ n ih=>
 intro v15 a2
 exact(qbgc rec v13 v14 v15 a0 Ad Ae Af Ag a2 (itK (den 1 (qdu [.t 6] (grK 4)) (qii rec)) n K)).trans (congrArg (fun q=>qih rec v13 v14 v15 a0 Ad Ae Af Ag a2 q (qmi a0 Ad Ae Af Ag K)) (funext fun v15=>funext fun a2=>ih v15 a2))
def q4b (rec:(List AV)->(List AV)->Bool->Int->Int->Int->Option (List AV)):=subE (R:=List AV) qbgb fun t m K=>q6b (bxC (m.s 1)) (qop rec (gL [t 13] 0) (gI [t 14] 0) (arL (m.s 0))) (qmi (arL (m.s 0)) (gB (bxC (m.s 1)) 0) (gI (bxC (m.s 1)) 1) (gI (bxC (m.s 1)) 2) (gI (bxC (m.s 1)) 3) K) FU (gI [t 15] 0) (arL (m.s 2))
theorem qbmj (rec:(List AV)->(List AV)->Bool->Int->Int->Int->Option (List AV))(hrec:qth Tryz.prog 179 4 (qfl rec)):q3n Tryz.prog (TIof Tryz.prog) 56 1 (qdu [.t 6] (grK 4)) (.loop (scOf (qii rec))) (q4b rec):=
 qbrz tabOk follows (qbkb rec hrec) (qbi9 (by kernel_rfl)) fun t m K=>qbmi rec _ _ _ _ _ _ _ K FU _ _
def qvt (rec:(List AV)->(List AV)->Bool->Int->Int->Int->Option (List AV))(a0 v1:LA)(Cw:Bool)(Cx Cy Cz:Int):Option (List AV):=
 (bif(hd a0 (a0.length)&&(hd ([]:List AV) (([]:List AV).length)&&true))then(qop rec v1 (v1.length:Int) a0 Cw Cx Cy Cz (fun a2q1=>(bif((a2q1.length:Int)==0)then(bif hd a0 a0.length then(bif hd ([(.agg [(.bool Cw),(.int .u64 Cx),(.int .u64 Cy),(.int .i64 Cz)])]:List AV) (([(.agg [(.bool Cw),(.int .u64 Cx),(.int .u64 Cy),(.int .i64 Cz)])]:List AV).length)then(bif decide ((a0.length+([(.agg [(.bool Cw),(.int .u64 Cx),(.int .u64 Cy),(.int .i64 Cz)])]:List AV).length)*32<=140737488355328)then(bif hd (a0++([(.agg [(.bool Cw),(.int .u64 Cx),(.int .u64 Cy),(.int .i64 Cz)])]:List AV)) ((a0++([(.agg [(.bool Cw),(.int .u64 Cx),(.int .u64 Cy),(.int .i64 Cz)])]:List AV)).length)then(some (a0++([(.agg [(.bool Cw),(.int .u64 Cx),(.int .u64 Cy),(.int .i64 Cz)])]:List AV)))else none)else none)else none)else none)else(oB (qjz Cw Cx Cy Cz) fun r2=>(bif(!r2.2.2)then(bif hd a0 a0.length then(some a0)else none)else(bif hd a2q1 a2q1.length then(bif hd a0 a0.length then(oB (bif(hd a0 (a0.length)&&true)then(rec a0 a2q1 (gB r2.1.cells 0) (gI r2.1.cells 1) (gI r2.1.cells 2) (gI r2.1.cells 3))else none) fun r3=>(bif hd r3 r3.length then(oB (bif(hd r3 (r3.length)&&true)then(rec r3 a2q1 (gB r2.2.1.cells 0) (gI r2.2.1.cells 1) (gI r2.2.1.cells 2) (gI r2.2.1.cells 3))else none) fun r4=>(bif hd r4 r4.length then(some r4)else none))else none))else none)else none))))) FU (0:Int) ([]:List AV))else none)
def qd7:Nat->(List AV)->(List AV)->Bool->Int->Int->Int->Option (List AV)
 |0=>(fun _ _ _ _ _ _=>none)
 |n+1=>(fun a0 v1 Cw Cx Cy Cz=>qvt (qd7 n) a0 v1 Cw Cx Cy Cz)
def q7g:(List AV)->(List AV)->Bool->Int->Int->Int->Option (List AV):=hull (qd7 FU)
theorem q8j:q7g=qd7 FU:=qa _
def qqi (rec:(List AV)->(List AV)->Bool->Int->Int->Int->Option (List AV)):AC (List AV):=
 .seq (.reg [ao 5 (.box 2),
 ao 6 (.mv (.c .nils))]) (.seq (.reg [ao 7 (.mv (.c .nils))]) (.seq (.seq (.reg [ao 13 (.mv 1),
 ao 14 (.len false 13),
 ao 15 (.mv (.c (.int .i64 0)))]) (.block 0 (.seq (.view [.own 7 8,.sel [0,5,7,13,14,15] [0,1,2]]) (.sub (.loop (scOf (qii rec))) (q4b rec))))) (.seq (.seq (.reg [ao 33 (.mv 7),
 ao 34 (.len false 33),
 ao 35 (.bin .eql 34 (.c (.int .i64 0)))]) (.cond 35 (.seq (.reg [ao 36 (.mv 0),
 ao 37 (.load true 4 5),
 ao 38 (.bsl 4 [37]),
 ao 39 (.app 4 32 36 38),
 ao 6 (.mv 39)]) (.ret)) (.skip))) (.seq (.reg [ao 41 (.load true 4 5),
 .call (po 42 (.call 155 [41])) 155 qxq.e,
 ao 40 (.mv 42),
 ao 43 (.ext 40 0),
 ao 44 (.ext 40 1),
 ao 45 (.ext 40 2),
 ao 10 (.alloc [(.bool false),(.int .u64 0),(.int .u64 0),(.int .i64 0)]),
 ao 11 (.alloc [(.bool false),(.int .u64 0),(.int .u64 0),(.int .i64 0)]),
 an (.store 4 10 43),
 an (.store 4 11 44),
 ao 12 (.mv 45)]) (.seq (.seq (.reg [ao 46 (.mv 12),
 ao 47 (.un .not 46)]) (.cond 47 (.seq (.reg [ao 48 (.mv 0),
 ao 6 (.mv 48)]) (.ret)) (.skip))) (.seq (.seq (.view [.snap 7]) (.draw4 [(po 49 (.mv 0)),(po 50 (.mv 7)),(po 51 (.load true 4 10))] 52 179 4 49 [50,51] (qfl rec) [(po 53 (.mv 7)),(po 54 (.load true 4 11))] [.callr (po 55 (.call 179 [52,53,54])) 179 (qbwn 4 (qfl rec)),
 ao 6 (.mv 55)])) (.ret)))))))
theorem qbrd (rec:(List AV)->(List AV)->Bool->Int->Int->Int->Option (List AV))(hrec:qth Tryz.prog 179 4 (qfl rec)):AC.ok Tryz.prog (TIof Tryz.prog) 56 1 (qdu [.t 6] (grK 4)) (qqi rec):=qbu3 (zA (qbmj rec hrec) (zA (qdo.ok qxq.h) (zA hrec (zA (qbtd hrec) trivial))))
theorem qbub (rec:(List AV)->(List AV)->Bool->Int->Int->Int->Option (List AV))(v1:LA)(Cw:Bool)(Cx Cy Cz:Int)(a0:LA):den 1 (qdu [.t 6] (grK 4)) (qqi rec) (qk [(0,(.own 0 a0.length)),(1,(.sl 8 v1)),(2,.agg (qc Cw Cx Cy Cz))]) (qh [(some (.arr true 4 a0))]) (kend (qdu [.t 6] (grK 4)))=qvt rec a0 v1 Cw Cx Cy Cz:=by
 kernel_rfl
theorem qbuc:cFn (TIof Tryz.prog) Tryz.f179=some ⟨56,[.t 6],scOf (qqi (fun _ _ _ _ _ _=>none))⟩:=by kernel_rfl
theorem qbud (rec:(List AV)->(List AV)->Bool->Int->Int->Int->Option (List AV)):(qqi rec).er=some (scOf (qqi (fun _ _ _ _ _ _=>none))):=by kernel_rfl
theorem q8k:∀(k:Nat),qth Tryz.prog 179 4 (qfl (qd7 k))
 |0=>fun xs cl zs h=>by
  unfold qfl at h
  obtain⟨h1,h2⟩:=qli h
  obtain⟨h3,h4⟩:=qo h2
  cases h4
 |k+1=>fun xs cl zs h=>by
  unfold qfl at h
  obtain⟨h1,h2⟩:=qli h
  obtain⟨h3,h4⟩:=qo h2
  exact qbp5 tabOk follows Tryz.func179 (by kernel_rfl) qbuc (qbrd (qd7 k) (q8k k)) (qbud (qd7 k)) qxr (qbak h1 h3) ((qbub (qd7 k) (gL [(qbq (.own 0 xs.length::cl)) 1] 0) (gB ((qbq (.own 0 xs.length::cl)) 2).cells 0) (gI ((qbq (.own 0 xs.length::cl)) 2).cells 1) (gI ((qbq (.own 0 xs.length::cl)) 2).cells 2) (gI ((qbq (.own 0 xs.length::cl)) 2).cells 3) (arL ((M1 4 xs).s 0))).trans h4)
theorem qbue:qth Tryz.prog 179 4 (qfl q7g):=by
 have h:=q8k FU
 rw[<-q8j]at h
 exact h
def S49_:Shp:=⟨[(3,.one (.ptr 0 0)),(7,.one (.own 1)),(23,.one (.l (.sl 8))),(24,.one (.l (.i .i64))),(25,.one (.l (.i .i64)))],[.box true (lk qe),.arr true 8]⟩
def qy0 (Av:Bool)(Aw Ax Ay:Int)(K:Ex->Env->Mem->Option (List AV)):=(fun z_a1=>K (.exit 0) (qk [(3,(.ptr 0 0)),(7,(.own 1 z_a1.length))]) (qh [(some (.box true (qc Av Aw Ax Ay))),(some (.arr true 8 z_a1))]))
def qj4 (v23:LA)(v24 v25:Int)(Av:Bool)(Aw Ax Ay:Int)(a1:LA)(next:Int->(List AV)->Option (List AV))(kx0:(List AV)->Option (List AV)):Option (List AV):=
 (bif(decide (v25<v24))then(oB (ixB v23 v25) fun y1=>(bif fitC qb y1.cells then(oB (qu5 (gB y1.cells 0) (gI y1.cells 1) (gI y1.cells 2) (gI y1.cells 3) Av Aw Ax Ay) fun r2=>(bif r2 then(bif hd a1 a1.length then(bif hd ([(.agg [(.bool (gB y1.cells 0)),(.int .u64 (gI y1.cells 1)),(.int .u64 (gI y1.cells 2)),(.int .i64 (gI y1.cells 3)),(.int .i64 (gI y1.cells 4)),(.str (gS y1.cells 5)),(.str (gS y1.cells 6)),(.int .i64 (gI y1.cells 7))])]:List AV) (([(.agg [(.bool (gB y1.cells 0)),(.int .u64 (gI y1.cells 1)),(.int .u64 (gI y1.cells 2)),(.int .i64 (gI y1.cells 3)),(.int .i64 (gI y1.cells 4)),(.str (gS y1.cells 5)),(.str (gS y1.cells 6)),(.int .i64 (gI y1.cells 7))])]:List AV).length)then(bif decide ((a1.length+([(.agg [(.bool (gB y1.cells 0)),(.int .u64 (gI y1.cells 1)),(.int .u64 (gI y1.cells 2)),(.int .i64 (gI y1.cells 3)),(.int .i64 (gI y1.cells 4)),(.str (gS y1.cells 5)),(.str (gS y1.cells 6)),(.int .i64 (gI y1.cells 7))])]:List AV).length)*80<=140737488355328)then(next (IntKind.i64.wrap (v25+1)) (a1++([(.agg [(.bool (gB y1.cells 0)),(.int .u64 (gI y1.cells 1)),(.int .u64 (gI y1.cells 2)),(.int .i64 (gI y1.cells 3)),(.int .i64 (gI y1.cells 4)),(.str (gS y1.cells 5)),(.str (gS y1.cells 6)),(.int .i64 (gI y1.cells 7))])]:List AV)))else none)else none)else none)else(next (IntKind.i64.wrap (v25+1)) a1)))else none))else(kx0 a1))
def qj5 (v23:LA)(v24:Int)(Av:Bool)(Aw Ax Ay:Int)(kx0:(List AV)->Option (List AV)):Nat->Int->(List AV)->Option (List AV)
 |0=>(fun _ _=>none)
 |n+1=>(fun v25 a1=>qj4 v23 v24 v25 Av Aw Ax Ay a1 (qj5 v23 v24 Av Aw Ax Ay kx0 n) kx0)
def qxs:=hull (qj5)
theorem qbgd:qxs=qj5:=qa _
def qbkc:SubB Tryz.prog (TIof Tryz.prog) 41 0 (kret [.t 4] (decF true 4)):=lpB tabOk follows Tryz.f154 151 (.s .z (.s (.s .z (.v [.sel [3,7] [0,1]])) (.s (.b (.s (.r [(0,.p (.etac 27 qb))] []) (.s (.r [(3,.c q14.b)] []) .z))) (.v [.sel [3,7,23,24,25] [0,1]])))) S49_ (qj5) (fun f v K n=>f (v.l 92 0) (v.i 96 0) (v.b 3 0) (v.i 3 1) (v.i 3 2) (v.i 3 3) (qy0 (v.b 3 0) (v.i 3 1) (v.i 3 2) (v.i 3 3) K) n) (fun v f K=>qj4 (v.l 92 0) (v.i 96 0) (v.i 100 0) (v.b 3 0) (v.i 3 1) (v.i 3 2) (v.i 3 3) (v.r 1) f (qy0 (v.b 3 0) (v.i 3 1) (v.i 3 2) (v.i 3 3) K)) (fun f v=>f (v.i 100 0) (v.r 1)) (fun k v=>(fun z0 z1=>k ((v.ui 100 0 z0).ur 1 z1)))
def qvu (v0:LA)(B7:Bool)(B8 B9 Ca:Int):Option (List AV):=
 (oB (qqv v0 B7 B8 B9 Ca) fun r1=>(bif((!r1.2)||((gI r1.1.cells 4) != (1:Int)))then(bif hd ([]:List AV) (([]:List AV).length)then(some ([]:List AV))else none)else(bif(hd ([]:List AV) (([]:List AV).length)&&true)then(qxs v0 (v0.length:Int) B7 B8 B9 Ca (fun a1q2=>(bif hd a1q2 a1q2.length then(oB (bif(hd ([]:List AV) (([]:List AV).length)&&true)then(q7g ([]:List AV) a1q2 B7 B8 B9 Ca)else none) fun r3=>(bif hd r3 r3.length then(some r3)else none))else none)) FU (0:Int) ([]:List AV))else none)))
def q0j:=hull qvu
theorem qbre:q0j=qvu:=qa _
def qbuf {R:Type}:EntF Tryz.prog R:=entB (nt:=41) (dec:=(decF true 4)) (enc:=(AV.fr true 4)) tabOk follows Tryz.func154 [.t 4] hdeF (.s .z (.s (.s (.r [(2,.c qvs.b)] []) (.s (.r [(3,.g 3)] []) (.s (.s .z (.v [.own 4 4])) .z))) (.s .z (.s (.s .z (.b (.sub [.own 7 8,.sel [3,7,23,24,25] [0,2]] qbkc []))) (.s (.r [(2,.s (.snap 38)),(2,.r (rB (qbtd qbue)))] []) .z))))) S16_ qvu (fun f v=>f (v.l 0 0) (v.b 5 0) (v.i 5 1) (v.i 5 2) (v.i 5 3))
def S50_:Shp:=⟨[(0,.one (.l (.i .i64))),(1,.one (.l (.i .i64)))],[]⟩
def qll (v0 v1:Int):Option Bool:=
 (some (decide (v0<v1)))
def q2q:=hull qll
theorem qbaz:q2q=qll:=qa _
def qbd5 {R:Type}:EntF Tryz.prog R:=entB (nt:=8) (dec:=decB) (enc:=AV.bool) tabOk follows Tryz.func152 [.t 4] hdeB (.z) S50_ qll (fun f v=>f (v.i 0 0) (v.i 4 0))
def S51_:Shp:=⟨[(1,.one (.l (.i .i64))),(2,.one (.fn 152 [])),(6,.one (.ptr 0 0)),(8,.one (.ptr 1 0)),(9,.one (.l .b)),(11,.one (.ptr 2 0)),(13,.one (.l (.sl 4))),(14,.one (.l (.i .i64))),(15,.one (.l (.i .i64)))],[.box true (lk qe),.box true (lk qe),.box true (lk qe)]⟩
def S52_:Shp:=⟨[(1,.one (.l (.i .i64))),(2,.one (.fn 152 [])),(6,.one (.ptr 0 0)),(8,.one (.ptr 1 0)),(9,.one (.l .b)),(13,.one (.l (.sl 4))),(14,.one (.l (.i .i64))),(15,.one (.l (.i .i64)))],[.box true (lk qe),.box true (lk qe)]⟩
def S53_:Shp:=⟨[(0,.one (.l (.sl 4))),(1,.one (.l (.i .i64))),(2,.one (.fn 152 []))],[]⟩
def qeo:AV->Option (AV×Bool):=decN [(.st [.b,(.i .u64),(.i .u64),(.i .i64)]),(.one .b)] fun z=>((gC (tpL z) 0),aB (gC (tpL z) 1))
def qqj (v1:Int)(v9:Bool)(v13:LA)(v14 v15:Int)(Av:Bool)(Aw Ax Ay:Int)(Ad:Bool)(Ae Af Ag:Int)(Au:Bool)(Bc Bd Be:Int)(K:Ex->Env->Mem->Option (AV×Bool)):=(fun z_v34=>K .norm (qk [(1,(.int .i64 v1)),(2,(.func 152 [])),(6,(.ptr 0 0)),(8,(.ptr 1 0)),(9,(.bool v9)),(11,(.ptr 2 0)),(13,(.sl 4 v13)),(14,(.int .i64 v14)),(15,(.int .i64 v15)),(34,(.bool z_v34))]) (qh [(some (.box true (qc Av Aw Ax Ay))),(some (.box true (qc Ad Ae Af Ag))),(some (.box true (qc Au Bc Bd Be)))]))
def qcy (v1:Int)(v9:Bool)(v13:LA)(v14 v15:Int)(Av:Bool)(Aw Ax Ay:Int)(Ad:Bool)(Ae Af Ag:Int)(Au:Bool)(Bc Bd Be:Int)(kn:Bool->Option (AV×Bool)):Option (AV×Bool):=
 (bif(decide (Be<=v1))then(bif(!v9)then(kn true)else(oB (q2q Be Ag) fun r1=>(kn r1)))else(kn false))
def qiz:=hull (qcy)
theorem qqk:qiz=qcy:=qa _
def qq4:SubB Tryz.prog (TIof Tryz.prog) 39 0 (kret [(.cell 6 true 4),.t 7] qeo):=jnB tabOk follows Tryz.f153 5323 (.r [(13,.c qbd5.b)] [.sel [1,2,6,8,9,11,13,14,15,34] [0,1,2]]) S51_ (qcy) (fun f v K=>f (v.i 4 0) (v.b 36 0) (v.l 52 0) (v.i 56 0) (v.i 60 0) (v.b 3 0) (v.i 3 1) (v.i 3 2) (v.i 3 3) (v.b 7 0) (v.i 7 1) (v.i 7 2) (v.i 7 3) (v.b 11 0) (v.i 11 1) (v.i 11 2) (v.i 11 3) (qqj (v.i 4 0) (v.b 36 0) (v.l 52 0) (v.i 56 0) (v.i 60 0) (v.b 3 0) (v.i 3 1) (v.i 3 2) (v.i 3 3) (v.b 7 0) (v.i 7 1) (v.i 7 2) (v.i 7 3) (v.b 11 0) (v.i 11 1) (v.i 11 2) (v.i 11 3) K))
def qhk (Av:Bool)(Aw Ax Ay:Int)(K:Ex->Env->Mem->Option (AV×Bool)):=(fun z_v9 z_b1_0 z_b1_1 z_b1_2 z_b1_3=>K (.exit 0) (qk [(6,(.ptr 0 0)),(8,(.ptr 1 0)),(9,(.bool z_v9))]) (qh [(some (.box true (qc Av Aw Ax Ay))),(some (.box true (qc z_b1_0 z_b1_1 z_b1_2 z_b1_3)))]))
def qca (v1:Int)(v9:Bool)(v13:LA)(v14 v15:Int)(Av:Bool)(Aw Ax Ay:Int)(Ad:Bool)(Ae Af Ag:Int)(next:Bool->Int->Bool->Int->Int->Int->Option (AV×Bool))(kx0:Bool->Bool->Int->Int->Int->Option (AV×Bool)):Option (AV×Bool):=
 (bif(decide (v15<v14))then(oB (ixB v13 v15) fun y1=>(bif fitC qe y1.cells then(qiz v1 v9 v13 v14 v15 Av Aw Ax Ay Ad Ae Af Ag (gB y1.cells 0) (gI y1.cells 1) (gI y1.cells 2) (gI y1.cells 3) (fun v34q2=>(bif v34q2 then(next true (IntKind.i64.wrap (v15+1)) (gB y1.cells 0) (gI y1.cells 1) (gI y1.cells 2) (gI y1.cells 3))else(next v9 (IntKind.i64.wrap (v15+1)) Ad Ae Af Ag))))else none))else(kx0 v9 Ad Ae Af Ag))
def qcb (v1:Int)(v13:LA)(v14:Int)(Av:Bool)(Aw Ax Ay:Int)(kx0:Bool->Bool->Int->Int->Int->Option (AV×Bool)):Nat->Bool->Int->Bool->Int->Int->Int->Option (AV×Bool)
 |0=>(fun _ _ _ _ _ _=>none)
 |n+1=>(fun v9 v15 Ad Ae Af Ag=>qca v1 v9 v13 v14 v15 Av Aw Ax Ay Ad Ae Af Ag (qcb v1 v13 v14 Av Aw Ax Ay kx0 n) kx0)
def qjj:=hull (qcb)
theorem qq5:qjj=qcb:=qa _
def qso:SubB Tryz.prog (TIof Tryz.prog) 39 0 (kret [(.cell 6 true 4),.t 7] qeo):=lpB tabOk follows Tryz.f153 75 (.s .z (.s (.s .z (.v [.sel [6,8,9] [0,1]])) (.s (.b (.s (.r [(0,.p (.etac 17 qe))] []) (.s (.sub [.sel [1,2,6,8,9,11,13,14,15] [0,1,2]] qq4 []) .z))) (.v [.sel [1,2,6,8,9,13,14,15] [0,1]])))) S52_ (qcb) (fun f v K n=>f (v.i 4 0) (v.l 52 0) (v.i 56 0) (v.b 3 0) (v.i 3 1) (v.i 3 2) (v.i 3 3) (qhk (v.b 3 0) (v.i 3 1) (v.i 3 2) (v.i 3 3) K) n) (fun v f K=>qca (v.i 4 0) (v.b 36 0) (v.l 52 0) (v.i 56 0) (v.i 60 0) (v.b 3 0) (v.i 3 1) (v.i 3 2) (v.i 3 3) (v.b 7 0) (v.i 7 1) (v.i 7 2) (v.i 7 3) f (qhk (v.b 3 0) (v.i 3 1) (v.i 3 2) (v.i 3 3) K)) (fun f v=>f (v.b 36 0) (v.i 60 0) (v.b 7 0) (v.i 7 1) (v.i 7 2) (v.i 7 3)) (fun k v=>(fun z0 z1 z2 z3 z4 z5=>k ((((((v.ub 36 0 z0).ui 60 0 z1).ub 7 0 z2).ui 7 1 z3).ui 7 2 z4).ui 7 3 z5)))
def qdq (v0:LA)(v1:Int):Option (AV×Bool):=
 (qjj v1 v0 (v0.length:Int) false (0:Int) (0:Int) (0:Int) (fun v9q1 b1_0q2 b1_1q3 b1_2q4 b1_3q5=>(some ((.agg [(.bool b1_0q2),(.int .u64 b1_1q3),(.int .u64 b1_2q4),(.int .i64 b1_3q5)]),v9q1))) FU false (0:Int) false (0:Int) (0:Int) (0:Int))
def qfo:=hull qdq
theorem qtw:qfo=qdq:=qa _
def qj6 {R:Type}:EntF Tryz.prog R:=entB (nt:=39) (dec:=qeo) (enc:=(fun r=>.tup [qcl (.st [.b,(.i .u64),(.i .u64),(.i .i64)]) r.1,.bool r.2])) tabOk follows Tryz.func153 [(.cell 6 true 4),.t 7] (hdeN fun _=>rfl) (.s .z (.s .z (.s (.s .z (.b (.sub [.sel [1,2,6,8,9,13,14,15] [0,1]] qso []))) .z))) S53_ qdq (fun f v=>f (v.l 0 0) (v.i 4 0))
def qlm (v0 v1:Int):Option Bool:=
 (some (decide (v0>v1)))
def q2r:=hull qlm
theorem qba0:q2r=qlm:=qa _
def qbd6 {R:Type}:EntF Tryz.prog R:=entB (nt:=8) (dec:=decB) (enc:=AV.bool) tabOk follows Tryz.func151 [.t 4] hdeB (.z) S50_ qlm (fun f v=>f (v.i 0 0) (v.i 4 0))
def S54_:Shp:=⟨[(1,.one (.l (.i .i64))),(2,.one (.fn 151 [])),(6,.one (.ptr 0 0)),(8,.one (.ptr 1 0)),(9,.one (.l .b)),(11,.one (.ptr 2 0)),(13,.one (.l (.sl 4))),(14,.one (.l (.i .i64))),(15,.one (.l (.i .i64)))],[.box true (lk qe),.box true (lk qe),.box true (lk qe)]⟩
def S55_:Shp:=⟨[(1,.one (.l (.i .i64))),(2,.one (.fn 151 [])),(6,.one (.ptr 0 0)),(8,.one (.ptr 1 0)),(9,.one (.l .b)),(13,.one (.l (.sl 4))),(14,.one (.l (.i .i64))),(15,.one (.l (.i .i64)))],[.box true (lk qe),.box true (lk qe)]⟩
def S56_:Shp:=⟨[(0,.one (.l (.sl 4))),(1,.one (.l (.i .i64))),(2,.one (.fn 151 []))],[]⟩
def qep:AV->Option (AV×Bool):=decN [(.st [.b,(.i .u64),(.i .u64),(.i .i64)]),(.one .b)] fun z=>((gC (tpL z) 0),aB (gC (tpL z) 1))
def qql (v1:Int)(v9:Bool)(v13:LA)(v14 v15:Int)(Av:Bool)(Aw Ax Ay:Int)(Ad:Bool)(Ae Af Ag:Int)(Au:Bool)(Bc Bd Be:Int)(K:Ex->Env->Mem->Option (AV×Bool)):=(fun z_v34=>K .norm (qk [(1,(.int .i64 v1)),(2,(.func 151 [])),(6,(.ptr 0 0)),(8,(.ptr 1 0)),(9,(.bool v9)),(11,(.ptr 2 0)),(13,(.sl 4 v13)),(14,(.int .i64 v14)),(15,(.int .i64 v15)),(34,(.bool z_v34))]) (qh [(some (.box true (qc Av Aw Ax Ay))),(some (.box true (qc Ad Ae Af Ag))),(some (.box true (qc Au Bc Bd Be)))]))
def qcz (v1:Int)(v9:Bool)(v13:LA)(v14 v15:Int)(Av:Bool)(Aw Ax Ay:Int)(Ad:Bool)(Ae Af Ag:Int)(Au:Bool)(Bc Bd Be:Int)(kn:Bool->Option (AV×Bool)):Option (AV×Bool):=
 (bif(decide (Be<=v1))then(bif(!v9)then(kn true)else(oB (q2r Be Ag) fun r1=>(kn r1)))else(kn false))
def qi0:=hull (qcz)
theorem qqm:qi0=qcz:=qa _
def qq6:SubB Tryz.prog (TIof Tryz.prog) 39 0 (kret [(.cell 6 true 4),.t 7] qep):=jnB tabOk follows Tryz.f153 5323 (.r [(13,.c qbd6.b)] [.sel [1,2,6,8,9,11,13,14,15,34] [0,1,2]]) S54_ (qcz) (fun f v K=>f (v.i 4 0) (v.b 36 0) (v.l 52 0) (v.i 56 0) (v.i 60 0) (v.b 3 0) (v.i 3 1) (v.i 3 2) (v.i 3 3) (v.b 7 0) (v.i 7 1) (v.i 7 2) (v.i 7 3) (v.b 11 0) (v.i 11 1) (v.i 11 2) (v.i 11 3) (qql (v.i 4 0) (v.b 36 0) (v.l 52 0) (v.i 56 0) (v.i 60 0) (v.b 3 0) (v.i 3 1) (v.i 3 2) (v.i 3 3) (v.b 7 0) (v.i 7 1) (v.i 7 2) (v.i 7 3) (v.b 11 0) (v.i 11 1) (v.i 11 2) (v.i 11 3) K))
def qhl (Av:Bool)(Aw Ax Ay:Int)(K:Ex->Env->Mem->Option (AV×Bool)):=(fun z_v9 z_b1_0 z_b1_1 z_b1_2 z_b1_3=>K (.exit 0) (qk [(6,(.ptr 0 0)),(8,(.ptr 1 0)),(9,(.bool z_v9))]) (qh [(some (.box true (qc Av Aw Ax Ay))),(some (.box true (qc z_b1_0 z_b1_1 z_b1_2 z_b1_3)))]))
def qcc (v1:Int)(v9:Bool)(v13:LA)(v14 v15:Int)(Av:Bool)(Aw Ax Ay:Int)(Ad:Bool)(Ae Af Ag:Int)(next:Bool->Int->Bool->Int->Int->Int->Option (AV×Bool))(kx0:Bool->Bool->Int->Int->Int->Option (AV×Bool)):Option (AV×Bool):=
 (bif(decide (v15<v14))then(oB (ixB v13 v15) fun y1=>(bif fitC qe y1.cells then(qi0 v1 v9 v13 v14 v15 Av Aw Ax Ay Ad Ae Af Ag (gB y1.cells 0) (gI y1.cells 1) (gI y1.cells 2) (gI y1.cells 3) (fun v34q2=>(bif v34q2 then(next true (IntKind.i64.wrap (v15+1)) (gB y1.cells 0) (gI y1.cells 1) (gI y1.cells 2) (gI y1.cells 3))else(next v9 (IntKind.i64.wrap (v15+1)) Ad Ae Af Ag))))else none))else(kx0 v9 Ad Ae Af Ag))
def qcd (v1:Int)(v13:LA)(v14:Int)(Av:Bool)(Aw Ax Ay:Int)(kx0:Bool->Bool->Int->Int->Int->Option (AV×Bool)):Nat->Bool->Int->Bool->Int->Int->Int->Option (AV×Bool)
 |0=>(fun _ _ _ _ _ _=>none)
 |n+1=>(fun v9 v15 Ad Ae Af Ag=>qcc v1 v9 v13 v14 v15 Av Aw Ax Ay Ad Ae Af Ag (qcd v1 v13 v14 Av Aw Ax Ay kx0 n) kx0)
def qjk:=hull (qcd)
theorem qq7:qjk=qcd:=qa _
def qsp:SubB Tryz.prog (TIof Tryz.prog) 39 0 (kret [(.cell 6 true 4),.t 7] qep):=lpB tabOk follows Tryz.f153 75 (.s .z (.s (.s .z (.v [.sel [6,8,9] [0,1]])) (.s (.b (.s (.r [(0,.p (.etac 17 qe))] []) (.s (.sub [.sel [1,2,6,8,9,11,13,14,15] [0,1,2]] qq6 []) .z))) (.v [.sel [1,2,6,8,9,13,14,15] [0,1]])))) S55_ (qcd) (fun f v K n=>f (v.i 4 0) (v.l 52 0) (v.i 56 0) (v.b 3 0) (v.i 3 1) (v.i 3 2) (v.i 3 3) (qhl (v.b 3 0) (v.i 3 1) (v.i 3 2) (v.i 3 3) K) n) (fun v f K=>qcc (v.i 4 0) (v.b 36 0) (v.l 52 0) (v.i 56 0) (v.i 60 0) (v.b 3 0) (v.i 3 1) (v.i 3 2) (v.i 3 3) (v.b 7 0) (v.i 7 1) (v.i 7 2) (v.i 7 3) f (qhl (v.b 3 0) (v.i 3 1) (v.i 3 2) (v.i 3 3) K)) (fun f v=>f (v.b 36 0) (v.i 60 0) (v.b 7 0) (v.i 7 1) (v.i 7 2) (v.i 7 3)) (fun k v=>(fun z0 z1 z2 z3 z4 z5=>k ((((((v.ub 36 0 z0).ui 60 0 z1).ub 7 0 z2).ui 7 1 z3).ui 7 2 z4).ui 7 3 z5)))
def qdr (v0:LA)(v1:Int):Option (AV×Bool):=
 (qjk v1 v0 (v0.length:Int) false (0:Int) (0:Int) (0:Int) (fun v9q1 b1_0q2 b1_1q3 b1_2q4 b1_3q5=>(some ((.agg [(.bool b1_0q2),(.int .u64 b1_1q3),(.int .u64 b1_2q4),(.int .i64 b1_3q5)]),v9q1))) FU false (0:Int) false (0:Int) (0:Int) (0:Int))
def qfp:=hull qdr
theorem qtx:qfp=qdr:=qa _
def qj7 {R:Type}:EntF Tryz.prog R:=entB (nt:=39) (dec:=qep) (enc:=(fun r=>.tup [qcl (.st [.b,(.i .u64),(.i .u64),(.i .i64)]) r.1,.bool r.2])) tabOk follows Tryz.func153 [(.cell 6 true 4),.t 7] (hdeN fun _=>rfl) (.s .z (.s .z (.s (.s .z (.b (.sub [.sel [1,2,6,8,9,13,14,15] [0,1]] qsp []))) .z))) S56_ qdr (fun f v=>f (v.l 0 0) (v.i 4 0))
def qln (v0 v1:Int):Option Bool:=
 (some false)
def q2s:=hull qln
theorem qba1:q2s=qln:=qa _
def qbd7 {R:Type}:EntF Tryz.prog R:=entB (nt:=5) (dec:=decB) (enc:=AV.bool) tabOk follows Tryz.func150 [.t 4] hdeB (.z) S50_ qln (fun f v=>f (v.i 0 0) (v.i 4 0))
def S57_:Shp:=⟨[(1,.one (.l (.i .i64))),(2,.one (.fn 150 [])),(6,.one (.ptr 0 0)),(8,.one (.ptr 1 0)),(9,.one (.l .b)),(11,.one (.ptr 2 0)),(13,.one (.l (.sl 4))),(14,.one (.l (.i .i64))),(15,.one (.l (.i .i64)))],[.box true (lk qe),.box true (lk qe),.box true (lk qe)]⟩
def S58_:Shp:=⟨[(1,.one (.l (.i .i64))),(2,.one (.fn 150 [])),(6,.one (.ptr 0 0)),(8,.one (.ptr 1 0)),(9,.one (.l .b)),(13,.one (.l (.sl 4))),(14,.one (.l (.i .i64))),(15,.one (.l (.i .i64)))],[.box true (lk qe),.box true (lk qe)]⟩
def S59_:Shp:=⟨[(0,.one (.l (.sl 4))),(1,.one (.l (.i .i64))),(2,.one (.fn 150 []))],[]⟩
def qeq:AV->Option (AV×Bool):=decN [(.st [.b,(.i .u64),(.i .u64),(.i .i64)]),(.one .b)] fun z=>((gC (tpL z) 0),aB (gC (tpL z) 1))
def qqn (v1:Int)(v9:Bool)(v13:LA)(v14 v15:Int)(Av:Bool)(Aw Ax Ay:Int)(Ad:Bool)(Ae Af Ag:Int)(Au:Bool)(Bc Bd Be:Int)(K:Ex->Env->Mem->Option (AV×Bool)):=(fun z_v34=>K .norm (qk [(1,(.int .i64 v1)),(2,(.func 150 [])),(6,(.ptr 0 0)),(8,(.ptr 1 0)),(9,(.bool v9)),(11,(.ptr 2 0)),(13,(.sl 4 v13)),(14,(.int .i64 v14)),(15,(.int .i64 v15)),(34,(.bool z_v34))]) (qh [(some (.box true (qc Av Aw Ax Ay))),(some (.box true (qc Ad Ae Af Ag))),(some (.box true (qc Au Bc Bd Be)))]))
def qc0 (v1:Int)(v9:Bool)(v13:LA)(v14 v15:Int)(Av:Bool)(Aw Ax Ay:Int)(Ad:Bool)(Ae Af Ag:Int)(Au:Bool)(Bc Bd Be:Int)(kn:Bool->Option (AV×Bool)):Option (AV×Bool):=
 (bif(decide (Be<=v1))then(bif(!v9)then(kn true)else(oB (q2s Be Ag) fun r1=>(kn r1)))else(kn false))
def qi1:=hull (qc0)
theorem qqo:qi1=qc0:=qa _
def qq8:SubB Tryz.prog (TIof Tryz.prog) 39 0 (kret [(.cell 6 true 4),.t 7] qeq):=jnB tabOk follows Tryz.f153 5323 (.r [(13,.c qbd7.b)] [.sel [1,2,6,8,9,11,13,14,15,34] [0,1,2]]) S57_ (qc0) (fun f v K=>f (v.i 4 0) (v.b 36 0) (v.l 52 0) (v.i 56 0) (v.i 60 0) (v.b 3 0) (v.i 3 1) (v.i 3 2) (v.i 3 3) (v.b 7 0) (v.i 7 1) (v.i 7 2) (v.i 7 3) (v.b 11 0) (v.i 11 1) (v.i 11 2) (v.i 11 3) (qqn (v.i 4 0) (v.b 36 0) (v.l 52 0) (v.i 56 0) (v.i 60 0) (v.b 3 0) (v.i 3 1) (v.i 3 2) (v.i 3 3) (v.b 7 0) (v.i 7 1) (v.i 7 2) (v.i 7 3) (v.b 11 0) (v.i 11 1) (v.i 11 2) (v.i 11 3) K))
def qhm (Av:Bool)(Aw Ax Ay:Int)(K:Ex->Env->Mem->Option (AV×Bool)):=(fun z_v9 z_b1_0 z_b1_1 z_b1_2 z_b1_3=>K (.exit 0) (qk [(6,(.ptr 0 0)),(8,(.ptr 1 0)),(9,(.bool z_v9))]) (qh [(some (.box true (qc Av Aw Ax Ay))),(some (.box true (qc z_b1_0 z_b1_1 z_b1_2 z_b1_3)))]))
def qce (v1:Int)(v9:Bool)(v13:LA)(v14 v15:Int)(Av:Bool)(Aw Ax Ay:Int)(Ad:Bool)(Ae Af Ag:Int)(next:Bool->Int->Bool->Int->Int->Int->Option (AV×Bool))(kx0:Bool->Bool->Int->Int->Int->Option (AV×Bool)):Option (AV×Bool):=
 (bif(decide (v15<v14))then(oB (ixB v13 v15) fun y1=>(bif fitC qe y1.cells then(qi1 v1 v9 v13 v14 v15 Av Aw Ax Ay Ad Ae Af Ag (gB y1.cells 0) (gI y1.cells 1) (gI y1.cells 2) (gI y1.cells 3) (fun v34q2=>(bif v34q2 then(next true (IntKind.i64.wrap (v15+1)) (gB y1.cells 0) (gI y1.cells 1) (gI y1.cells 2) (gI y1.cells 3))else(next v9 (IntKind.i64.wrap (v15+1)) Ad Ae Af Ag))))else none))else(kx0 v9 Ad Ae Af Ag))
def qcf (v1:Int)(v13:LA)(v14:Int)(Av:Bool)(Aw Ax Ay:Int)(kx0:Bool->Bool->Int->Int->Int->Option (AV×Bool)):Nat->Bool->Int->Bool->Int->Int->Int->Option (AV×Bool)
 |0=>(fun _ _ _ _ _ _=>none)
 |n+1=>(fun v9 v15 Ad Ae Af Ag=>qce v1 v9 v13 v14 v15 Av Aw Ax Ay Ad Ae Af Ag (qcf v1 v13 v14 Av Aw Ax Ay kx0 n) kx0)
def qjl:=hull (qcf)
theorem qq9:qjl=qcf:=qa _
def qsq:SubB Tryz.prog (TIof Tryz.prog) 39 0 (kret [(.cell 6 true 4),.t 7] qeq):=lpB tabOk follows Tryz.f153 75 (.s .z (.s (.s .z (.v [.sel [6,8,9] [0,1]])) (.s (.b (.s (.r [(0,.p (.etac 17 qe))] []) (.s (.sub [.sel [1,2,6,8,9,11,13,14,15] [0,1,2]] qq8 []) .z))) (.v [.sel [1,2,6,8,9,13,14,15] [0,1]])))) S58_ (qcf) (fun f v K n=>f (v.i 4 0) (v.l 52 0) (v.i 56 0) (v.b 3 0) (v.i 3 1) (v.i 3 2) (v.i 3 3) (qhm (v.b 3 0) (v.i 3 1) (v.i 3 2) (v.i 3 3) K) n) (fun v f K=>qce (v.i 4 0) (v.b 36 0) (v.l 52 0) (v.i 56 0) (v.i 60 0) (v.b 3 0) (v.i 3 1) (v.i 3 2) (v.i 3 3) (v.b 7 0) (v.i 7 1) (v.i 7 2) (v.i 7 3) f (qhm (v.b 3 0) (v.i 3 1) (v.i 3 2) (v.i 3 3) K)) (fun f v=>f (v.b 36 0) (v.i 60 0) (v.b 7 0) (v.i 7 1) (v.i 7 2) (v.i 7 3)) (fun k v=>(fun z0 z1 z2 z3 z4 z5=>k ((((((v.ub 36 0 z0).ui 60 0 z1).ub 7 0 z2).ui 7 1 z3).ui 7 2 z4).ui 7 3 z5)))
def qds (v0:LA)(v1:Int):Option (AV×Bool):=
 (qjl v1 v0 (v0.length:Int) false (0:Int) (0:Int) (0:Int) (fun v9q1 b1_0q2 b1_1q3 b1_2q4 b1_3q5=>(some ((.agg [(.bool b1_0q2),(.int .u64 b1_1q3),(.int .u64 b1_2q4),(.int .i64 b1_3q5)]),v9q1))) FU false (0:Int) false (0:Int) (0:Int) (0:Int))
def qfq:=hull qds
theorem qty:qfq=qds:=qa _
def qj8 {R:Type}:EntF Tryz.prog R:=entB (nt:=39) (dec:=qeq) (enc:=(fun r=>.tup [qcl (.st [.b,(.i .u64),(.i .u64),(.i .i64)]) r.1,.bool r.2])) tabOk follows Tryz.func153 [(.cell 6 true 4),.t 7] (hdeN fun _=>rfl) (.s .z (.s .z (.s (.s .z (.b (.sub [.sel [1,2,6,8,9,13,14,15] [0,1]] qsq []))) .z))) S59_ qds (fun f v=>f (v.l 0 0) (v.i 4 0))
def q5s {R:Type}:List AV->(AV->Option R)->Option R:=(fun xs K=>bif fnAt xs 2 152 then qj6.e xs K else(fun xs K=>bif fnAt xs 2 151 then qj7.e xs K else qj8.e xs K) xs K)
theorem q8l {R:Type}:qdo Tryz.prog 153 (q5s (R:=R)):=(qbyt (fun xs=>fnAt xs 2 152) qj6.h (qbyt (fun xs=>fnAt xs 2 151) qj7.h qj8.h))
def S60_:Shp:=⟨[(0,.one (.l (.sl 8))),(1,.st (lk qe)),(2,.one (.l (.i .i64))),(3,.one (.l (.i .i64)))],[]⟩
def qbd8:AV->Option (AV×Int):=decN [(.st [.b,(.i .u64),(.i .u64),(.i .i64)]),(.one (.i .i64))] fun z=>((gC (tpL z) 0),aI (gC (tpL z) 1))
def qnv (v0:LA)(B7:Bool)(B8 B9 Ca v2 v3:Int):Option (AV×Int):=
 (oB (qqv v0 B7 B8 B9 Ca) fun r1=>(bif(!r1.2)then(some ((.agg [(.bool false),(.int .u64 (0:Int)),(.int .u64 (0:Int)),(.int .i64 (0:Int))]),(11:Int)))else(bif((gI r1.1.cells 4) != (1:Int))then(some ((.agg [(.bool false),(.int .u64 (0:Int)),(.int .u64 (0:Int)),(.int .i64 (0:Int))]),(21:Int)))else(bif(decide (v2<Ca))then(some ((.agg [(.bool false),(.int .u64 (0:Int)),(.int .u64 (0:Int)),(.int .i64 (0:Int))]),(1:Int)))else(oB (qxp B7 B8 B9 Ca) fun r2=>(bif(((decide (v2>r2))||(decide (v3<1)))||(decide (v3>3)))then(some ((.agg [(.bool false),(.int .u64 (0:Int)),(.int .u64 (0:Int)),(.int .i64 (0:Int))]),(1:Int)))else(oB (q0j v0 B7 B8 B9 Ca) fun r6=>(bif((v3==1)&&true)then(oB (qfq r6 v2) fun r9=>(bif(!r9.2)then(some ((.agg [(.bool false),(.int .u64 (0:Int)),(.int .u64 (0:Int)),(.int .i64 (0:Int))]),(22:Int)))else(bif((v3==3)&&(decide ((gI r9.1.cells 3)<v2)))then(oB (qjz (gB r9.1.cells 0) (gI r9.1.cells 1) (gI r9.1.cells 2) (gI r9.1.cells 3)) fun r16=>(oB (qed (gB r16.2.1.cells 0) (gI r16.2.1.cells 1) (gI r16.2.1.cells 2) (gI r16.2.1.cells 3) v2 (0:Int)) fun r17=>(some ((.agg [(.bool (gB r17.1.cells 0)),(.int .u64 (gI r17.1.cells 1)),(.int .u64 (gI r17.1.cells 2)),(.int .i64 (gI r17.1.cells 3))]),(0:Int)))))else(oB (qed (gB r9.1.cells 0) (gI r9.1.cells 1) (gI r9.1.cells 2) (gI r9.1.cells 3) v2 (0:Int)) fun r18=>(some ((.agg [(.bool (gB r18.1.cells 0)),(.int .u64 (gI r18.1.cells 1)),(.int .u64 (gI r18.1.cells 2)),(.int .i64 (gI r18.1.cells 3))]),(0:Int)))))))else(bif((v3==2)&&true)then(oB (qfp r6 v2) fun r8=>(bif(!r8.2)then(some ((.agg [(.bool false),(.int .u64 (0:Int)),(.int .u64 (0:Int)),(.int .i64 (0:Int))]),(22:Int)))else(bif((v3==3)&&(decide ((gI r8.1.cells 3)<v2)))then(oB (qjz (gB r8.1.cells 0) (gI r8.1.cells 1) (gI r8.1.cells 2) (gI r8.1.cells 3)) fun r13=>(oB (qed (gB r13.2.1.cells 0) (gI r13.2.1.cells 1) (gI r13.2.1.cells 2) (gI r13.2.1.cells 3) v2 (0:Int)) fun r14=>(some ((.agg [(.bool (gB r14.1.cells 0)),(.int .u64 (gI r14.1.cells 1)),(.int .u64 (gI r14.1.cells 2)),(.int .i64 (gI r14.1.cells 3))]),(0:Int)))))else(oB (qed (gB r8.1.cells 0) (gI r8.1.cells 1) (gI r8.1.cells 2) (gI r8.1.cells 3) v2 (0:Int)) fun r15=>(some ((.agg [(.bool (gB r15.1.cells 0)),(.int .u64 (gI r15.1.cells 1)),(.int .u64 (gI r15.1.cells 2)),(.int .i64 (gI r15.1.cells 3))]),(0:Int)))))))else(bif((v3==3)&&true)then(oB (qfo r6 v2) fun r7=>(bif(!r7.2)then(some ((.agg [(.bool false),(.int .u64 (0:Int)),(.int .u64 (0:Int)),(.int .i64 (0:Int))]),(22:Int)))else(bif((v3==3)&&(decide ((gI r7.1.cells 3)<v2)))then(oB (qjz (gB r7.1.cells 0) (gI r7.1.cells 1) (gI r7.1.cells 2) (gI r7.1.cells 3)) fun r10=>(oB (qed (gB r10.2.1.cells 0) (gI r10.2.1.cells 1) (gI r10.2.1.cells 2) (gI r10.2.1.cells 3) v2 (0:Int)) fun r11=>(some ((.agg [(.bool (gB r11.1.cells 0)),(.int .u64 (gI r11.1.cells 1)),(.int .u64 (gI r11.1.cells 2)),(.int .i64 (gI r11.1.cells 3))]),(0:Int)))))else(oB (qed (gB r7.1.cells 0) (gI r7.1.cells 1) (gI r7.1.cells 2) (gI r7.1.cells 3) v2 (0:Int)) fun r12=>(some ((.agg [(.bool (gB r12.1.cells 0)),(.int .u64 (gI r12.1.cells 1)),(.int .u64 (gI r12.1.cells 2)),(.int .i64 (gI r12.1.cells 3))]),(0:Int)))))))else none))))))))))
def qxt:=hull qnv
theorem qbge:qxt=qnv:=qa _
def qbkd {R:Type}:EntF Tryz.prog R:=entB (nt:=86) (dec:=qbd8) (enc:=(fun r=>.tup [qcl (.st [.b,(.i .u64),(.i .u64),(.i .i64)]) r.1,.int .i64 r.2])) tabOk follows Tryz.func98 [(.cell 8 true 4),.t 9] (hdeN fun _=>rfl) (.s .z (.s (.r [(2,.c qvs.b)] []) (.s (.b (.s .z (.s .z (.s .z (.s .z (.s (.r [(7,.c qbj5.b),(11,.g 2),(15,.g 2)] []) .z)))))) (.s .z (.s (.d [] [(2,.c qbuf.b),(7,.c (eB q8l))] [] []) (.s .z (.s (.s (.r [(3,.g 4)] []) (.s (.r [(1,.c qxq.b)] []) .z)) (.s (.r [(2,.c q19.b)] []) .z)))))))) S60_ qnv (fun f v=>f (v.l 0 0) (v.b 5 0) (v.i 5 1) (v.i 5 2) (v.i 5 3) (v.i 8 0) (v.i 12 0))
def S61_:Shp:=⟨[(0,.one (.l (.sl 8))),(1,.st (lk qe)),(2,.one (.l (.i .i64))),(3,.one (.l (.i .i64))),(4,.one (.l .s)),(5,.one (.l .s))],[]⟩
def q8m:AV->Option ((List AV)×AV×Int):=decN [(.one (.sl 8)),(.st [.b,(.i .u64),(.i .u64),(.i .i64)]),(.one (.i .i64))] fun z=>(aL (gC (tpL z) 0),(gC (tpL z) 1),aI (gC (tpL z) 2))
def qlo (v0:LA)(B7:Bool)(B8 B9 Ca v2 v3:Int)(v4 v5:LU):Option ((List AV)×AV×Int):=
 (oB (qxt v0 B7 B8 B9 Ca v2 v3) fun r1=>(bif(r1.2 != (0:Int))then(some (([]:List AV),(.agg [(.bool false),(.int .u64 (0:Int)),(.int .u64 (0:Int)),(.int .i64 (0:Int))]),r1.2))else(oB (q3e v0 (gB r1.1.cells 0) (gI r1.1.cells 1) (gI r1.1.cells 2) (gI r1.1.cells 3) (2:Int) v4 v5 (0:Int)) fun r2=>(bif(r2.2 != (0:Int))then(some (([]:List AV),(.agg [(.bool false),(.int .u64 (0:Int)),(.int .u64 (0:Int)),(.int .i64 (0:Int))]),r2.2))else(some (r2.1,(.agg [(.bool (gB r1.1.cells 0)),(.int .u64 (gI r1.1.cells 1)),(.int .u64 (gI r1.1.cells 2)),(.int .i64 (gI r1.1.cells 3))]),(0:Int)))))))
def qnw:=hull qlo
theorem qba2:qnw=qlo:=qa _
def qy1 {R:Type}:EntF Tryz.prog R:=entB (nt:=45) (dec:=q8m) (enc:=(fun r=>.tup [.sl 8 r.1,qcl (.st [.b,(.i .u64),(.i .u64),(.i .i64)]) r.2.1,.int .i64 r.2.2])) tabOk follows Tryz.func42 [.t 12,(.cell 13 true 4),.t 14] (hdeN fun _=>rfl) (.s .z (.s (.r [(4,.c qbkd.b)] []) (.s (.s .z (.s (.s .z (.v [.eta 12 (.one (.sl 8))])) .z)) (.s (.r [(5,.k qbf3.b)] []) (.s (.s .z (.s (.s .z (.v [.eta 12 (.one (.sl 8))])) .z)) .z))))) S61_ qlo (fun f v=>f (v.l 0 0) (v.b 5 0) (v.i 5 1) (v.i 5 2) (v.i 5 3) (v.i 8 0) (v.i 12 0) (v.s 16 0) (v.s 20 0))
def S62_:Shp:=⟨[(0,.one (.l .s)),(1,.one (.l .s))],[]⟩
def qhw (v0 v1:LU):Option Bool:=
 (bif(decide ((v0.length:Int)>=(v1.length:Int)))then(oB (cutI v0 (some (IntKind.i64.wrap ((v0.length:Int)-(v1.length:Int)))) none) fun s1=>(some (s1==v1)))else(some false))
def qwr:=hull qhw
theorem q4c:qwr=qhw:=qa _
def q5t {R:Type}:EntF Tryz.prog R:=entB (nt:=21) (dec:=decB) (enc:=AV.bool) tabOk follows Tryz.func168 [.t 4] hdeB (.z) S62_ qhw (fun f v=>f (v.s 0 0) (v.s 4 0))
def qlp (v0 v1:LU):Option Bool:=
 (oB (qwr v0 v1) fun r1=>(some r1))
def qnx:=hull qlp
theorem qba3:qnx=qlp:=qa _
def qy2 {R:Type}:EntF Tryz.prog R:=entB (nt:=8) (dec:=decB) (enc:=AV.bool) tabOk follows Tryz.func113 [.t 4] hdeB (.s .z (.s (.r [(2,.c q5t.b)] []) .z)) S62_ qlp (fun f v=>f (v.s 0 0) (v.s 4 0))
theorem qbu6 {R:Type}:qk0 Tryz.prog 195 (qz9 (R:=R)):=qbx4 Tryz.func195 (by kernel_rfl) (by kernel_rfl) (by kernel_rfl) (by kernel_rfl)
theorem qbu7 {R:Type}:qk0 Tryz.prog 203 (q0a (R:=R)):=qbx5 Tryz.func203 (by kernel_rfl) (by kernel_rfl) (by kernel_rfl) (by kernel_rfl)
def S63_:Shp:=⟨[(0,.one (.l .s)),(1,.one (.l (.i .u8)))],[]⟩
def qhx (v0:LU)(v1:Int):Option Int:=
 (oB (q3p v0 v1) fun r1=>(some r1))
def qws:=hull qhx
theorem q4d:qws=qhx:=qa _
def q5u {R:Type}:EntF Tryz.prog R:=entB (nt:=8) (dec:=(decI .i64)) (enc:=(AV.int .i64)) tabOk follows Tryz.func199 [.t 4] hdeI (.s .z (.s (.r [(2,.c (eK qbu7))] []) .z)) S63_ qhx (fun f v=>f (v.s 0 0) (v.i 4 0))
def qlq (v0 v1:LU):Option Int:=
 (bif(((v1.length:Int)==0)||(v1==v0))then(some (0:Int))else(bif((v1.length:Int)==1)then(oB (ixB v1 (0:Int)) fun c1=>(oB (qws v0 (c1.toNat:Int)) fun r2=>(some r2)))else(bif(decide ((v1.length:Int)>=(v0.length:Int)))then(some (-1:Int))else none)))
def q2t:=hull qlq
theorem qba4:q2t=qlq:=qa _
def qbd9 {R:Type}:EntF Tryz.prog R:=entB (nt:=143) (dec:=(decI .i64)) (enc:=(AV.int .i64)) tabOk follows Tryz.func196 [.t 4] hdeI (.s .z (.s .z (.s (.b (.s (.r [(3,.g 3)] []) (.s .z (.s .z (.s (.s (.r [(3,.c q5u.b)] []) .z) .z))))) (.s .z (.s .z (.s .z (.s .z (.s .z (.s (.b .x) .z))))))))) S62_ qlq (fun f v=>f (v.s 0 0) (v.s 4 0))
def qrt (v0 v1:LU):Option Int:=
 (oB (q2t v0 v1) fun r1=>(some r1))
def qvv:=hull qrt
theorem qbmk:qvv=qrt:=qa _
def q6c {R:Type}:EntF Tryz.prog R:=entB (nt:=8) (dec:=(decI .i64)) (enc:=(AV.int .i64)) tabOk follows Tryz.func187 [.t 4] hdeI (.s .z (.s (.r [(2,.c qbd9.b)] []) .z)) S62_ qrt (fun f v=>f (v.s 0 0) (v.s 4 0))
def S64_:Shp:=⟨[(0,.one (.l .s)),(1,.one (.l .s)),(5,.one (.l (.i .i64)))],[]⟩
def qy3 (v0 v1:LU)(v5:Int)(next:(List UInt8)->Int->Option Int):Option Int:=
 (oB (qvv v0 v1) fun r1=>(bif(r1==(-1))then(some v5)else(oB (cutI v0 (some (IntKind.i64.wrap (r1+(v1.length:Int)))) none) fun s2=>(next s2 (IntKind.i64.wrap (v5+1))))))
def qra (v1:LU):Nat->(List UInt8)->Int->Option Int
 |0=>(fun _ _=>none)
 |n+1=>(fun v0 v5=>qy3 v0 v1 v5 (qra v1 n))
def qbke:=hull (qra)
def qbea:SubB Tryz.prog (TIof Tryz.prog) 34 0 (kret [.t 4] (decI .i64)):=lpB tabOk follows Tryz.f186 79 (.b (.s (.r [(2,.c q6c.b)] []) (.s .z (.s .z (.v [.sel [0,1,5] []]))))) S64_ (qra) (fun f v K n=>f (v.s 4 0) n) (fun v f K=>qy3 (v.s 0 0) (v.s 4 0) (v.i 20 0) f) (fun f v=>f (v.s 0 0) (v.i 20 0)) (fun k v=>(fun z0 z1=>k ((v.us 0 0 z0).ui 20 0 z1)))
def qru (v0 v1:LU):Option Int:=
 (bif((v1.length:Int)==0)then none else(bif((v1.length:Int)==1)then(oB (ixB v1 (0:Int)) fun c1=>(oB (q3o v0 (c1.toNat:Int)) fun r2=>(some r2)))else(qbke v1 FU v0 (0:Int))))
def q2a:=hull qru
theorem qbml:q2a=qru:=qa _
def qboe {R:Type}:EntF Tryz.prog R:=entB (nt:=34) (dec:=(decI .i64)) (enc:=(AV.int .i64)) tabOk follows Tryz.func186 [.t 4] hdeI (.s .z (.s (.s .z (.s (.s (.r [(1,.c (eK (qb1o (f:=193))))] []) .z) .z)) (.s (.s .z (.s (.s (.r [(3,.c (eK qbu6))] []) .z) .z)) (.s .z (.b (.sub [.sel [0,1,5] []] qbea [])))))) S62_ qru (fun f v=>f (v.s 0 0) (v.s 4 0))
def S65_:Shp:=⟨[(0,.one (.l .s)),(1,.one (.l .s)),(2,.one (.l (.i .i64))),(3,.one (.l (.i .i64)))],[]⟩
def S66_:Shp:=⟨[(0,.one (.l .s)),(1,.one (.l .s)),(2,.one (.l (.i .i64))),(3,.one (.l (.i .i64))),(9,.one (.own 0)),(10,.one (.l (.i .i64)))],[.arr true 1]⟩
def q5v (v0 v1:LU)(v2:Int)(K:Ex->Env->Mem->Option (List AV)):=(fun z_v3=>K .norm (qk [(0,(.str v0)),(1,(.str v1)),(2,(.int .i64 v2)),(3,(.int .i64 z_v3))]) (qh []))
def qir (v0 v1:LU)(v2 v3:Int)(kn:Int->Option (List AV)):Option (List AV):=
 (bif(decide (v3<0))then(oB (q2a v0 v1) fun r1=>(kn (IntKind.i64.wrap (r1+1))))else(kn v3))
def qxu:=hull (qir)
theorem q5w:qxu=qir:=qa _
def q7h:SubB Tryz.prog (TIof Tryz.prog) 66 0 (kret [.t 8] (decX (.one (.sl 1)) fun z=>aL z)):=jnB tabOk follows Tryz.f169 23 (.s .z (.s (.r [(2,.c qboe.b)] [.sel [0,1,2,3] []]) (.v [.sel [0,1,2,3] []]))) S65_ (qir) (fun f v K=>f (v.s 0 0) (v.s 4 0) (v.i 8 0) (v.i 12 0) (q5v (v.s 0 0) (v.s 4 0) (v.i 8 0) K))
def qsw (K:Ex->Env->Mem->Option (List AV)):=(fun z_v0 z_v10 z_a0=>K (.exit 0) (qk [(0,(.str z_v0)),(9,(.own 0 z_a0.length)),(10,(.int .i64 z_v10))]) (qh [(some (.arr true 1 z_a0))]))
def qfd (v0 v1:LU)(v2 v3 v10:Int)(a0:LA)(next:(List UInt8)->Int->(List AV)->Option (List AV))(kx0:(List UInt8)->Int->(List AV)->Option (List AV)):Option (List AV):=
 (bif(decide (v10<v3))then(oB (qvv v0 v1) fun r1=>(bif(decide (r1<0))then(kx0 v0 v10 a0)else(oB (cutI v0 none (some (IntKind.i64.wrap (r1+v2)))) fun s2=>(bif hd a0 a0.length then(bif decide (0<=v10/\v10<a0.length)then(bif hd a0 a0.length then(oB (a0[v10.toNat]?) fun y3=>(oB (putE y3 0 1 [(.str s2)]) fun z4=>(oB (cutI v0 (some (IntKind.i64.wrap (r1+(v1.length:Int)))) none) fun s5=>(bif hd (a0.set v10.toNat z4) a0.length then(next s5 (IntKind.i64.wrap (v10+1)) (a0.set v10.toNat z4))else none))))else none)else none)else none))))else(kx0 v0 v10 a0))
def qdi (v1:LU)(v2 v3:Int)(kx0:(List UInt8)->Int->(List AV)->Option (List AV)):Nat->(List UInt8)->Int->(List AV)->Option (List AV)
 |0=>(fun _ _ _=>none)
 |n+1=>(fun v0 v10 a0=>qfd v0 v1 v2 v3 v10 a0 (qdi v1 v2 v3 kx0 n) kx0)
def qxv:=hull (qdi)
theorem q5x:qxv=qdi:=qa _
def q7i:SubB Tryz.prog (TIof Tryz.prog) 66 0 (kret [.t 8] (decX (.one (.sl 1)) fun z=>aL z)):=lpB tabOk follows Tryz.f169 2303 (.s (.s .z (.s .z (.v [.sel [0,9,10] [0]]))) (.b (.s (.r [(2,.c q6c.b)] []) (.s (.s .z (.s (.v [.sel [0,9,10] [0]]) .z)) (.s .z (.s .z (.v [.hd 9,.sel [0,1,2,3,9,10] [0]]))))))) S66_ (qdi) (fun f v K n=>f (v.s 4 0) (v.i 8 0) (v.i 12 0) (qsw K) n) (fun v f K=>qfd (v.s 0 0) (v.s 4 0) (v.i 8 0) (v.i 12 0) (v.i 40 0) (v.r 0) f (qsw K)) (fun f v=>f (v.s 0 0) (v.i 40 0) (v.r 0)) (fun k v=>(fun z0 z1 z2=>k (((v.us 0 0 z0).ui 40 0 z1).ur 0 z2)))
def qmj (v0 v1:LU)(v2 v3:Int):Option (List AV):=
 (bif(v3==0)then(some ([]:List AV))else(bif(v1==([]:List UInt8))then none else(qxu v0 v1 v2 v3 (fun v3q1=>(bif decide (0<=(if(IntKind.i64.wrap ((v0.length:Int)+1))<v3q1 then(IntKind.i64.wrap ((v0.length:Int)+1))else v3q1)/\(if(IntKind.i64.wrap ((v0.length:Int)+1))<v3q1 then(IntKind.i64.wrap ((v0.length:Int)+1))else v3q1)<=(if(IntKind.i64.wrap ((v0.length:Int)+1))<v3q1 then(IntKind.i64.wrap ((v0.length:Int)+1))else v3q1)/\(if(IntKind.i64.wrap ((v0.length:Int)+1))<v3q1 then(IntKind.i64.wrap ((v0.length:Int)+1))else v3q1)*16<=281474976710656)then(bif(hd (List.replicate (if(IntKind.i64.wrap ((v0.length:Int)+1))<v3q1 then(IntKind.i64.wrap ((v0.length:Int)+1))else v3q1).toNat ((.str ([]:List UInt8)):AV)) ((List.replicate (if(IntKind.i64.wrap ((v0.length:Int)+1))<v3q1 then(IntKind.i64.wrap ((v0.length:Int)+1))else v3q1).toNat ((.str ([]:List UInt8)):AV)).length)&&true)then(qxv v1 v2 (IntKind.i64.wrap ((if(IntKind.i64.wrap ((v0.length:Int)+1))<v3q1 then(IntKind.i64.wrap ((v0.length:Int)+1))else v3q1)-1)) (fun v0q2 v10q3 a0q4=>(bif hd a0q4 a0q4.length then(bif decide (0<=v10q3/\v10q3<a0q4.length)then(bif hd a0q4 a0q4.length then(oB (a0q4[v10q3.toNat]?) fun y5=>(oB (putE y5 0 1 [(.str v0q2)]) fun z6=>(bif hd (a0q4.set v10q3.toNat z6) a0q4.length then(oB (cutI (a0q4.set v10q3.toNat z6) none (some (IntKind.i64.wrap (v10q3+1)))) fun s7=>(some s7))else none)))else none)else none)else none)) FU v0 (0:Int) (List.replicate (if(IntKind.i64.wrap ((v0.length:Int)+1))<v3q1 then(IntKind.i64.wrap ((v0.length:Int)+1))else v3q1).toNat ((.str ([]:List UInt8)):AV)))else none)else none)))))
def q4e:=hull qmj
theorem qbeb:q4e=qmj:=qa _
def qbgf {R:Type}:EntF Tryz.prog R:=entB (nt:=66) (dec:=(decX (.one (.sl 1)) fun z=>aL z)) (enc:=(fun r=>.sl 1 r)) tabOk follows Tryz.func169 [.t 8] (hdeX fun _=>rfl) (.s .z (.s (.s .z (.s (.s .z (.v [.eta 8 (.one (.sl 1))])) .z)) (.s (.s .z (.s (.s (.r [(2,.c (eK (qb1o (f:=185))))] []) .z) .z)) (.s (.sub [.sel [0,1,2,3] []] q7h []) (.s .z (.s .z (.s .z (.s .z (.s (.b (.sub [.sel [0,1,2,3,9,10] [0]] q7i [])) .z))))))))) S65_ qmj (fun f v=>f (v.s 0 0) (v.s 4 0) (v.i 8 0) (v.i 12 0))
def qrv (v0 v1:LU):Option (List AV):=
 (oB (q4e v0 v1 (0:Int) (-1:Int)) fun r1=>(some r1))
def qvw:=hull qrv
theorem qbmm:qvw=qrv:=qa _
def q6d {R:Type}:EntF Tryz.prog R:=entB (nt:=8) (dec:=(decX (.one (.sl 1)) fun z=>aL z)) (enc:=(fun r=>.sl 1 r)) tabOk follows Tryz.func114 [.t 4] (hdeX fun _=>rfl) (.s .z (.s (.r [(2,.k qbgf.b)] []) .z)) S62_ qrv (fun f v=>f (v.s 0 0) (v.s 4 0))
def S67_:Shp:=⟨[(0,.one (.l .s)),(4,.one (.l (.i .u8))),(13,.one (.l (.i .i64))),(14,.one (.l (.i .i64)))],[]⟩
def S68_:Shp:=⟨[(0,.one (.l .s)),(13,.one (.l (.i .i64))),(14,.one (.l (.i .i64)))],[]⟩
def S69_:Shp:=⟨[(0,.one (.l .s))],[]⟩
def q8n (v0:LU)(v13 v14:Int)(K:Ex->Env->Mem->Option Bool):=(fun z_v41=>K .norm (qk [(0,(.str v0)),(13,(.int .i64 v13)),(14,(.int .i64 v14)),(41,(.bool z_v41))]) (qh []))
def qkj (v0:LU)(v4 v13 v14:Int)(kn:Bool->Option Bool):Option Bool:=
 (bif((decide (v4<97))||(decide (v4>122)))then(bif(decide (v4<48))then(kn ((v4 != (45:Int))&&(v4 != (95:Int))))else(kn (((decide (v4>57))&&(v4 != (45:Int)))&&(v4 != (95:Int)))))else(kn false))
def qsx:=hull (qkj)
theorem q8o:qsx=qkj:=qa _
def qba5:SubB Tryz.prog (TIof Tryz.prog) 43 0 (kret [.t 2] decB):=jnB tabOk follows Tryz.f115 11467 (.r [(3,.g 2),(15,.g 2),(19,.g 2)] [.sel [0,13,14,41] []]) S67_ (qkj) (fun f v K=>f (v.s 0 0) (v.i 16 0) (v.i 52 0) (v.i 56 0) (q8n (v.s 0 0) (v.i 52 0) (v.i 56 0) K))
def qu7 (K:Ex->Env->Mem->Option Bool):=(fun(_:Unit)=>K (.exit 0) (qk []) (qh []))
def qgp (v0:LU)(v13 v14:Int)(next:Int->Option Bool)(kx0:Unit->Option Bool):Option Bool:=
 (bif(decide (v14<v13))then(oB (ixB v0 v14) fun c1=>(qsx v0 (c1.toNat:Int) v13 v14 (fun v41q2=>(bif v41q2 then(some false)else(next (IntKind.i64.wrap (v14+1)))))))else(kx0 ()))
def qgq (v0:LU)(v13:Int)(kx0:Unit->Option Bool):Nat->Int->Option Bool
 |0=>(fun _=>none)
 |n+1=>(fun v14=>qgp v0 v13 v14 (qgq v0 v13 kx0 n) kx0)
def q00:=hull (qgq)
theorem q8p:q00=qgq:=qa _
def qba6:SubB Tryz.prog (TIof Tryz.prog) 43 0 (kret [.t 2] decB):=lpB tabOk follows Tryz.f115 75 (.s .z (.s (.s .z (.v [.sel [] []])) (.s (.b (.s .z (.s .z (.s (.sub [.sel [0,4,13,14] []] qba5 []) .z)))) (.v [.sel [0,13,14] []])))) S68_ (qgq) (fun f v K n=>f (v.s 0 0) (v.i 52 0) (qu7 K) n) (fun v f K=>qgp (v.s 0 0) (v.i 52 0) (v.i 56 0) f (qu7 K)) (fun f v=>f (v.i 56 0)) (fun k v=>(fun z0=>k (v.ui 56 0 z0)))
def qpe (v0:LU):Option Bool:=
 (bif((v0==([]:List UInt8))||(decide ((v0.length:Int)>63)))then(some false)else(q00 v0 (v0.length:Int) (fun(_:Unit)=>(some true)) FU (0:Int)))
def qzo:=hull qpe
theorem qbkf:qzo=qpe:=qa _
def qbmn {R:Type}:EntF Tryz.prog R:=entB (nt:=43) (dec:=decB) (enc:=AV.bool) tabOk follows Tryz.func115 [.t 2] hdeB (.s .z (.s (.s (.r [(3,.g 3)] []) .z) (.s (.s .z (.b (.sub [.sel [0,13,14] []] qba6 []))) .z))) S69_ qpe (fun f v=>f (v.s 0 0))
def S70_:Shp:=⟨[(3,.one (.l (.i .i64))),(4,.one (.l .s)),(20,.one (.l (.sl 1))),(21,.one (.l (.i .i64))),(22,.one (.l (.i .i64)))],[]⟩
def S71_:Shp:=⟨[(20,.one (.l (.sl 1))),(21,.one (.l (.i .i64))),(22,.one (.l (.i .i64)))],[]⟩
def qbgg (v0:LU)(K:Ex->Env->Mem->Option Bool):=(fun z_v14=>K .norm (qk [(0,(.str v0)),(14,(.bool z_v14))]) (qh []))
def qny (v0:LU)(kn:Bool->Option Bool):Option Bool:=
 (bif(decide ((v0.length:Int)>=255))then(kn true)else(oB (qnx v0 ([46]:List UInt8)) fun r1=>(kn (!r1))))
def q6e:=hull (qny)
theorem qbgh:q6e=qny:=qa _
def qbkg:SubB Tryz.prog (TIof Tryz.prog) 39 0 (kret [.t 2] decB):=jnB tabOk follows Tryz.f59 19 (.r [(5,.c qy2.b)] [.sel [0,14] []]) S69_ (qny) (fun f v K=>f (v.s 0 0) (qbgg (v.s 0 0) K))
def qbgi (v20:LA)(v21 v22:Int)(K:Ex->Env->Mem->Option Bool):=(fun z_v37=>K .norm (qk [(20,(.sl 1 v20)),(21,(.int .i64 v21)),(22,(.int .i64 v22)),(37,(.bool z_v37))]) (qh []))
def qnz (v3:Int)(v4:LU)(v20:LA)(v21 v22:Int)(kn:Bool->Option Bool):Option Bool:=
 (oB (qzo v4) fun r1=>(bif(!r1)then(bif(decide (v3>0))then(kn true)else(kn (!(v4==([42]:List UInt8)))))else(kn false)))
def q6f:=hull (qnz)
theorem qbgj:q6f=qnz:=qa _
def qbkh:SubB Tryz.prog (TIof Tryz.prog) 39 0 (kret [.t 2] decB):=jnB tabOk follows Tryz.f59 10647 (.r [(1,.c qbmn.b)] [.sel [20,21,22,37] []]) S70_ (qnz) (fun f v K=>f (v.i 12 0) (v.s 16 0) (v.l 80 0) (v.i 84 0) (v.i 88 0) (qbgi (v.l 80 0) (v.i 84 0) (v.i 88 0) K))
def qy4 (K:Ex->Env->Mem->Option Bool):=(fun(_:Unit)=>K (.exit 0) (qk []) (qh []))
def qj9 (v20:LA)(v21 v22:Int)(next:Int->Option Bool)(kx0:Unit->Option Bool):Option Bool:=
 (bif(decide (v22<v21))then(oB (ixB v20 v22) fun y1=>(bif fitC [.s] y1.cells then(q6f v22 (gS y1.cells 0) v20 v21 v22 (fun v37q2=>(bif v37q2 then(some false)else(next (IntKind.i64.wrap (v22+1))))))else none))else(kx0 ()))
def qka (v20:LA)(v21:Int)(kx0:Unit->Option Bool):Nat->Int->Option Bool
 |0=>(fun _=>none)
 |n+1=>(fun v22=>qj9 v20 v21 v22 (qka v20 v21 kx0 n) kx0)
def qxw:=hull (qka)
theorem qbgk:qxw=qka:=qa _
def qbki:SubB Tryz.prog (TIof Tryz.prog) 39 0 (kret [.t 2] decB):=lpB tabOk follows Tryz.f59 151 (.s .z (.s (.s .z (.v [.sel [] []])) (.s (.b (.s (.r [(1,.p (.etac 25 [.s]))] []) (.s (.sub [.sel [3,4,20,21,22] []] qbkh []) .z))) (.v [.sel [20,21,22] []])))) S71_ (qka) (fun f v K n=>f (v.l 80 0) (v.i 84 0) (qy4 K) n) (fun v f K=>qj9 (v.l 80 0) (v.i 84 0) (v.i 88 0) f (qy4 K)) (fun f v=>f (v.i 88 0)) (fun k v=>(fun z0=>k (v.ui 88 0 z0)))
def qvx (v0:LU):Option Bool:=
 (bif(v0==([46]:List UInt8))then(some true)else(q6e v0 (fun v14q1=>(bif v14q1 then(some false)else(oB (cutI v0 none (some (IntKind.i64.wrap ((v0.length:Int)-1)))) fun s2=>(oB (qvw s2 ([46]:List UInt8)) fun r3=>(qxw r3 (r3.length:Int) (fun(_:Unit)=>(some true)) FU (0:Int))))))))
def qgk:=hull qvx
theorem qbrf:qgk=qvx:=qa _
def qj0 {R:Type}:EntF Tryz.prog R:=entB (nt:=39) (dec:=decB) (enc:=AV.bool) tabOk follows Tryz.func59 [.t 2] hdeB (.s .z (.s .z (.s (.s (.sub [.sel [0] []] qbkg []) .z) (.s (.s (.r [(5,.k q6d.b)] []) (.b (.sub [.sel [20,21,22] []] qbki []))) .z)))) S69_ qvx (fun f v=>f (v.s 0 0))
def qfm (x0:LU)(x1:Bool)(x2 x3 x4:Int):List AV:=[.str x0,.bool x1,.int .u64 x2,.int .u64 x3,.int .i64 x4]
def S72_:Shp:=⟨[(1,.one (.ptr 0 0))],[.box true (lk qj)]⟩
def S73_:Shp:=⟨[(0,.st (lk qj))],[]⟩
def qbec (Av:LU)(Aw:Bool)(Ax Ay Az:Int)(K:Ex->Env->Mem->Option Int):=(fun z_v3=>K .norm (qk [(1,(.ptr 0 0)),(3,(.bool z_v3))]) (qh [(some (.box true (qfm Av Aw Ax Ay Az)))]))
def qmk (Av:LU)(Aw:Bool)(Ax Ay Az:Int)(kn:Bool->Option Int):Option Int:=
 (oB (qgk Av) fun r1=>(bif(!r1)then(kn true)else(oB (ixB Av (0:Int)) fun c2=>(kn ((c2.toNat:Int)==42)))))
def q4f:=hull (qmk)
theorem qbed:q4f=qmk:=qa _
def qbgl:SubB Tryz.prog (TIof Tryz.prog) 28 0 (kret [.t 2] (decI .i64)):=jnB tabOk follows Tryz.f111 17 (.r [(2,.c qj0.b)] [.sel [1,3] [0]]) S72_ (qmk) (fun f v K=>f (v.s 3 0) (v.b 3 1) (v.i 3 2) (v.i 3 3) (v.i 3 4) (qbec (v.s 3 0) (v.b 3 1) (v.i 3 2) (v.i 3 3) (v.i 3 4) K))
def qrw (Aa:LU)(Ab:Bool)(Ac Bt Bu:Int):Option Int:=
 (q4f Aa Ab Ac Bt Bu (fun v3q1=>(bif v3q1 then(some (2:Int))else(oB (qxk Ab Ac Bt) fun r2=>(bif(!r2)then(some (3:Int))else(bif((decide (Bu<0))||(decide (Bu>2147483647)))then(some (1:Int))else(some (0:Int))))))))
def q2b:=hull qrw
theorem qbmo:q2b=qrw:=qa _
def qbof {R:Type}:EntF Tryz.prog R:=entB (nt:=28) (dec:=(decI .i64)) (enc:=(AV.int .i64)) tabOk follows Tryz.func111 [.t 2] hdeI (.s .z (.s (.b (.s (.sub [.sel [1] [0]] qbgl []) (.s .z (.s (.r [(2,.c q34.b)] []) (.s .z (.s (.r [(4,.g 3)] []) .z)))))) .z)) S73_ qrw (fun f v=>f (v.s 1 0) (v.b 1 1) (v.i 1 2) (v.i 1 3) (v.i 1 4))
theorem qbu8 {R:Type}:qk0 Tryz.prog 188 (q0b (R':=R)):=qbx6 Tryz.func188 (by kernel_rfl) (by kernel_rfl) (by kernel_rfl) (by kernel_rfl)
def ql4 (v0 v1:LU):Option Int:=
 (oB (qbc5 v0 v1) fun r1=>(some r1))
def qwt:=hull ql4
theorem q4g:qwt=ql4:=qa _
def q5y {R:Type}:EntF Tryz.prog R:=entB (nt:=8) (dec:=(decI .i64)) (enc:=(AV.int .i64)) tabOk follows Tryz.func170 [.t 4] hdeI (.s .z (.s (.r [(2,.c (eK qbu8))] []) .z)) S62_ ql4 (fun f v=>f (v.s 0 0) (v.s 4 0))
def qn0 (v0 v1:LU):Option Int:=
 (oB (qwt v0 v1) fun r1=>(some r1))
def qrx:=hull qn0
theorem qbgm:qrx=qn0:=qa _
def q2u {R:Type}:EntF Tryz.prog R:=entB (nt:=8) (dec:=(decI .i64)) (enc:=(AV.int .i64)) tabOk follows Tryz.func116 [.t 4] hdeI (.s .z (.s (.r [(2,.c q5y.b)] []) .z)) S62_ qn0 (fun f v=>f (v.s 0 0) (v.s 4 0))
def qbgn (v0:LU)(K:Ex->Env->Mem->Option (List AV)):=(fun z_v9=>K .norm (qk [(0,(.str v0)),(9,(.bool z_v9))]) (qh []))
def qn1 (v0:LU)(kn:Bool->Option (List AV)):Option (List AV):=
 (bif(v0==([46]:List UInt8))then(kn true)else(oB (qgk v0) fun r1=>(kn (!r1))))
def q6g:=hull (qn1)
theorem qbgo:q6g=qn1:=qa _
def qbkj:SubB Tryz.prog (TIof Tryz.prog) 16 0 (kret [.t 2] (decX (.one (.sl 1)) fun z=>aL z)):=jnB tabOk follows Tryz.f117 9 (.r [(4,.c qj0.b)] [.sel [0,9] []]) S69_ (qn1) (fun f v K=>f (v.s 0 0) (qbgn (v.s 0 0) K))
def qtz (v0:LU):Option (List AV):=
 (q6g v0 (fun v9q1=>(bif v9q1 then(some ([]:List AV))else(oB (cutI v0 none (some (IntKind.i64.wrap ((v0.length:Int)-1)))) fun s2=>(oB (qvw s2 ([46]:List UInt8)) fun r3=>(some r3))))))
def qsy:=hull qtz
theorem qbog:qsy=qtz:=qa _
def qzp {R:Type}:EntF Tryz.prog R:=entB (nt:=16) (dec:=(decX (.one (.sl 1)) fun z=>aL z)) (enc:=(fun r=>.sl 1 r)) tabOk follows Tryz.func117 [.t 2] (hdeX fun _=>rfl) (.s .z (.s (.s (.sub [.sel [0] []] qbkj []) (.s (.s .z (.v [.eta 2 (.one (.sl 1))])) .z)) (.s (.r [(5,.k q6d.b)] []) .z))) S69_ qtz (fun f v=>f (v.s 0 0))
def S74_:Shp:=⟨[(7,.one (.l (.sl 1))),(8,.one (.l (.sl 1))),(9,.one (.l (.i .i64)))],[]⟩
def qwu (v7 v8:LA)(K:Ex->Env->Mem->Option Int):=(fun(_:Unit)=>K (.exit 1) (qk [(7,(.sl 1 v7)),(8,(.sl 1 v8))]) (qh []))
def qrb (v7 v8:LA)(v9:Int)(next:Int->Option Int)(kx1:Unit->Option Int):Option Int:=
 (bif((decide (v9<=(v7.length:Int)))&&(decide (v9<=(v8.length:Int))))then(oB (ixB v7 (IntKind.i64.wrap ((v7.length:Int)-v9))) fun y1=>(bif fitC [.s] y1.cells then(oB (ixB v8 (IntKind.i64.wrap ((v8.length:Int)-v9))) fun y2=>(bif fitC [.s] y2.cells then(oB (qrx (gS y1.cells 0) (gS y2.cells 0)) fun r3=>(bif(r3 != (0:Int))then(some r3)else(next (IntKind.i64.wrap (v9+1)))))else none))else none))else(kx1 ()))
def qe9 (v7 v8:LA)(kx1:Unit->Option Int):Nat->Int->Option Int
 |0=>(fun _=>none)
 |n+1=>(fun v9=>qrb v7 v8 v9 (qe9 v7 v8 kx1 n) kx1)
def q2v:=hull (qe9)
theorem qba7:q2v=qe9:=qa _
def qbee:SubB Tryz.prog (TIof Tryz.prog) 79 0 (kret [.t 4] (decI .i64)):=lpB tabOk follows Tryz.f60 303 (.s (.s (.r [(5,.g 4)] []) (.s .z (.v [.sel [7,8] []]))) (.s (.b (.s (.d [] [(5,.e 54 [.s]),(12,.e 61 [.s])] [(0,.c q2u.b)] []) .z)) (.v [.sel [7,8,9] []]))) S74_ (qe9) (fun f v K n=>f (v.l 28 0) (v.l 32 0) (qwu (v.l 28 0) (v.l 32 0) K) n) (fun v f K=>qrb (v.l 28 0) (v.l 32 0) (v.i 36 0) f (qwu (v.l 28 0) (v.l 32 0) K)) (fun f v=>f (v.i 36 0)) (fun k v=>(fun z0=>k (v.ui 36 0 z0)))
def qry (v0 v1:LU):Option Int:=
 (oB (qgk v0) fun r1=>(oB (qgk v1) fun r2=>(bif(r1&&(!r2))then(some (-1:Int))else(bif(r2&&(!r1))then(some (1:Int))else(bif(!r1)then(oB (qrx v0 v1) fun r3=>(some r3))else(oB (qsy v0) fun r4=>(oB (qsy v1) fun r5=>(q2v r4 r5 (fun(_:Unit)=>(bif(decide ((r4.length:Int)<(r5.length:Int)))then(some (-1:Int))else(bif(decide ((r4.length:Int)>(r5.length:Int)))then(some (1:Int))else(some (0:Int))))) FU (1:Int)))))))))
def qvy:=hull qry
theorem qbmp:qvy=qry:=qa _
def q6h {R:Type}:EntF Tryz.prog R:=entB (nt:=79) (dec:=(decI .i64)) (enc:=(AV.int .i64)) tabOk follows Tryz.func60 [.t 4] hdeI (.s .z (.s (.r [(1,.c qj0.b),(3,.c qj0.b)] []) (.s (.b (.s (.r [(2,.g 2)] []) (.s .z (.s (.r [(2,.g 2)] []) (.s .z (.s .z (.s (.s (.r [(2,.c q2u.b)] []) .z) .z))))))) (.s (.r [(1,.k qzp.b),(3,.k qzp.b)] []) (.s (.s .z (.b (.sub [.sel [7,8,9] []] qbee []))) .z))))) S62_ qry (fun f v=>f (v.s 0 0) (v.s 4 0))
def S75_:Shp:=⟨[(0,.st (lk qj)),(1,.st (lk qj))],[]⟩
def qrz (Aa:LU)(Ab:Bool)(Ac Bt Bu:Int)(B7:LU)(B8:Bool)(B9 Ca Cb:Int):Option Int:=
 (oB (qsv Ab Ac Bt B8 B9 Ca) fun r1=>(bif(r1 != (0:Int))then(some r1)else(oB (qvy Aa B7) fun r2=>(some r2))))
def q2c:=hull qrz
theorem qbmq:q2c=qrz:=qa _
def qboh {R:Type}:EntF Tryz.prog R:=entB (nt:=19) (dec:=(decI .i64)) (enc:=(AV.int .i64)) tabOk follows Tryz.func112 [.t 4] hdeI (.s .z (.s (.s (.r [(4,.c qzk.b)] []) .z) (.s (.r [(4,.c q6h.b)] []) .z))) S75_ qrz (fun f v=>f (v.s 1 0) (v.b 1 1) (v.i 1 2) (v.i 1 3) (v.i 1 4) (v.s 5 0) (v.b 5 1) (v.i 5 2) (v.i 5 3) (v.i 5 4))
def S76_:Shp:=⟨[(0,.one (.l (.sl 5))),(10,.one (.l (.sl 5))),(11,.one (.l (.i .i64))),(12,.one (.l (.i .i64)))],[]⟩
def S77_:Shp:=⟨[(0,.one (.l (.sl 5)))],[]⟩
def qwv (K:Ex->Env->Mem->Option Int):=(fun(_:Unit)=>K (.exit 0) (qk []) (qh []))
def qh1 (v0 v10:LA)(v11 v12:Int)(next:Int->Option Int)(kx0:Unit->Option Int):Option Int:=
 (bif(decide (v12<v11))then(oB (ixB v10 v12) fun y1=>(bif fitC qj y1.cells then(oB (q2b (gS y1.cells 0) (gB y1.cells 1) (gI y1.cells 2) (gI y1.cells 3) (gI y1.cells 4)) fun r2=>(bif(r2 != (0:Int))then(some r2)else(bif(v12==0)then(next (IntKind.i64.wrap (v12+1)))else(oB (ixB v0 (IntKind.i64.wrap (v12-1))) fun y3=>(bif fitC qj y3.cells then(oB (q2c (gS y1.cells 0) (gB y1.cells 1) (gI y1.cells 2) (gI y1.cells 3) (gI y1.cells 4) (gS y3.cells 0) (gB y3.cells 1) (gI y3.cells 2) (gI y3.cells 3) (gI y3.cells 4)) fun r4=>(bif(decide (r4<0))then(some (7:Int))else(bif(r4==0)then(some (12:Int))else(next (IntKind.i64.wrap (v12+1))))))else none)))))else none))else(kx0 ()))
def qh2 (v0 v10:LA)(v11:Int)(kx0:Unit->Option Int):Nat->Int->Option Int
 |0=>(fun _=>none)
 |n+1=>(fun v12=>qh1 v0 v10 v11 v12 (qh2 v0 v10 v11 kx0 n) kx0)
def q2w:=hull (qh2)
theorem qba8:q2w=qh2:=qa _
def qbef:SubB Tryz.prog (TIof Tryz.prog) 38 0 (kret [.t 2] (decI .i64)):=lpB tabOk follows Tryz.f58 75 (.s .z (.s (.s .z (.v [.sel [] []])) (.s (.b (.s (.r [(1,.p (.etac 15 qj))] []) (.s (.s (.r [(1,.c qbof.b)] []) .z) (.s .z (.s (.d [] [(4,.e 28 qj)] [(0,.c qboh.b)] []) .z))))) (.v [.sel [0,10,11,12] []])))) S76_ (qh2) (fun f v K n=>f (v.l 0 0) (v.l 40 0) (v.i 44 0) (qwv K) n) (fun v f K=>qh1 (v.l 0 0) (v.l 40 0) (v.i 44 0) (v.i 48 0) f (qwv K)) (fun f v=>f (v.i 48 0)) (fun k v=>(fun z0=>k (v.ui 48 0 z0)))
def qr0 (v0:LA):Option Int:=
 (bif(decide ((v0.length:Int)>256))then(some (9:Int))else(q2w v0 v0 (v0.length:Int) (fun(_:Unit)=>(some (0:Int))) FU (0:Int)))
def q2d:=hull qr0
theorem qbmr:q2d=qr0:=qa _
def qboi {R:Type}:EntF Tryz.prog R:=entB (nt:=38) (dec:=(decI .i64)) (enc:=(AV.int .i64)) tabOk follows Tryz.func58 [.t 2] hdeI (.s .z (.s .z (.s (.s .z (.b (.sub [.sel [0,10,11,12] []] qbef []))) .z))) S77_ qr0 (fun f v=>f (v.l 0 0))
def qt0 (Aa:LU)(Ab:Bool)(Ac Bt Bu:Int)(B7:LU)(B8:Bool)(B9 Ca Cb:Int):Option Int:=
 (oB (qsv Ab Ac Bt B8 B9 Ca) fun r1=>(bif(r1 != (0:Int))then(some r1)else(oB (qvy Aa B7) fun r2=>(some r2))))
def qsz:=hull qt0
theorem qboj:qsz=qt0:=qa _
def q8q {R:Type}:EntF Tryz.prog R:=entB (nt:=19) (dec:=(decI .i64)) (enc:=(AV.int .i64)) tabOk follows Tryz.func158 [.t 4] hdeI (.s .z (.s (.s (.r [(4,.c qzk.b)] []) .z) (.s (.r [(4,.c q6h.b)] []) .z))) S75_ qt0 (fun f v=>f (v.s 1 0) (v.b 1 1) (v.i 1 2) (v.i 1 3) (v.i 1 4) (v.s 5 0) (v.b 5 1) (v.i 5 2) (v.i 5 3) (v.i 5 4))
def S78_:Shp:=⟨[(0,.one (.l (.sl 5))),(2,.one (.fn 158 [])),(4,.one (.ptr 0 0)),(8,.one (.l (.i .i64))),(9,.one (.l (.i .i64))),(10,.one (.l (.i .i64)))],[.box true (lk qj)]⟩
def S79_:Shp:=⟨[(0,.one (.l (.sl 5))),(1,.st (lk qj)),(2,.one (.fn 158 []))],[]⟩
def qcn:AV->Option (Int×Bool):=decN [(.one (.i .i64)),(.one .b)] fun z=>(aI (gC (tpL z) 0),aB (gC (tpL z) 1))
def qci (v0:LA)(v8:Int)(Av:LU)(Aw:Bool)(Ax Ay Az:Int)(K:Ex->Env->Mem->Option (Int×Bool)):=(fun z_v9=>K (.exit 0) (qk [(0,(.sl 5 v0)),(2,(.func 158 [])),(4,(.ptr 0 0)),(8,(.int .i64 v8)),(9,(.int .i64 z_v9))]) (qh [(some (.box true (qfm Av Aw Ax Ay Az)))]))
def qbt (v0:LA)(v8 v9 v10:Int)(Av:LU)(Aw:Bool)(Ax Ay Az:Int)(next:Int->Int->Option (Int×Bool))(kx0:Int->Option (Int×Bool)):Option (Int×Bool):=
 (bif(decide (v9<v10))then(oB (ixB v0 (IntKind.i64.wrap ((IntKind.u64.wrap (IntKind.i64.wrap (v9+v10))).fdiv (2^min (1:Int).toNat IntKind.u64.bits)))) fun y1=>(bif fitC qj y1.cells then(oB (qsz (gS y1.cells 0) (gB y1.cells 1) (gI y1.cells 2) (gI y1.cells 3) (gI y1.cells 4) Av Aw Ax Ay Az) fun r2=>(bif(decide (r2<0))then(next (IntKind.i64.wrap ((IntKind.i64.wrap ((IntKind.u64.wrap (IntKind.i64.wrap (v9+v10))).fdiv (2^min (1:Int).toNat IntKind.u64.bits)))+1)) v10)else(next v9 (IntKind.i64.wrap ((IntKind.u64.wrap (IntKind.i64.wrap (v9+v10))).fdiv (2^min (1:Int).toNat IntKind.u64.bits))))))else none))else(kx0 v9))
def qm (v0:LA)(v8:Int)(Av:LU)(Aw:Bool)(Ax Ay Az:Int)(kx0:Int->Option (Int×Bool)):Nat->Int->Int->Option (Int×Bool)
 |0=>(fun _ _=>none)
 |n+1=>(fun v9 v10=>qbt v0 v8 v9 v10 Av Aw Ax Ay Az (qm v0 v8 Av Aw Ax Ay Az kx0 n) kx0)
def qcq:=hull (qm)
theorem qex:qcq=qm:=qa _
def qez:SubB Tryz.prog (TIof Tryz.prog) 49 0 (kret [.t 6,.t 7] qcn):=lpB tabOk follows Tryz.f157 71 (.s (.s .z (.s .z (.v [.sel [0,2,4,8,9] [0]]))) (.b (.s .z (.s (.d [] [(3,.e 27 qj)] [(0,.c q8q.b)] []) (.s (.v [.sel [0,2,4,8,9,10] [0]]) (.v [.sel [0,2,4,8,9,10] [0]])))))) S78_ (qm) (fun f v K n=>f (v.l 0 0) (v.i 32 0) (v.s 3 0) (v.b 3 1) (v.i 3 2) (v.i 3 3) (v.i 3 4) (qci (v.l 0 0) (v.i 32 0) (v.s 3 0) (v.b 3 1) (v.i 3 2) (v.i 3 3) (v.i 3 4) K) n) (fun v f K=>qbt (v.l 0 0) (v.i 32 0) (v.i 36 0) (v.i 40 0) (v.s 3 0) (v.b 3 1) (v.i 3 2) (v.i 3 3) (v.i 3 4) f (qci (v.l 0 0) (v.i 32 0) (v.s 3 0) (v.b 3 1) (v.i 3 2) (v.i 3 3) (v.i 3 4) K)) (fun f v=>f (v.i 36 0) (v.i 40 0)) (fun k v=>(fun z0 z1=>k ((v.ui 36 0 z0).ui 40 0 z1)))
def qbc (v0:LA)(B7:LU)(B8:Bool)(B9 Ca Cb:Int):Option (Int×Bool):=
 (qcq v0 (v0.length:Int) B7 B8 B9 Ca Cb (fun v9q1=>(bif(decide (v9q1<(v0.length:Int)))then(oB (ixB v0 v9q1) fun y2=>(bif fitC qj y2.cells then(oB (qsz (gS y2.cells 0) (gB y2.cells 1) (gI y2.cells 2) (gI y2.cells 3) (gI y2.cells 4) B7 B8 B9 Ca Cb) fun r3=>(some (v9q1,(r3==0))))else none))else(some (v9q1,false)))) FU (0:Int) (v0.length:Int))
def qcv:=hull qbc
theorem qe8:qcv=qbc:=qa _
def qfe {R:Type}:EntF Tryz.prog R:=entB (nt:=49) (dec:=qcn) (enc:=(fun r=>.tup [.int .i64 r.1,.bool r.2])) tabOk follows Tryz.func157 [.t 6,.t 7] (hdeN fun _=>rfl) (.s .z (.s .z (.s .z (.s (.b (.sub [.sel [0,2,4,8,9,10] [0]] qez [])) (.s (.d [] [(8,.e 43 qj),(11,.c q8q.b)] [] []) .z))))) S79_ qbc (fun f v=>f (v.l 0 0) (v.s 5 0) (v.b 5 1) (v.i 5 2) (v.i 5 3) (v.i 5 4))
def S80_:Shp:=⟨[(0,.one (.l (.sl 5))),(1,.st (lk qj))],[]⟩
def qbok:AV->Option (Int×Bool):=decN [(.one (.i .i64)),(.one .b)] fun z=>(aI (gC (tpL z) 0),aB (gC (tpL z) 1))
def qvz (v0:LA)(B7:LU)(B8:Bool)(B9 Ca Cb:Int):Option (Int×Bool):=
 (oB (qcv v0 B7 B8 B9 Ca Cb) fun r1=>(some (r1.1,r1.2)))
def qu8:=hull qvz
theorem qbrg:qu8=qvz:=qa _
def q2e {R:Type}:EntF Tryz.prog R:=entB (nt:=11) (dec:=qbok) (enc:=(fun r=>.tup [.int .i64 r.1,.bool r.2])) tabOk follows Tryz.func99 [.t 4,.t 5] (hdeN fun _=>rfl) (.s .z (.s (.r [(2,.c qfe.b)] []) .z)) S80_ qvz (fun f v=>f (v.l 0 0) (v.s 5 0) (v.b 5 1) (v.i 5 2) (v.i 5 3) (v.i 5 4))
def qxx (v0 v1:LU):Option Bool:=
 (bif((v1==([46]:List UInt8))||(v0==v1))then(some true)else(bif decide (([46]:List UInt8).length+v1.length<=9223372036854775807)then(oB (qnx v0 (([46]:List UInt8)++v1)) fun r1=>(some r1))else none))
def qbol:=hull qxx
theorem qbug:qbol=qxx:=qa _
def qbu9 {R:Type}:EntF Tryz.prog R:=entB (nt:=18) (dec:=decB) (enc:=AV.bool) tabOk follows Tryz.func172 [.t 4] hdeB (.s .z (.s (.r [(3,.g 3),(11,.c qy2.b)] []) .z)) S62_ qxx (fun f v=>f (v.s 0 0) (v.s 4 0))
def qv0 (v0 v1:LU):Option Bool:=
 (oB (qgk v0) fun r1=>(bif r1 then(oB (qgk v1) fun r2=>(bif r2 then(oB (qbol v0 v1) fun r3=>(some r3))else(some false)))else(some false)))
def q7j:=hull qv0
theorem qbrh:q7j=qv0:=qa _
def qbuh {R:Type}:EntF Tryz.prog R:=entB (nt:=16) (dec:=decB) (enc:=AV.bool) tabOk follows Tryz.func120 [.t 4] hdeB (.s .z (.s (.r [(1,.c qj0.b),(4,.c qj0.b),(9,.c qbu9.b)] []) .z)) S62_ qv0 (fun f v=>f (v.s 0 0) (v.s 4 0))
def S81_:Shp:=⟨[(0,.one (.l .s)),(1,.one (.ptr 0 0))],[.box true [(.l .s)]]⟩
def qbeg {R:Type}(KK:AV->Mem->Option R):=(fun v3 Av=>KK (.bool v3) (qh [(some (.box true [(.str Av)]))]))
def qml {R:Type}(v0 Av:LU)(kr:Bool->(List UInt8)->Option R):Option R:=
 (oB (q7j Av v0) fun r1=>(kr r1 Av))
def q4h {R:Type}:=hull (qml (R:=R))
theorem qbeh {R:Type}:q4h (R:=R)=qml:=qa _
def qbgp {R:Type}:RefB Tryz.prog R:=refB (nt:=7) (nb:=1) tabOk follows Tryz.func119 [.t 3] (fun KK=>.s .z (.s (.r [(2,.c qbuh.b)] []) (.v [.sel [3] [0]]))) S81_ (qml (R:=R)) (fun f v KK=>f (v.s 0 0) (v.s 3 0) (qbeg KK)) (by kernel_rfl) (by kernel_rfl) (fun _=>(by kernel_rfl)) rfl
def S82_:Shp:=⟨[(0,.one (.l (.sl 1))),(1,.one (.fn 119 [(0,0)])),(7,.one (.l (.i .i64))),(8,.one (.l (.i .i64)))],[.box true [(.l .s)]]⟩
def S83_:Shp:=⟨[(0,.one (.l (.sl 1))),(1,.one (.fn 119 [(0,0)]))],[.box true [(.l .s)]]⟩
def qd0 {R:Type}(K:Ex->Env->Mem->Option R):=(fun z_b0_0=>K (.exit 0) (qk []) (qh [(some (.box true [(.str z_b0_0)]))]))
def qd1 {R:Type}(KK:AV->Mem->Option R):=(fun v4 Av=>KK (.int .i64 v4) (qh [(some (.box true [(.str Av)]))]))
def qbe {R:Type}(v0:LA)(v7 v8:Int)(Av:LU)(next:Int->(List UInt8)->Option R)(kx0:(List UInt8)->Option R)(kr:Int->(List UInt8)->Option R):Option R:=
 (bif(decide (v8<v7))then(oB (ixB v0 v8) fun y1=>(bif fitC [.s] y1.cells then(q4h (gS y1.cells 0) Av fun v3q2 b0_0q3=>(bif v3q2 then(kr v8 b0_0q3)else(next (IntKind.i64.wrap (v8+1)) b0_0q3)))else none))else(kx0 Av))
def qbf {R:Type}(v0:LA)(v7:Int)(kx0:(List UInt8)->Option R)(kr:Int->(List UInt8)->Option R):Nat->Int->(List UInt8)->Option R
 |0=>(fun _ _=>none)
 |n+1=>(fun v8 Av=>qbe v0 v7 v8 Av (qbf v0 v7 kx0 kr n) kx0 kr)
def qef {R:Type}:=hull (qbf (R:=R))
theorem qi2 {R:Type}:qef (R:=R)=qbf:=qa _
def qje {R:Type}(KK:AV->Mem->Option R):SubB Tryz.prog (TIof Tryz.prog) 19 1 (qdu [.t 4] KK):=lpB tabOk follows Tryz.f171 37 (.s .z (.s (.s .z (.v [.sel [] [0]])) (.s (.b (.s .z (.s (.r [(3,.p (.etac 14 [.s])),(5,.s (.sel [0,1,5,7,8,11,15] [0])),(5,.r qbgp)] []) (.s (.s .z (.v [.sel [4] [0]])) .z)))) (.v [.sel [0,1,7,8] [0]])))) S82_ (qbf (R:=R)) (fun f v K n=>f (v.l 0 0) (v.i 28 0) (qd0 K) (qd1 KK) n) (fun v f K=>qbe (v.l 0 0) (v.i 28 0) (v.i 32 0) (v.s 3 0) f (qd0 K) (qd1 KK)) (fun f v=>f (v.i 32 0) (v.s 3 0)) (fun k v=>(fun z0 z1=>k ((v.ui 32 0 z0).us 3 0 z1)))
def qkb {R:Type}(KK:AV->Mem->Option R):=(fun v4 Av=>KK (.int .i64 v4) (qh [(some (.box true [(.str Av)]))]))
def qb1 {R:Type}(v0:LA)(Av:LU)(kr:Int->(List UInt8)->Option R):Option R:=
 (qef v0 (v0.length:Int) (fun b0_0q1=>(kr (-1:Int) b0_0q1)) kr FU (0:Int) Av)
def qer {R:Type}:=hull (qb1 (R:=R))
theorem qkc {R:Type}:qer (R:=R)=qb1:=qa _
def qkk {R:Type}:RefB Tryz.prog R:=refB (nt:=19) (nb:=1) tabOk follows Tryz.func171 [.t 4] (fun KK=>.s .z (.s (.s .z (.b (.sub [.sel [0,1,7,8] [0]] (qje KK) []))) (.s .z (.v [.sel [4] [0]])))) S83_ (qb1 (R:=R)) (fun f v KK=>f (v.l 0 0) (v.s 3 0) (qkb KK)) (by kernel_rfl) (by kernel_rfl) (fun _=>(by kernel_rfl)) rfl
def qi3 {R:Type}(KK:AV->Mem->Option R):=(fun v4 Av=>KK (.bool v4) (qh [(some (.box true [(.str Av)]))]))
def qbx {R:Type}(v0:LA)(Av:LU)(kr:Bool->(List UInt8)->Option R):Option R:=
 (qer v0 Av fun v4q1 b0_0q2=>(kr (decide (v4q1>=0)) b0_0q2))
def qeg {R:Type}:=hull (qbx (R:=R))
theorem qi4 {R:Type}:qeg (R:=R)=qbx:=qa _
def qjf {R:Type}:RefB Tryz.prog R:=refB (nt:=9) (nb:=1) tabOk follows Tryz.func118 [.t 4] (fun KK=>.s .z (.s (.r [(2,.s (.sel [5,6] [0])),(2,.r qkk)] []) (.v [.sel [4] [0]]))) S83_ (qbx (R:=R)) (fun f v KK=>f (v.l 0 0) (v.s 3 0) (qi3 KK)) (by kernel_rfl) (by kernel_rfl) (fun _=>(by kernel_rfl)) rfl
def S84_:Shp:=⟨[(0,.one (.l (.sl 1))),(1,.one (.l .s))],[]⟩
def qpf (v0:LA)(v1:LU):Option Bool:=
 (qeg v0 v1 fun v4q1 b0_0q2=>(some v4q1))
def qt1:=hull qpf
theorem qbkk:qt1=qpf:=qa _
def q4i {R:Type}:EntF Tryz.prog R:=entB (nt:=8) (dec:=decB) (enc:=AV.bool) tabOk follows Tryz.func61 [.t 4] hdeB (.s .z (.s (.r [(2,.s (.sel [5,6] [0])),(2,.r qjf)] []) .z)) S84_ qpf (fun f v=>f (v.l 0 0) (v.s 4 0))
def qbui {R:Type}(vs:LA)(m:Mem)(K:AV->Mem->Option R):Option R:=q1q 5 48 vs m K
theorem qbdp {R:Type}:qne Tryz.prog 100 (qbui (R:=R)):=qbtc (ρ:=q65 100 159 160 0 3 4 23 35) tabOk (qbp7 follows "slices.Insert[[]ddi/api.Host,ddi/api.Host]" (by kernel_rfl) (by kernel_rfl) Tryz.func159 (by kernel_rfl) (by kernel_rfl) (by kernel_rfl) (by kernel_rfl) (by kernel_rfl) (by kernel_rfl) (by kernel_rfl) (by kernel_rfl) (by kernel_rfl) (by kernel_rfl) (by kernel_rfl) (by kernel_rfl) (by kernel_rfl) (by kernel_rfl) (by kernel_rfl) (by kernel_rfl) (by kernel_rfl)) (by kernel_rfl) (by kernel_rfl) (by decide) (by decide)
def S85_:Shp:=⟨[(0,.st [(.own 0),(.own 1),(.own 2)]),(1,.st (lk qj))],[.arr true 8,.arr true 5,.arr true 1]⟩
def qbgq:AV->Option (AV×Int):=decN [(.st [(.fr true 8),(.fr true 5),(.fr true 1)]),(.one (.i .i64))] fun z=>((gC (tpL z) 0),aI (gC (tpL z) 1))
def qpg (B7:LU)(B8:Bool)(B9 Ca Cb:Int)(a0 a1 a2:LA):Option (AV×Int):=
 (bif hd ([(.agg [(.str B7),(.bool B8),(.int .u64 B9),(.int .u64 Ca),(.int .i64 Cb)])]:List AV) (([(.agg [(.str B7),(.bool B8),(.int .u64 B9),(.int .u64 Ca),(.int .i64 Cb)])]:List AV).length)then(oB (q2d ([(.agg [(.str B7),(.bool B8),(.int .u64 B9),(.int .u64 Ca),(.int .i64 Cb)])]:List AV)) fun r1=>(bif(r1 != (0:Int))then(bif hd ([]:List AV) (([]:List AV).length)then(bif hd ([]:List AV) (([]:List AV).length)then(bif hd ([]:List AV) (([]:List AV).length)then(some ((.agg [(.fr true 8 ([]:List AV)),(.fr true 5 ([]:List AV)),(.fr true 1 ([]:List AV))]),r1))else none)else none)else none)else(bif hd a1 a1.length then(oB (qu8 a1 B7 B8 B9 Ca Cb) fun r2=>(bif r2.2 then(bif hd ([]:List AV) (([]:List AV).length)then(bif hd ([]:List AV) (([]:List AV).length)then(bif hd ([]:List AV) (([]:List AV).length)then(some ((.agg [(.fr true 8 ([]:List AV)),(.fr true 5 ([]:List AV)),(.fr true 1 ([]:List AV))]),(12:Int)))else none)else none)else none)else(bif(decide ((a1.length:Int)>=256))then(bif hd ([]:List AV) (([]:List AV).length)then(bif hd ([]:List AV) (([]:List AV).length)then(bif hd ([]:List AV) (([]:List AV).length)then(some ((.agg [(.fr true 8 ([]:List AV)),(.fr true 5 ([]:List AV)),(.fr true 1 ([]:List AV))]),(9:Int)))else none)else none)else none)else(bif hd a0 a0.length then(oB (qrq a0 B7 B8 B9 Ca Cb) fun r3=>(bif(!r3)then(bif hd ([]:List AV) (([]:List AV).length)then(bif hd ([]:List AV) (([]:List AV).length)then(bif hd ([]:List AV) (([]:List AV).length)then(some ((.agg [(.fr true 8 ([]:List AV)),(.fr true 5 ([]:List AV)),(.fr true 1 ([]:List AV))]),(25:Int)))else none)else none)else none)else(bif hd a2 a2.length then(oB (qt1 a2 B7) fun r4=>(bif(!r4)then(bif hd ([]:List AV) (([]:List AV).length)then(bif hd ([]:List AV) (([]:List AV).length)then(bif hd ([]:List AV) (([]:List AV).length)then(some ((.agg [(.fr true 8 ([]:List AV)),(.fr true 5 ([]:List AV)),(.fr true 1 ([]:List AV))]),(13:Int)))else none)else none)else none)else(bif hd a1 a1.length then(bif hd ([(.agg [(.str B7),(.bool B8),(.int .u64 B9),(.int .u64 Ca),(.int .i64 Cb)])]:List AV) (([(.agg [(.str B7),(.bool B8),(.int .u64 B9),(.int .u64 Ca),(.int .i64 Cb)])]:List AV).length)then(oB (qow 48 a1 r2.1 ([(.agg [(.str B7),(.bool B8),(.int .u64 B9),(.int .u64 Ca),(.int .i64 Cb)])]:List AV)) fun r5=>(bif hd a0 a0.length then(bif hd r5 r5.length then(bif hd a2 a2.length then(some ((.agg [(.fr true 8 a0),(.fr true 5 r5),(.fr true 1 a2)]),(0:Int)))else none)else none)else none))else none)else none)))else none)))else none))))else none)))else none)
def qzq:=hull qpg
theorem qbkl:qzq=qpg:=qa _
def qbms {R:Type}:EatB Tryz.prog R:=eatB (nt:=55) (nb:=3) (dec:=qbgq) (enc:=(fun r=>.tup [qcl (.st [(.fr true 8),(.fr true 5),(.fr true 1)]) r.1,.int .i64 r.2])) tabOk follows Tryz.func43 [(.cell 4 true 3),.t 5] (hdeN fun _=>rfl) (.s .z (.s (.s (.r [(2,.c qboi.b)] []) (.s .z (.s (.s .z (.v [.ownc 5 0 8,.ownc 5 1 5,.ownc 5 2 1])) .z))) (.s (.r [(3,.c q2e.b)] []) (.s (.b (.s .z (.s (.s .z (.v [.ownc 5 0 8,.ownc 5 1 5,.ownc 5 2 1])) (.s .z (.s (.s .z (.v [.ownc 5 0 8,.ownc 5 1 5,.ownc 5 2 1])) (.s (.r [(3,.c q2n.b)] []) (.s (.s .z (.v [.ownc 5 0 8,.ownc 5 1 5,.ownc 5 2 1])) (.s (.r [(4,.c q4i.b)] []) (.s (.s .z (.v [.ownc 5 0 8,.ownc 5 1 5,.ownc 5 2 1])) .z))))))))) (.s (.r [(5,.r (rB qbdp))] []) .z))))) S85_ qpg (fun f v=>f (v.s 5 0) (v.b 5 1) (v.i 5 2) (v.i 5 3) (v.i 5 4) (v.r 0) (v.r 1) (v.r 2)) (by kernel_rfl) (by kernel_rfl) (by kernel_rfl) rfl
def qbuj {R:Type}(vs:LA)(m:Mem)(K:AV->Mem->Option R):Option R:=q1p 5 vs m K
theorem qbuk {R:Type}:qne Tryz.prog 101 (qbuj (R:=R)):=qbtb (ρ:=q64 101 0 3 4 23 35) tabOk (qbp6 follows "slices.Delete[[]ddi/api.Host,ddi/api.Host]" (by kernel_rfl) (by kernel_rfl) (by kernel_rfl) (by kernel_rfl) (by kernel_rfl) (by kernel_rfl) (by kernel_rfl) (by kernel_rfl) (by kernel_rfl) (by kernel_rfl) (by kernel_rfl) (by kernel_rfl) (by kernel_rfl) (by kernel_rfl)) (by kernel_rfl) (by decide)
def q8r:AV->Option (AV×AV×Int):=decN [(.st [(.fr true 8),(.fr true 5),(.fr true 1)]),(.st [.s,.b,(.i .u64),(.i .u64),(.i .i64)]),(.one (.i .i64))] fun z=>((gC (tpL z) 0),(gC (tpL z) 1),aI (gC (tpL z) 2))
def qlr (B7:LU)(B8:Bool)(B9 Ca Cb:Int)(a0 a1 a2:LA):Option (AV×AV×Int):=
 (bif hd a1 a1.length then(oB (qu8 a1 B7 B8 B9 Ca Cb) fun r1=>(bif(!r1.2)then(bif hd ([]:List AV) (([]:List AV).length)then(bif hd ([]:List AV) (([]:List AV).length)then(bif hd ([]:List AV) (([]:List AV).length)then(some ((.agg [(.fr true 8 ([]:List AV)),(.fr true 5 ([]:List AV)),(.fr true 1 ([]:List AV))]),(.agg [(.str ([]:List UInt8)),(.bool false),(.int .u64 (0:Int)),(.int .u64 (0:Int)),(.int .i64 (0:Int))]),(11:Int)))else none)else none)else none)else(bif hd a1 a1.length then(bif decide (0<=r1.1/\r1.1<a1.length)then(bif hd a1 a1.length then(oB (a1[r1.1.toNat]?) fun y2=>(oB (rdE y2 0 true 5) fun z3=>(bif fitV (.st qj) z3 then(bif hd a1 a1.length then(oB (qxd a1 r1.1 (IntKind.i64.wrap (r1.1+1))) fun r4=>(bif hd a0 a0.length then(bif hd r4 r4.length then(bif hd a2 a2.length then(some ((.agg [(.fr true 8 a0),(.fr true 5 r4),(.fr true 1 a2)]),(.agg [(.str (gS z3.cells 0)),(.bool (gB z3.cells 1)),(.int .u64 (gI z3.cells 2)),(.int .u64 (gI z3.cells 3)),(.int .i64 (gI z3.cells 4))]),(0:Int)))else none)else none)else none))else none)else none)))else none)else none)else none)))else none)
def qkd:=hull qlr
theorem qba9:qkd=qlr:=qa _
def qrc {R:Type}:EatB Tryz.prog R:=eatB (nt:=35) (nb:=3) (dec:=q8r) (enc:=(fun r=>.tup [qcl (.st [(.fr true 8),(.fr true 5),(.fr true 1)]) r.1,qcl (.st [.s,.b,(.i .u64),(.i .u64),(.i .i64)]) r.2.1,.int .i64 r.2.2])) tabOk follows Tryz.func44 [(.cell 4 true 3),(.cell 5 true 5),.t 6] (hdeN fun _=>rfl) (.s .z (.s (.r [(3,.c q2e.b)] []) (.s (.s .z (.s (.s .z (.v [.ownc 5 0 8,.ownc 5 1 5,.ownc 5 2 1])) .z)) (.s (.r [(4,.p (.eta 25 (.st qj)))] []) (.s (.r [(5,.r (rB qbuk))] []) .z))))) S85_ qlr (fun f v=>f (v.s 5 0) (v.b 5 1) (v.i 5 2) (v.i 5 3) (v.i 5 4) (v.r 0) (v.r 1) (v.r 2)) (by kernel_rfl) (by kernel_rfl) (by kernel_rfl) rfl
def qr1 (v0:LU):Option Bool:=
 (oB (qsy v0) fun r1=>(bif(decide ((r1.length:Int)>0))then(oB (ixB r1 (0:Int)) fun y2=>(bif fitC [.s] y2.cells then(some ((gS y2.cells 0)==([42]:List UInt8)))else none))else(some false)))
def q2f:=hull qr1
theorem qbmt:q2f=qr1:=qa _
def qbom {R:Type}:EntF Tryz.prog R:=entB (nt:=15) (dec:=decB) (enc:=AV.bool) tabOk follows Tryz.func102 [.t 2] hdeB (.s .z (.s (.r [(1,.k qzp.b)] []) (.s (.r [(5,.p (.etac 11 [.s]))] []) .z))) S69_ qr1 (fun f v=>f (v.s 0 0))
def S86_:Shp:=⟨[(2,.one (.l .s)),(3,.one (.ptr 0 0)),(4,.one (.ptr 1 0)),(6,.one (.ptr 2 0)),(8,.one (.ptr 3 0))],[.box true [(.own 4),(.own 5),(.own 6)],.box true (lk qj),.box true [(.l .nil),(.l .nil),(.l .nil)],.box true (lk qj),.arr true 8,.arr true 5,.arr true 1]⟩
def S87_:Shp:=⟨[(0,.st (lk qbl)),(1,.st (lk qj)),(2,.one (.l .s))],[]⟩
def q2x:AV->Option (AV×Int):=decN [(.st [(.fr true 8),(.fr true 5),(.fr true 1)]),(.one (.i .i64))] fun z=>((gC (tpL z) 0),aI (gC (tpL z) 1))
def qbba (v2 Ad:LU)(Ae:Bool)(Af Ag Ah:Int)(Cf:LU)(Cg:Bool)(Ch Ci Cj:Int)(a4 a5 a6:LA)(K:Ex->Env->Mem->Option (AV×Int)):=(fun z_v30=>K .norm (qk [(2,(.str v2)),(3,(.ptr 0 0)),(4,(.ptr 1 0)),(6,(.ptr 2 0)),(8,(.ptr 3 0)),(30,(.bool z_v30))]) (qh [(some (.box true [(.own 4 a4.length),(.own 5 a5.length),(.own 6 a6.length)])),(some (.box true (qfm Ad Ae Af Ag Ah))),(some (.box true [.nils,.nils,.nils])),(some (.box true (qfm Cf Cg Ch Ci Cj))),(some (.arr true 8 a4)),(some (.arr true 5 a5)),(some (.arr true 1 a6))]))
def qls (v2 Ad:LU)(Ae:Bool)(Af Ag Ah:Int)(Cf:LU)(Cg:Bool)(Ch Ci Cj:Int)(a4 a5 a6:LA)(kn:Bool->Option (AV×Int)):Option (AV×Int):=
 (oB (qgk v2) fun r1=>(bif(!r1)then(kn true)else(oB (q2f v2) fun r2=>(kn r2))))
def q2y:=hull (qls)
theorem qbbb:q2y=qls:=qa _
def qbei:SubB Tryz.prog (TIof Tryz.prog) 63 0 (kret [(.cell 6 true 3),.t 7] q2x):=jnB tabOk follows Tryz.f45 39 (.r [(1,.c qj0.b),(5,.c qbom.b)] [.sel [2,3,4,6,8,30] [0,1,2,3,4,5,6]]) S86_ (qls) (fun f v K=>f (v.s 8 0) (v.s 7 0) (v.b 7 1) (v.i 7 2) (v.i 7 3) (v.i 7 4) (v.s 15 0) (v.b 15 1) (v.i 15 2) (v.i 15 3) (v.i 15 4) (v.r 4) (v.r 5) (v.r 6) (qbba (v.s 8 0) (v.s 7 0) (v.b 7 1) (v.i 7 2) (v.i 7 3) (v.i 7 4) (v.s 15 0) (v.b 15 1) (v.i 15 2) (v.i 15 3) (v.i 15 4) (v.r 4) (v.r 5) (v.r 6) K))
def qr2 (Aa Ab Ac:LA)(B7:LU)(B8:Bool)(B9 Ca Cb:Int)(v2:LU):Option (AV×Int):=
 (oB (qtn Aa Ab Ac) fun r1=>(bif hd (gL r1.cells 0) ((gL r1.cells 0).length)then(bif hd (gL r1.cells 1) ((gL r1.cells 1).length)then(bif hd (gL r1.cells 2) ((gL r1.cells 2).length)then(bif(hd (gL r1.cells 0) ((gL r1.cells 0).length)&&(hd (gL r1.cells 1) ((gL r1.cells 1).length)&&(hd (gL r1.cells 2) ((gL r1.cells 2).length)&&true)))then(oB (qkd B7 B8 B9 Ca Cb (gL r1.cells 0) (gL r1.cells 1) (gL r1.cells 2)) fun r2=>(bif(r2.2.2 != (0:Int))then(bif hd ([]:List AV) (([]:List AV).length)then(bif hd ([]:List AV) (([]:List AV).length)then(bif hd ([]:List AV) (([]:List AV).length)then(some ((.agg [(.fr true 8 ([]:List AV)),(.fr true 5 ([]:List AV)),(.fr true 1 ([]:List AV))]),r2.2.2))else none)else none)else none)else(bif(hd (gL r2.1.cells 0) ((gL r2.1.cells 0).length)&&(hd (gL r2.1.cells 1) ((gL r2.1.cells 1).length)&&(hd (gL r2.1.cells 2) ((gL r2.1.cells 2).length)&&true)))then(q2y v2 B7 B8 B9 Ca Cb (gS r2.2.1.cells 0) (gB r2.2.1.cells 1) (gI r2.2.1.cells 2) (gI r2.2.1.cells 3) (gI r2.2.1.cells 4) (gL r2.1.cells 0) (gL r2.1.cells 1) (gL r2.1.cells 2) (fun v30q3=>(bif v30q3 then(bif hd ([]:List AV) (([]:List AV).length)then(bif hd ([]:List AV) (([]:List AV).length)then(bif hd ([]:List AV) (([]:List AV).length)then(some ((.agg [(.fr true 8 ([]:List AV)),(.fr true 5 ([]:List AV)),(.fr true 1 ([]:List AV))]),(2:Int)))else none)else none)else none)else(bif hd (gL r2.1.cells 1) ((gL r2.1.cells 1).length)then(oB (qu8 (gL r2.1.cells 1) v2 (gB r2.2.1.cells 1) (gI r2.2.1.cells 2) (gI r2.2.1.cells 3) (gI r2.2.1.cells 4)) fun r4=>(bif(r4.2||(v2==B7))then(bif hd ([]:List AV) (([]:List AV).length)then(bif hd ([]:List AV) (([]:List AV).length)then(bif hd ([]:List AV) (([]:List AV).length)then(some ((.agg [(.fr true 8 ([]:List AV)),(.fr true 5 ([]:List AV)),(.fr true 1 ([]:List AV))]),(12:Int)))else none)else none)else none)else(bif hd (gL r2.1.cells 2) ((gL r2.1.cells 2).length)then(oB (qt1 (gL r2.1.cells 2) v2) fun r5=>(bif(!r5)then(bif hd ([]:List AV) (([]:List AV).length)then(bif hd ([]:List AV) (([]:List AV).length)then(bif hd ([]:List AV) (([]:List AV).length)then(some ((.agg [(.fr true 8 ([]:List AV)),(.fr true 5 ([]:List AV)),(.fr true 1 ([]:List AV))]),(13:Int)))else none)else none)else none)else(bif hd (gL r2.1.cells 1) ((gL r2.1.cells 1).length)then(bif hd ([(.agg [(.str v2),(.bool (gB r2.2.1.cells 1)),(.int .u64 (gI r2.2.1.cells 2)),(.int .u64 (gI r2.2.1.cells 3)),(.int .i64 (gI r2.2.1.cells 4))])]:List AV) (([(.agg [(.str v2),(.bool (gB r2.2.1.cells 1)),(.int .u64 (gI r2.2.1.cells 2)),(.int .u64 (gI r2.2.1.cells 3)),(.int .i64 (gI r2.2.1.cells 4))])]:List AV).length)then(oB (qow 48 (gL r2.1.cells 1) r4.1 ([(.agg [(.str v2),(.bool (gB r2.2.1.cells 1)),(.int .u64 (gI r2.2.1.cells 2)),(.int .u64 (gI r2.2.1.cells 3)),(.int .i64 (gI r2.2.1.cells 4))])]:List AV)) fun r6=>(bif hd (gL r2.1.cells 0) ((gL r2.1.cells 0).length)then(bif hd r6 r6.length then(bif hd (gL r2.1.cells 2) ((gL r2.1.cells 2).length)then(some ((.agg [(.fr true 8 (gL r2.1.cells 0)),(.fr true 5 r6),(.fr true 1 (gL r2.1.cells 2))]),(0:Int)))else none)else none)else none))else none)else none)))else none)))else none))))else none)))else none)else none)else none)else none))
def q2g:=hull qr2
theorem qbmu:q2g=qr2:=qa _
def qbon {R:Type}:EntF Tryz.prog R:=entB (nt:=63) (dec:=q2x) (enc:=(fun r=>.tup [qcl (.st [(.fr true 8),(.fr true 5),(.fr true 1)]) r.1,.int .i64 r.2])) tabOk follows Tryz.func45 [(.cell 6 true 3),.t 7] (hdeN fun _=>rfl) (.s .z (.s (.d5 [] [(1,qxi.eat),(3,qrc)] [] []) (.s (.s .z (.s (.s .z (.v [.ownc 2 0 8,.ownc 2 1 5,.ownc 2 2 1])) .z)) (.s (.s (.sub [.sel [2,3,4,6,8] [0,1,2,9,6,7,8]] qbei []) (.s (.s .z (.v [.ownc 2 0 8,.ownc 2 1 5,.ownc 2 2 1])) .z)) (.s .z (.s (.s (.r [(3,.c q2e.b)] []) (.s (.r [(2,.g 4)] []) (.s (.s .z (.v [.ownc 2 0 8,.ownc 2 1 5,.ownc 2 2 1])) (.s (.r [(3,.c q4i.b)] []) (.s (.s .z (.v [.ownc 2 0 8,.ownc 2 1 5,.ownc 2 2 1])) (.r [(5,.r (rB qbdp))] [])))))) .z)))))) S87_ qr2 (fun f v=>f (v.l 1 0) (v.l 1 1) (v.l 1 2) (v.s 5 0) (v.b 5 1) (v.i 5 2) (v.i 5 3) (v.i 5 4) (v.s 8 0))
def S88_:Shp:=⟨[(2,.one (.ptr 0 0)),(4,.one (.ptr 1 0)),(8,.one (.l (.i .i64)))],[.box true (lk qbl),.box true [(.l .nil),(.l .nil),(.l .nil)]]⟩
def S89_:Shp:=⟨[(2,.one (.ptr 0 0)),(3,.one (.ptr 1 0)),(4,.one (.ptr 2 0)),(8,.one (.l (.i .i64)))],[.box true [(.own 3),(.own 4),(.own 5)],.box true (lk qbh),.box true [(.l .nil),(.l .nil),(.l .nil)],.arr true 8,.arr true 5,.arr true 1]⟩
def S90_:Shp:=⟨[(0,.st (lk qbl)),(1,.st (lk qbh))],[]⟩
def qwb:AV->Option (AV×Int):=decN [(.st [(.sl 8),(.sl 5),(.sl 1)]),(.one (.i .i64))] fun z=>((gC (tpL z) 0),aI (gC (tpL z) 1))
def qbej (v8:Int)(K:Ex->Env->Mem->Option (AV×Int)):=(fun z_v56 z_b0_0 z_b0_1 z_b0_2=>K .norm (qk [(2,(.ptr 0 0)),(4,(.ptr 1 0)),(8,(.int .i64 v8)),(56,(.bool z_v56))]) (qh [(some (.box true (qbr z_b0_0 z_b0_1 z_b0_2))),(some (.box true [.nils,.nils,.nils]))]))
def qmm (v8:Int)(Av Aw Ax:LA)(kn:Bool->(List AV)->(List AV)->(List AV)->Option (AV×Int)):Option (AV×Int):=
 (bif(v8==0)then(qck Aw Av Aw Ax fun v4q1 b0_0q2 b0_1q3 b0_2q4=>(kn v4q1 b0_0q2 b0_1q3 b0_2q4))else(kn false Av Aw Ax))
def q4j:=hull (qmm)
theorem qbek:q4j=qmm:=qa _
def qbgr:SubB Tryz.prog (TIof Tryz.prog) 115 0 (kret [(.cell 4 true 3),.t 5] qwb):=jnB tabOk follows Tryz.f14 11183 (.r [(6,.s (.sel [2,4,8,51,53,54] [0,1])),(6,.r qiq)] [.sel [2,4,8,56] [0,1]]) S88_ (qmm) (fun f v K=>f (v.i 32 0) (v.l 3 0) (v.l 3 1) (v.l 3 2) (qbej (v.i 32 0) K))
def qbel (K:Ex->Env->Mem->Option (AV×Int)):=(fun z_v8 z_b0_0 z_b0_1 z_b0_2=>K .norm (qk [(2,(.ptr 0 0)),(4,(.ptr 1 0)),(8,(.int .i64 z_v8))]) (qh [(some (.box true (qbr z_b0_0 z_b0_1 z_b0_2))),(some (.box true [.nils,.nils,.nils]))]))
def qmn (v8 Ad:Int)(Ae:Bool)(Af Ag Ah Ai:Int)(Aj Ak:LU)(Al Am An:Int)(Ao:LU)(Ap:Bool)(Aq Ar As:Int)(At:LU)(a3 a4 a5:LA)(kn:Int->(List AV)->(List AV)->(List AV)->Option (AV×Int)):Option (AV×Int):=
 (bif(Ad==1)then(bif hd a3 a3.length then(oB (q3e a3 Ae Af Ag Ah Ai Aj Ak Al) fun r1=>(bif hd a4 a4.length then(bif hd a5 a5.length then(kn r1.2 r1.1 a4 a5)else none)else none))else none)else(bif(Ad==2)then(bif hd a3 a3.length then(oB (q17 a3 Ae Af Ag Ah) fun r2=>(bif hd a4 a4.length then(bif hd a5 a5.length then(q4j r2.2 r2.1 a4 a5 (fun v56q3 b0_0q4 b0_1q5 b0_2q6=>(bif v56q3 then(kn (25:Int) b0_0q4 b0_1q5 b0_2q6)else(kn r2.2 b0_0q4 b0_1q5 b0_2q6))))else none)else none))else none)else(bif(Ad==3)then(bif hd a3 a3.length then(oB (qnw a3 Ae Af Ag Ah Am An Aj Ak) fun r7=>(bif hd a4 a4.length then(bif hd a5 a5.length then(kn r7.2.2 r7.1 a4 a5)else none)else none))else none)else(bif(Ad==4)then(bif hd a3 a3.length then(bif hd a4 a4.length then(bif hd a5 a5.length then(bif(hd a3 (a3.length)&&(hd a4 (a4.length)&&(hd a5 (a5.length)&&true)))then(oB (qzq Ao Ap Aq Ar As a3 a4 a5) fun r8=>(bif hd (gL r8.1.cells 0) ((gL r8.1.cells 0).length)then(bif hd (gL r8.1.cells 1) ((gL r8.1.cells 1).length)then(bif hd (gL r8.1.cells 2) ((gL r8.1.cells 2).length)then(kn r8.2 (gL r8.1.cells 0) (gL r8.1.cells 1) (gL r8.1.cells 2))else none)else none)else none))else none)else none)else none)else none)else(bif(Ad==5)then(bif hd a3 a3.length then(bif hd a4 a4.length then(bif hd a5 a5.length then(bif(hd a3 (a3.length)&&(hd a4 (a4.length)&&(hd a5 (a5.length)&&true)))then(oB (qkd Ao Ap Aq Ar As a3 a4 a5) fun r9=>(bif hd (gL r9.1.cells 0) ((gL r9.1.cells 0).length)then(bif hd (gL r9.1.cells 1) ((gL r9.1.cells 1).length)then(bif hd (gL r9.1.cells 2) ((gL r9.1.cells 2).length)then(kn r9.2.2 (gL r9.1.cells 0) (gL r9.1.cells 1) (gL r9.1.cells 2))else none)else none)else none))else none)else none)else none)else none)else(bif(Ad==6)then(bif hd a3 a3.length then(bif hd a4 a4.length then(bif hd a5 a5.length then(oB (q2g a3 a4 a5 Ao Ap Aq Ar As At) fun r10=>(kn r10.2 (gL r10.1.cells 0) (gL r10.1.cells 1) (gL r10.1.cells 2)))else none)else none)else none)else(bif hd a3 a3.length then(bif hd a4 a4.length then(bif hd a5 a5.length then(kn v8 a3 a4 a5)else none)else none)else none)))))))
def q4k:=hull (qmn)
theorem qbem:q4k=qmn:=qa _
def qbgs:SubB Tryz.prog (TIof Tryz.prog) 115 0 (kret [(.cell 4 true 3),.t 5] qwb):=jnB tabOk follows Tryz.f14 47 (.s .z (.b (.s .z (.s (.r [(4,.k qbf3.b)] [.snapb 0,.sel [2,4,8] [0,2]]) (.s .z (.s (.s (.r [(5,.k qbob.b)] []) (.s (.sub [.snapb 0,.sel [2,4,8] [0,2]] qbgr []) (.s (.v [.sel [2,4,8] [0,1]]) (.v [.sel [2,4,8] [0,1]])))) (.s .z (.s (.r [(15,.k qy1.b)] [.snapb 0,.sel [2,4,8] [0,2]]) (.s .z (.s (.r [(3,.r qbms.r)] [.snapb 0,.sel [2,4,8] [0,2]]) (.s .z (.s (.r [(3,.r qrc.r)] [.snapb 0,.sel [2,4,8] [0,2]]) (.s .z (.s (.r [(5,.k qbon.b)] [.sel [2,4,8] [0,2]]) (.v [.snapb 0,.sel [2,4,8] [0,2]]))))))))))))))) S89_ (qmn) (fun f v K=>f (v.i 32 0) (v.i 7 0) (v.b 7 1) (v.i 7 2) (v.i 7 3) (v.i 7 4) (v.i 7 5) (v.s 7 6) (v.s 7 7) (v.i 7 8) (v.i 7 9) (v.i 7 10) (v.s 7 11) (v.b 7 12) (v.i 7 13) (v.i 7 14) (v.i 7 15) (v.s 7 16) (v.r 3) (v.r 4) (v.r 5) (qbel K))
def qt2 (Aa Ab Ac:LA)(B7:Int)(B8:Bool)(B9 Ca Cb Cc:Int)(Cd Ce:LU)(C0 C1 C2:Int)(C3:LU)(C4:Bool)(C5 C6 C7:Int)(C8:LU):Option (AV×Int):=
 (oB (q7e B7 B8 B9 Ca Cb Cc Cd Ce C0 C1 C2 C3 C4 C5 C6 C7 C8) fun r1=>(bif((!r1.2)||(!(((gI r1.1.cells 0)==B7)&&(((gB r1.1.cells 1)==B8)&&(((gI r1.1.cells 2)==B9)&&(((gI r1.1.cells 3)==Ca)&&(((gI r1.1.cells 4)==Cb)&&(((gI r1.1.cells 5)==Cc)&&(((gS r1.1.cells 6)==Cd)&&(((gS r1.1.cells 7)==Ce)&&(((gI r1.1.cells 8)==C0)&&(((gI r1.1.cells 9)==C1)&&(((gI r1.1.cells 10)==C2)&&(((gS r1.1.cells 11)==C3)&&(((gB r1.1.cells 12)==C4)&&(((gI r1.1.cells 13)==C5)&&(((gI r1.1.cells 14)==C6)&&(((gI r1.1.cells 15)==C7)&&(((gS r1.1.cells 16)==C8)&&true)))))))))))))))))))then(some ((.agg [(.sl 8 ([]:List AV)),(.sl 5 ([]:List AV)),(.sl 1 ([]:List AV))]),(1:Int)))else(oB (qtn Aa Ab Ac) fun r2=>(bif(hd (gL r2.cells 0) ((gL r2.cells 0).length)&&(hd (gL r2.cells 1) ((gL r2.cells 1).length)&&(hd (gL r2.cells 2) ((gL r2.cells 2).length)&&true)))then(q4k (0:Int) B7 B8 B9 Ca Cb Cc Cd Ce C0 C1 C2 C3 C4 C5 C6 C7 C8 (gL r2.cells 0) (gL r2.cells 1) (gL r2.cells 2) (fun v8q3 b0_0q4 b0_1q5 b0_2q6=>(bif(v8q3 != (0:Int))then(some ((.agg [(.sl 8 ([]:List AV)),(.sl 5 ([]:List AV)),(.sl 1 ([]:List AV))]),v8q3))else(some ((.agg [(.sl 8 b0_0q4),(.sl 5 b0_1q5),(.sl 1 b0_2q6)]),(0:Int))))))else none))))
def qcw:=hull qt2
theorem qboo:qcw=qt2:=qa _
def qk9 {R:Type}:EntF Tryz.prog R:=entB (nt:=115) (dec:=qwb) (enc:=(fun r=>.tup [qcl (.st [(.sl 8),(.sl 5),(.sl 1)]) r.1,.int .i64 r.2])) tabOk follows Tryz.func14 [(.cell 4 true 3),.t 5] (hdeN fun _=>rfl) (.s .z (.s (.s (.r [(1,.c qbt3.b)] []) (.s (.r [(3,.g 3)] []) (.s (.s .z (.v [.nilc 2 0 8,.nilc 2 1 5,.nilc 2 2 1])) .z))) (.s (.r [(1,.c qxi.b)] []) (.s .z (.s (.sub [.sel [2,3,4,8] [0,1,2,4,5,6]] qbgs []) (.s (.s .z (.s (.s .z (.v [.nilc 1 0 8,.nilc 1 1 5,.nilc 1 2 1])) .z)) .z)))))) S90_ qt2 (fun f v=>f (v.l 1 0) (v.l 1 1) (v.l 1 2) (v.i 5 0) (v.b 5 1) (v.i 5 2) (v.i 5 3) (v.i 5 4) (v.i 5 5) (v.s 5 6) (v.s 5 7) (v.i 5 8) (v.i 5 9) (v.i 5 10) (v.s 5 11) (v.b 5 12) (v.i 5 13) (v.i 5 14) (v.i 5 15) (v.s 5 16))
def qmo (Aa Ab Ac:LA)(B7:Int)(B8:Bool)(B9 Ca Cb Cc:Int)(Cd Ce:LU)(C0 C1 C2:Int)(C3:LU)(C4:Bool)(C5 C6 C7:Int)(C8:LU):Option AV:=
 (oB (qnw Aa B8 B9 Ca Cb C1 C2 Cd Ce) fun r1=>(oB (qqv r1.1 (gB r1.2.1.cells 0) (gI r1.2.1.cells 1) (gI r1.2.1.cells 2) (gI r1.2.1.cells 3)) fun r2=>(some (.agg [(.bool (gB r2.1.cells 0)),(.int .u64 (gI r2.1.cells 1)),(.int .u64 (gI r2.1.cells 2)),(.int .i64 (gI r2.1.cells 3)),(.int .i64 (gI r2.1.cells 4)),(.str (gS r2.1.cells 5)),(.str (gS r2.1.cells 6)),(.int .i64 (gI r2.1.cells 7))]))))
def qph:=hull qmo
theorem qben:qph=qmo:=qa _
def q01 {R:Type}:EntF Tryz.prog R:=entB (nt:=37) (dec:=(decT [.b,(.i .u64),(.i .u64),(.i .i64),(.i .i64),.s,.s,(.i .i64)])) (enc:=(qcl (.st [.b,(.i .u64),(.i .u64),(.i .i64),(.i .i64),.s,.s,(.i .i64)]))) tabOk follows Tryz.func52 [(.cell 4 true 8)] hdeT (.s .z (.s (.r [(15,.k qy1.b)] []) (.s (.r [(2,.c qvs.b)] []) .z))) S90_ qmo (fun f v=>f (v.l 1 0) (v.l 1 1) (v.l 1 2) (v.i 5 0) (v.b 5 1) (v.i 5 2) (v.i 5 3) (v.i 5 4) (v.i 5 5) (v.s 5 6) (v.s 5 7) (v.i 5 8) (v.i 5 9) (v.i 5 10) (v.s 5 11) (v.b 5 12) (v.i 5 13) (v.i 5 14) (v.i 5 15) (v.s 5 16))
def qbgt:AV->Option (AV×Int):=decN [(.st [(.i .i64),.b,(.i .u64),(.i .u64),(.i .i64),(.i .i64),.s,.s,(.i .i64),(.i .i64),(.i .i64),.s,.b,(.i .u64),(.i .u64),(.i .i64),.s]),(.one (.i .i64))] fun z=>((gC (tpL z) 0),aI (gC (tpL z) 1))
def qpi (Aa Ab Ac:LA)(B7:Int)(B8:Bool)(B9 Ca Cb Cc:Int)(Cd Ce:LU)(C0 C1 C2:Int)(C3:LU)(C4:Bool)(C5 C6 C7:Int)(C8:LU):Option (AV×Int):=
 (oB (qcw Aa Ab Ac B7 B8 B9 Ca Cb Cc Cd Ce C0 C1 C2 C3 C4 C5 C6 C7 C8) fun r1=>(bif(r1.2 != (0:Int))then(some ((.agg [(.int .i64 (0:Int)),(.bool false),(.int .u64 (0:Int)),(.int .u64 (0:Int)),(.int .i64 (0:Int)),(.int .i64 (0:Int)),(.str ([]:List UInt8)),(.str ([]:List UInt8)),(.int .i64 (0:Int)),(.int .i64 (0:Int)),(.int .i64 (0:Int)),(.str ([]:List UInt8)),(.bool false),(.int .u64 (0:Int)),(.int .u64 (0:Int)),(.int .i64 (0:Int)),(.str ([]:List UInt8))]),r1.2))else(bif(B7==1)then(some ((.agg [(.int .i64 (2:Int)),(.bool B8),(.int .u64 B9),(.int .u64 Ca),(.int .i64 Cb),(.int .i64 (0:Int)),(.str ([]:List UInt8)),(.str ([]:List UInt8)),(.int .i64 (0:Int)),(.int .i64 (0:Int)),(.int .i64 (0:Int)),(.str ([]:List UInt8)),(.bool false),(.int .u64 (0:Int)),(.int .u64 (0:Int)),(.int .i64 (0:Int)),(.str ([]:List UInt8))]),(0:Int)))else(bif(B7==2)then(oB (qqv Aa B8 B9 Ca Cb) fun r2=>(some ((.agg [(.int .i64 (1:Int)),(.bool (gB r2.1.cells 0)),(.int .u64 (gI r2.1.cells 1)),(.int .u64 (gI r2.1.cells 2)),(.int .i64 (gI r2.1.cells 3)),(.int .i64 (gI r2.1.cells 4)),(.str (gS r2.1.cells 5)),(.str (gS r2.1.cells 6)),(.int .i64 (gI r2.1.cells 7)),(.int .i64 (0:Int)),(.int .i64 (0:Int)),(.str ([]:List UInt8)),(.bool false),(.int .u64 (0:Int)),(.int .u64 (0:Int)),(.int .i64 (0:Int)),(.str ([]:List UInt8))]),(0:Int))))else(bif(B7==3)then(oB (qph Aa Ab Ac B7 B8 B9 Ca Cb Cc Cd Ce C0 C1 C2 C3 C4 C5 C6 C7 C8) fun r3=>(some ((.agg [(.int .i64 (2:Int)),(.bool (gB r3.cells 0)),(.int .u64 (gI r3.cells 1)),(.int .u64 (gI r3.cells 2)),(.int .i64 (gI r3.cells 3)),(.int .i64 (0:Int)),(.str ([]:List UInt8)),(.str ([]:List UInt8)),(.int .i64 (0:Int)),(.int .i64 (0:Int)),(.int .i64 (0:Int)),(.str ([]:List UInt8)),(.bool false),(.int .u64 (0:Int)),(.int .u64 (0:Int)),(.int .i64 (0:Int)),(.str ([]:List UInt8))]),(0:Int))))else(bif(B7==4)then(some ((.agg [(.int .i64 (5:Int)),(.bool false),(.int .u64 (0:Int)),(.int .u64 (0:Int)),(.int .i64 (0:Int)),(.int .i64 (0:Int)),(.str ([]:List UInt8)),(.str ([]:List UInt8)),(.int .i64 (0:Int)),(.int .i64 (0:Int)),(.int .i64 (0:Int)),(.str C3),(.bool C4),(.int .u64 C5),(.int .u64 C6),(.int .i64 (0:Int)),(.str ([]:List UInt8))]),(0:Int)))else(bif(B7==5)then(oB (qtn Aa Ab Ac) fun r4=>(bif hd (gL r4.cells 0) ((gL r4.cells 0).length)then(bif hd (gL r4.cells 1) ((gL r4.cells 1).length)then(bif hd (gL r4.cells 2) ((gL r4.cells 2).length)then(bif(hd (gL r4.cells 0) ((gL r4.cells 0).length)&&(hd (gL r4.cells 1) ((gL r4.cells 1).length)&&(hd (gL r4.cells 2) ((gL r4.cells 2).length)&&true)))then(oB (qkd C3 C4 C5 C6 C7 (gL r4.cells 0) (gL r4.cells 1) (gL r4.cells 2)) fun r5=>(some ((.agg [(.int .i64 (4:Int)),(.bool false),(.int .u64 (0:Int)),(.int .u64 (0:Int)),(.int .i64 (0:Int)),(.int .i64 (0:Int)),(.str ([]:List UInt8)),(.str ([]:List UInt8)),(.int .i64 (0:Int)),(.int .i64 (0:Int)),(.int .i64 (0:Int)),(.str (gS r5.2.1.cells 0)),(.bool (gB r5.2.1.cells 1)),(.int .u64 (gI r5.2.1.cells 2)),(.int .u64 (gI r5.2.1.cells 3)),(.int .i64 (gI r5.2.1.cells 4)),(.str ([]:List UInt8))]),(0:Int))))else none)else none)else none)else none))else(some ((.agg [(.int .i64 (6:Int)),(.bool false),(.int .u64 (0:Int)),(.int .u64 (0:Int)),(.int .i64 (0:Int)),(.int .i64 (0:Int)),(.str ([]:List UInt8)),(.str ([]:List UInt8)),(.int .i64 (0:Int)),(.int .i64 (0:Int)),(.int .i64 (0:Int)),(.str C8),(.bool C4),(.int .u64 C5),(.int .u64 C6),(.int .i64 (0:Int)),(.str C3)]),(0:Int))))))))))
def qt3:=hull qpi
theorem qbkm:qt3=qpi:=qa _
def qbmv {R:Type}:EntF Tryz.prog R:=entB (nt:=86) (dec:=qbgt) (enc:=(fun r=>.tup [qcl (.st [(.i .i64),.b,(.i .u64),(.i .u64),(.i .i64),(.i .i64),.s,.s,(.i .i64),(.i .i64),(.i .i64),.s,.b,(.i .u64),(.i .u64),(.i .i64),.s]) r.1,.int .i64 r.2])) tabOk follows Tryz.func17 [(.cell 4 true 17),.t 5] (hdeN fun _=>rfl) (.s .z (.s (.s (.r [(2,.k qk9.b)] []) .z) (.s (.s .z (.b (.s .z (.s .z (.s .z (.s (.s (.r [(5,.c qvs.b)] []) .z) (.s .z (.s (.s (.r [(2,.c q01.b)] []) .z) (.s .z (.s .z (.s .z (.s (.s (.d5 [] [(1,qxi.eat),(4,qrc)] [] []) .z) .z)))))))))))) .z))) S90_ qpi (fun f v=>f (v.l 1 0) (v.l 1 1) (v.l 1 2) (v.i 5 0) (v.b 5 1) (v.i 5 2) (v.i 5 3) (v.i 5 4) (v.i 5 5) (v.s 5 6) (v.s 5 7) (v.i 5 8) (v.i 5 9) (v.i 5 10) (v.s 5 11) (v.b 5 12) (v.i 5 13) (v.i 5 14) (v.i 5 15) (v.s 5 16))
end
end Go.Proofs.YtoaaphlopbabeaaGreatDoor.Dn
