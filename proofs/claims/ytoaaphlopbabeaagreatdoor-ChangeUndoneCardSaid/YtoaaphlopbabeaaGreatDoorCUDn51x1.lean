import Derived.Test.YtoaaphlopbabeaaGreatDoorProg
import Derived.Test.YtoaaphlopbabeaaGreatDoorCULibD
set_option linter.all false
namespace Go.Proofs.YtoaaphlopbabeaaGreatDoor.Dn
open Go Go.Pev
set_option maxRecDepth 100000
set_option maxHeartbeats 4000000
theorem zT:True:=True.intro
theorem zA {a b:Prop}(x:a)(y:b):a/\b:=⟨x,y⟩
theorem tabOk:Tab.ok (TIof Tryz.prog) Tryz.prog:=fun _ _ h=>h
theorem follows:Tryz.prog.follows .mixedOrders=true:=by kernel_rfl
def qby:List LT:=[(.sl 8),(.sl 5),(.sl 1)]
def S0_:Shp:=⟨[(0,.st (lk qby)),(1,.one (.l (.sl 17)))],[]⟩
noncomputable section
def qoq (Aa Ab Ac v1:LA):Option Bool:=
 (some ((((decide ((Aa.length:Int)>40))||(decide ((Ab.length:Int)>40)))||(decide ((Ac.length:Int)>40)))||(decide ((v1.length:Int)>68))))
def qqu:=hull qoq
theorem q28:qqu=qoq:=qa _
def q52 {R:Type}:EntF Tryz.prog R:=entB (nt:=26) (dec:=decB) (enc:=AV.bool) tabOk follows Tryz.func11 [.t 4] hdeB (.s .z (.s (.r [(5,.g 4),(11,.g 4),(17,.g 3)] []) .z)) S0_ qoq (fun f v=>f (v.l 1 0) (v.l 1 1) (v.l 1 2) (v.l 4 0))
def S1_:Shp:=⟨[(0,.one (.l (.i .i64)))],[]⟩
def qr6 (v0:Int):Option AV:=
 (some (.agg [(.bool false),(.int .u64 (0:Int)),(.int .u64 (167772160:Int)),(.int .i64 v0)]))
def qqv:=hull qr6
theorem q8z:qqv=qr6:=qa _
def qyp {R:Type}:EntF Tryz.prog R:=entB (nt:=6) (dec:=(decT [.b,(.i .u64),(.i .u64),(.i .i64)])) (enc:=(qem (.st [.b,(.i .u64),(.i .u64),(.i .i64)]))) tabOk follows Tryz.func34 [(.cell 2 true 4)] hdeT (.z) S1_ qr6 (fun f v=>f (v.i 0 0))
def qg5:List LT:=[(.i .i64),.b,(.i .u64),(.i .u64),(.i .i64),(.i .i64),.s,.s,(.i .i64),(.i .i64),(.i .i64),.s,.b,(.i .u64),(.i .u64),(.i .i64),.s]
def qqw (x0:Int)(x1:Bool)(x2 x3 x4 x5:Int)(x6 x7:LU)(x8 x9 x10:Int)(x11:LU)(x12:Bool)(x13 x14 x15:Int)(x16:LU):List AV:=[.int .i64 x0,.bool x1,.int .u64 x2,.int .u64 x3,.int .i64 x4,.int .i64 x5,.str x6,.str x7,.int .i64 x8,.int .i64 x9,.int .i64 x10,.str x11,.bool x12,.int .u64 x13,.int .u64 x14,.int .i64 x15,.str x16]
def S2_:Shp:=⟨[(1,.one (.ptr 0 0)),(2,.one (.ptr 1 0)),(4,.one (.ptr 2 0))],[.box true (lk qg5),.box true (lk qg5),.box true (lk qg5)]⟩
def S3_:Shp:=⟨[(0,.st (lk qg5))],[]⟩
def qxa:AV->Option (AV×Bool):=decN [(.st [(.i .i64),.b,(.i .u64),(.i .u64),(.i .i64),(.i .i64),.s,.s,(.i .i64),(.i .i64),(.i .i64),.s,.b,(.i .u64),(.i .u64),(.i .i64),.s]),(.one .b)] fun z=>((gC (tpL z) 0),aB (gC (tpL z) 1))
def q53 (Ad:Int)(Ae:Bool)(Af Ag Ah Ai:Int)(Aj Ak:LU)(Al Am An:Int)(Ao:LU)(Ap:Bool)(Aq Ar As:Int)(At:LU)(Au:Int)(K:Ex->Env->Mem->Option (AV×Bool)):=(fun z_b1_1 z_b1_2 z_b1_3 z_b1_4 z_b1_5 z_b1_6 z_b1_7 z_b1_8 z_b1_9 z_b1_10 z_b1_11 z_b1_12 z_b1_13 z_b1_14 z_b1_15 z_b1_16=>K .norm (qo [(2,(.ptr 0 0)),(4,(.ptr 1 0))]) (qh [(some (.box true (qqw Ad Ae Af Ag Ah Ai Aj Ak Al Am An Ao Ap Aq Ar As At))),(some (.box true (qqw Au z_b1_1 z_b1_2 z_b1_3 z_b1_4 z_b1_5 z_b1_6 z_b1_7 z_b1_8 z_b1_9 z_b1_10 z_b1_11 z_b1_12 z_b1_13 z_b1_14 z_b1_15 z_b1_16)))]))
def qk4 (Av:Int)(Aw:Bool)(Ax Ay Az A0:Int)(A1 A2:LU)(A3 A4 A5:Int)(A6:LU)(A7:Bool)(A8 A9 Ba:Int)(Bb:LU)(Ad:Int)(Ae:Bool)(Af Ag Ah Ai:Int)(Aj Ak:LU)(Al Am An:Int)(Ao:LU)(Ap:Bool)(Aq Ar As:Int)(At:LU)(Au:Int)(Bc:Bool)(Bd Be Bf Bg:Int)(Bh Bi:LU)(Bj Bl Bm:Int)(Bn:LU)(Bo:Bool)(Bp Bq Br:Int)(Bs:LU)(kn:Bool->Int->Int->Int->Int->(List UInt8)->(List UInt8)->Int->Int->Int->(List UInt8)->Bool->Int->Int->Int->(List UInt8)->Option (AV×Bool)):Option (AV×Bool):=
 (bif(Av==1)then(kn Aw Ax Ay Az A0 A1 A2 A3 Bl Bm Bn Bo Bp Bq Br Bs)else(bif(Av==2)then(kn Aw Ax Ay Az Bg Bh Bi Bj Bl Bm Bn Bo Bp Bq Br Bs)else(bif(Av==3)then(kn Aw Ax Ay Az (0:Int) A1 A2 (0:Int) A4 A5 Bn Bo Bp Bq Br Bs)else(bif(Av==4)then(kn Bc Bd Be Bf Bg Bh Bi Bj Bl Bm A6 A7 A8 A9 Ba Bs)else(bif(Av==5)then(kn Bc Bd Be Bf Bg Bh Bi Bj Bl Bm A6 A7 A8 A9 (0:Int) Bs)else(bif(Av==6)then(kn Bc Bd Be Bf Bg Bh Bi Bj Bl Bm A6 A7 A8 A9 (0:Int) Bb)else(some ((.agg [(.int .i64 Au),(.bool Bc),(.int .u64 Bd),(.int .u64 Be),(.int .i64 Bf),(.int .i64 Bg),(.str Bh),(.str Bi),(.int .i64 Bj),(.int .i64 Bl),(.int .i64 Bm),(.str Bn),(.bool Bo),(.int .u64 Bp),(.int .u64 Bq),(.int .i64 Br),(.str Bs)]),false))))))))
def qyq:=hull (qk4)
theorem q54:qyq=qk4:=qa _
def q7m:SubB Tryz.prog (TIof Tryz.prog) 71 0 (kret [(.cell 2 true 17),.t 3] qxa):=jnB tabOk follows Tryz.f35 11 (.s .z (.b (.s .z (.s (.v [.sel [2,4] [1,2]]) (.s .z (.s (.v [.sel [2,4] [1,2]]) (.s .z (.s (.s .z (.d [] [] [] [.sel [2,4] [1,2]])) (.s .z (.s (.v [.sel [2,4] [1,2]]) (.s .z (.s (.v [.sel [2,4] [1,2]]) (.s .z (.s (.s .z (.v [.sel [2,4] [1,2]])) .z)))))))))))))) S2_ (qk4) (fun f v K=>f (v.i 3 0) (v.b 3 1) (v.i 3 2) (v.i 3 3) (v.i 3 4) (v.i 3 5) (v.s 3 6) (v.s 3 7) (v.i 3 8) (v.i 3 9) (v.i 3 10) (v.s 3 11) (v.b 3 12) (v.i 3 13) (v.i 3 14) (v.i 3 15) (v.s 3 16) (v.i 7 0) (v.b 7 1) (v.i 7 2) (v.i 7 3) (v.i 7 4) (v.i 7 5) (v.s 7 6) (v.s 7 7) (v.i 7 8) (v.i 7 9) (v.i 7 10) (v.s 7 11) (v.b 7 12) (v.i 7 13) (v.i 7 14) (v.i 7 15) (v.s 7 16) (v.i 11 0) (v.b 11 1) (v.i 11 2) (v.i 11 3) (v.i 11 4) (v.i 11 5) (v.s 11 6) (v.s 11 7) (v.i 11 8) (v.i 11 9) (v.i 11 10) (v.s 11 11) (v.b 11 12) (v.i 11 13) (v.i 11 14) (v.i 11 15) (v.s 11 16) (q53 (v.i 7 0) (v.b 7 1) (v.i 7 2) (v.i 7 3) (v.i 7 4) (v.i 7 5) (v.s 7 6) (v.s 7 7) (v.i 7 8) (v.i 7 9) (v.i 7 10) (v.s 7 11) (v.b 7 12) (v.i 7 13) (v.i 7 14) (v.i 7 15) (v.s 7 16) (v.i 11 0) K))
def qpb (Aa:Int)(Ab:Bool)(Ac Bt Bu Bv:Int)(Bw Bx:LU)(By Bz B0:Int)(B1:LU)(B2:Bool)(B3 B4 B5:Int)(B6:LU):Option (AV×Bool):=
 (qyq Aa Ab Ac Bt Bu Bv Bw Bx By Bz B0 B1 B2 B3 B4 B5 B6 (0:Int) false (0:Int) (0:Int) (0:Int) (0:Int) ([]:List UInt8) ([]:List UInt8) (0:Int) (0:Int) (0:Int) ([]:List UInt8) false (0:Int) (0:Int) (0:Int) ([]:List UInt8) Aa false (0:Int) (0:Int) (0:Int) (0:Int) ([]:List UInt8) ([]:List UInt8) (0:Int) (0:Int) (0:Int) ([]:List UInt8) false (0:Int) (0:Int) (0:Int) ([]:List UInt8) (fun b1_1q1 b1_2q2 b1_3q3 b1_4q4 b1_5q5 b1_6q6 b1_7q7 b1_8q8 b1_9q9 b1_10q10 b1_11q11 b1_12q12 b1_13q13 b1_14q14 b1_15q15 b1_16q16=>(some ((.agg [(.int .i64 Aa),(.bool b1_1q1),(.int .u64 b1_2q2),(.int .u64 b1_3q3),(.int .i64 b1_4q4),(.int .i64 b1_5q5),(.str b1_6q6),(.str b1_7q7),(.int .i64 b1_8q8),(.int .i64 b1_9q9),(.int .i64 b1_10q10),(.str b1_11q11),(.bool b1_12q12),(.int .u64 b1_13q13),(.int .u64 b1_14q14),(.int .i64 b1_15q15),(.str b1_16q16)]),true))))
def qye:=hull qpb
theorem qbbv:qye=qpb:=qa _
def qbet {R:Type}:EntF Tryz.prog R:=entB (nt:=71) (dec:=qxa) (enc:=(fun r=>.tup [qem (.st [(.i .i64),.b,(.i .u64),(.i .u64),(.i .i64),(.i .i64),.s,.s,(.i .i64),(.i .i64),(.i .i64),.s,.b,(.i .u64),(.i .u64),(.i .i64),.s]) r.1,.bool r.2])) tabOk follows Tryz.func35 [(.cell 2 true 17),.t 3] (hdeN fun _=>rfl) (.s .z (.s .z (.s (.sub [.sel [1,2,4] [0,1,2]] q7m []) .z))) S3_ qpb (fun f v=>f (v.i 1 0) (v.b 1 1) (v.i 1 2) (v.i 1 3) (v.i 1 4) (v.i 1 5) (v.s 1 6) (v.s 1 7) (v.i 1 8) (v.i 1 9) (v.i 1 10) (v.s 1 11) (v.b 1 12) (v.i 1 13) (v.i 1 14) (v.i 1 15) (v.s 1 16))
def qq (l:LA):Option (List AV):=qtr 80 l
def ql8 {R:Type}(xs:LA)(K:AV->Option R):Option R:=qrv 8 80 xs K
theorem qd7 {R:Type}:qgn Tryz.prog 87 (ql8 (R:=R)):=qbcl (ρ:=qwk 87 4 22 33) tabOk (q5c follows "slices.Clone[[]ddi/api.Block,ddi/api.Block]" (by kernel_rfl) (by kernel_rfl) (by kernel_rfl) (by kernel_rfl) (by kernel_rfl) (by kernel_rfl) (by kernel_rfl) (by kernel_rfl)) (by kernel_rfl) (by decide) (by decide)
def qiu (l:LA):Option (List AV):=qtr 48 l
def qnf {R:Type}(xs:LA)(K:AV->Option R):Option R:=qrv 5 48 xs K
theorem qor {R:Type}:qgn Tryz.prog 88 (qnf (R:=R)):=qbcl (ρ:=qwk 88 4 23 35) tabOk (q5c follows "slices.Clone[[]ddi/api.Host,ddi/api.Host]" (by kernel_rfl) (by kernel_rfl) (by kernel_rfl) (by kernel_rfl) (by kernel_rfl) (by kernel_rfl) (by kernel_rfl) (by kernel_rfl)) (by kernel_rfl) (by decide) (by decide)
def qkn (l:LA):Option (List AV):=qtr 16 l
def qpy {R:Type}(xs:LA)(K:AV->Option R):Option R:=qrv 1 16 xs K
theorem qqx {R:Type}:qgn Tryz.prog 89 (qpy (R:=R)):=qbcl (ρ:=qwk 89 4 24 9) tabOk (q5c follows "slices.Clone[[]string,string]" (by kernel_rfl) (by kernel_rfl) (by kernel_rfl) (by kernel_rfl) (by kernel_rfl) (by kernel_rfl) (by kernel_rfl) (by kernel_rfl)) (by kernel_rfl) (by decide) (by decide)
def S4_:Shp:=⟨[(0,.st (lk qby))],[]⟩
def qqy (Aa Ab Ac:LA):Option AV:=
 (oB (qq Aa) fun r1=>(oB (qiu Ab) fun r2=>(oB (qkn Ac) fun r3=>(bif hd r1 r1.length then(bif hd r2 r2.length then(bif hd r3 r3.length then(some (.agg [(.fr true 8 r1),(.fr true 5 r2),(.fr true 1 r3)]))else none)else none)else none))))
def qqz:=hull qqy
theorem qbeu:qqz=qqy:=qa _
def qvf {R:Type}:EntF Tryz.prog R:=entB (nt:=13) (dec:=(decT [(.fr true 8),(.fr true 5),(.fr true 1)])) (enc:=(qem (.st [(.fr true 8),(.fr true 5),(.fr true 1)]))) tabOk follows Tryz.func36 [(.cell 2 true 3)] hdeT (.s .z (.s (.d3 [] [5,8] [(2,.c (eB qd7)),(5,.c (eB qor))] [(0,.c (eB qqx))] []) .z)) S4_ qqy (fun f v=>f (v.l 1 0) (v.l 1 1) (v.l 1 2))
def qfh:List LT:=[.b,(.i .u64),(.i .u64)]
def S5_:Shp:=⟨[(0,.st (lk qfh))],[]⟩
def qq0 (Aa:Bool)(Ab Ac:Int):Option Bool:=
 (bif Aa then(some true)else(bif(Ab==0)then(some (decide (Ac<=4294967295)))else(some false)))
def qq1:=hull qq0
theorem qbev:qq1=qq0:=qa _
def qvg {R:Type}:EntF Tryz.prog R:=entB (nt:=15) (dec:=decB) (enc:=AV.bool) tabOk follows Tryz.func167 [.t 2] hdeB (.z) S5_ qq0 (fun f v=>f (v.b 1 0) (v.i 1 1) (v.i 1 2))
def qml (Aa:Bool)(Ab Ac:Int):Option Int:=
 (bif Aa then(some (128:Int))else(some (32:Int)))
def qja:=hull qml
theorem q7n:qja=qml:=qa _
def qmm {R:Type}:EntF Tryz.prog R:=entB (nt:=5) (dec:=(decI .i64)) (enc:=(AV.int .i64)) tabOk follows Tryz.func174 [.t 2] hdeI (.z) S5_ qml (fun f v=>f (v.b 1 0) (v.i 1 1) (v.i 1 2))
def S6_:Shp:=⟨[(0,.one (.l .b)),(1,.one (.l (.i .i64)))],[]⟩
def q7o:AV->Option (Int×Int):=decN [(.one (.i .u64)),(.one (.i .u64))] fun z=>(aI (gC (tpL z) 0),aI (gC (tpL z) 1))
def qko (v0:Bool)(v1:Int):Option (Int×Int):=
 (bif(!v0)then(bif decide ((IntKind.u64.wrap (IntKind.i64.wrap ((32:Int)-v1)))<0)then none else(some ((0:Int),(IntKind.u64.wrap ((IntKind.u64.wrap ((1:Int)*2^min (IntKind.u64.wrap (IntKind.i64.wrap ((32:Int)-v1))).toNat IntKind.u64.bits))-1)))))else(bif(decide (v1>=64))then(bif decide ((IntKind.u64.wrap (IntKind.i64.wrap ((128:Int)-v1)))<0)then none else(some ((0:Int),(IntKind.u64.wrap ((IntKind.u64.wrap ((1:Int)*2^min (IntKind.u64.wrap (IntKind.i64.wrap ((128:Int)-v1))).toNat IntKind.u64.bits))-1)))))else(bif decide ((IntKind.u64.wrap (IntKind.i64.wrap ((64:Int)-v1)))<0)then none else(some ((IntKind.u64.wrap ((IntKind.u64.wrap ((1:Int)*2^min (IntKind.u64.wrap (IntKind.i64.wrap ((64:Int)-v1))).toNat IntKind.u64.bits))-1)),(18446744073709551615:Int))))))
def qq2:=hull qko
theorem q80:qq2=qko:=qa _
def qyr {R:Type}:EntF Tryz.prog R:=entB (nt:=25) (dec:=q7o) (enc:=(fun r=>.tup [.int .u64 r.1,.int .u64 r.2])) tabOk follows Tryz.func175 [.t 4,.t 5] (hdeN fun _=>rfl) (.z) S6_ qko (fun f v=>f (v.b 0 0) (v.i 4 0))
def qe:List LT:=[.b,(.i .u64),(.i .u64),(.i .i64)]
def qd (x0:Bool)(x1 x2 x3:Int):List AV:=[.bool x0,.int .u64 x1,.int .u64 x2,.int .i64 x3]
def S7_:Shp:=⟨[(1,.one (.ptr 0 0))],[.box true (lk qe)]⟩
def S8_:Shp:=⟨[(0,.st (lk qe))],[]⟩
def q29 (Av:Bool)(Aw Ax Ay:Int)(K:Ex->Env->Mem->Option Bool):=(fun z_v21=>K .norm (qo [(1,(.ptr 0 0)),(21,(.bool z_v21))]) (qh [(some (.box true (qd Av Aw Ax Ay)))]))
def qj6 (Av:Bool)(Aw Ax Ay:Int)(kn:Bool->Option Bool):Option Bool:=
 (oB (qq1 Av Aw Ax) fun r1=>(bif(!r1)then(kn true)else(bif(decide (Ay<0))then(kn true)else(oB (qja Av Aw Ax) fun r2=>(kn (decide (Ay>r2)))))))
def qxb:=hull (qj6)
theorem q3a:qxb=qj6:=qa _
def q55:SubB Tryz.prog (TIof Tryz.prog) 45 0 (kret [.t 2] decB):=jnB tabOk follows Tryz.f126 9 (.d [] [(2,.c qvg.b),(14,.c qmm.b)] [] [.sel [1,21] [0]]) S7_ (qj6) (fun f v K=>f (v.b 3 0) (v.i 3 1) (v.i 3 2) (v.i 3 3) (q29 (v.b 3 0) (v.i 3 1) (v.i 3 2) (v.i 3 3) K))
def qnz (Aa:Bool)(Ab Ac Bt:Int):Option Bool:=
 (qxb Aa Ab Ac Bt (fun v21q1=>(bif v21q1 then(some false)else(oB (qq2 Aa Bt) fun r2=>(some (((qbq .and .u64 Ab r2.1)==0)&&((qbq .and .u64 Ac r2.2)==0)))))))
def qg6:=hull qnz
theorem q81:qg6=qnz:=qa _
def qiq {R:Type}:EntF Tryz.prog R:=entB (nt:=45) (dec:=decB) (enc:=AV.bool) tabOk follows Tryz.func126 [.t 2] hdeB (.s .z (.s (.s (.sub [.sel [1] [0]] q55 []) .z) (.s (.r [(5,.c qyr.b)] []) (.s (.r [(7,.g 6)] []) .z)))) S8_ qnz (fun f v=>f (v.b 1 0) (v.i 1 1) (v.i 1 2) (v.i 1 3))
def qn0 (Aa:Bool)(Ab Ac Bt:Int):Option Int:=
 (bif Aa then(some (128:Int))else(some (32:Int)))
def qvh:=hull qn0
theorem q82:qvh=qn0:=qa _
def qbbw {R:Type}:EntF Tryz.prog R:=entB (nt:=6) (dec:=(decI .i64)) (enc:=(AV.int .i64)) tabOk follows Tryz.func137 [.t 2] hdeI (.z) S8_ qn0 (fun f v=>f (v.b 1 0) (v.i 1 1) (v.i 1 2) (v.i 1 3))
def S9_:Shp:=⟨[(0,.one (.l .s)),(19,.one (.l (.i .i64))),(20,.one (.l (.i .i64)))],[]⟩
def S10_:Shp:=⟨[(0,.one (.l .s)),(1,.one (.l (.i .i64))),(2,.one (.l (.i .i64)))],[]⟩
def qo1 (K:Ex->Env->Mem->Option Bool):=(fun(_:Unit)=>K (.exit 0) (qo []) (qh []))
def qfi (v0:LU)(v19 v20:Int)(next:Int->Option Bool)(kx0:Unit->Option Bool):Option Bool:=
 (bif(decide (v20<v19))then(oB (ixB v0 v20) fun c1=>(bif(decide ((c1.toNat:Int)<33))then(some false)else(oB (ixB v0 v20) fun c2=>(bif(decide ((c2.toNat:Int)>126))then(some false)else(next (IntKind.i64.wrap (v20+1)))))))else(kx0 ()))
def qfj (v0:LU)(v19:Int)(kx0:Unit->Option Bool):Nat->Int->Option Bool
 |0=>(fun _=>none)
 |n+1=>(fun v20=>qfi v0 v19 v20 (qfj v0 v19 kx0 n) kx0)
def qng:=hull (qfj)
theorem qys:qng=qfj:=qa _
def qz1:SubB Tryz.prog (TIof Tryz.prog) 34 0 (kret [.t 6] decB):=lpB tabOk follows Tryz.f138 75 (.s .z (.s (.s .z (.v [.sel [] []])) (.s .z (.v [.sel [0,19,20] []])))) S9_ (qfj) (fun f v K n=>f (v.s 0 0) (v.i 76 0) (qo1 K) n) (fun v f K=>qfi (v.s 0 0) (v.i 76 0) (v.i 80 0) f (qo1 K)) (fun f v=>f (v.i 80 0)) (fun k v=>(fun z0=>k (v.ui 80 0 z0)))
def qk5 (v0:LU)(v1 v2:Int):Option Bool:=
 (bif((decide ((v0.length:Int)<v1))||(decide ((v0.length:Int)>v2)))then(some false)else(qng v0 (v0.length:Int) (fun(_:Unit)=>(some true)) FU (0:Int)))
def qn1:=hull qk5
theorem q56:qn1=qk5:=qa _
def qvi {R:Type}:EntF Tryz.prog R:=entB (nt:=34) (dec:=decB) (enc:=AV.bool) tabOk follows Tryz.func138 [.t 6] hdeB (.s .z (.s (.s (.r [(5,.g 4)] []) .z) (.s (.s .z (.b (.sub [.sel [0,19,20] []] qz1 []))) .z))) S10_ qk5 (fun f v=>f (v.s 0 0) (v.i 4 0) (v.i 8 0))
def qc:List LT:=[.b,(.i .u64),(.i .u64),(.i .i64),(.i .i64),.s,.s,(.i .i64)]
def qp (x0:Bool)(x1 x2 x3 x4:Int)(x5 x6:LU)(x7:Int):List AV:=[.bool x0,.int .u64 x1,.int .u64 x2,.int .i64 x3,.int .i64 x4,.str x5,.str x6,.int .i64 x7]
def S11_:Shp:=⟨[(1,.one (.ptr 0 0))],[.box true (lk qc)]⟩
def S12_:Shp:=⟨[(0,.st (lk qc))],[]⟩
def q15 (Av:Bool)(Aw Ax Ay Az:Int)(A0 A1:LU)(A2:Int)(K:Ex->Env->Mem->Option Int):=(fun z_v28=>K .norm (qo [(1,(.ptr 0 0)),(28,(.bool z_v28))]) (qh [(some (.box true (qp Av Aw Ax Ay Az A0 A1 A2)))]))
def qjd (Av:Bool)(Aw Ax Ay Az:Int)(A0 A1:LU)(A2:Int)(kn:Bool->Option Int):Option Int:=
 (bif(decide (Az<1))then(kn true)else(bif(decide (Az>3))then(kn true)else(bif(Az==3)then(oB (qvh Av Aw Ax Ay) fun r1=>(kn (Ay != r1)))else(kn false))))
def qvj:=hull (qjd)
theorem q16:qvj=qjd:=qa _
def q3b:SubB Tryz.prog (TIof Tryz.prog) 49 0 (kret [.t 2] (decI .i64)):=jnB tabOk follows Tryz.f90 19 (.d [] [(18,.c qbbw.b)] [] [.sel [1,28] [0]]) S11_ (qjd) (fun f v K=>f (v.b 3 0) (v.i 3 1) (v.i 3 2) (v.i 3 3) (v.i 3 4) (v.s 3 5) (v.s 3 6) (v.i 3 7) (q15 (v.b 3 0) (v.i 3 1) (v.i 3 2) (v.i 3 3) (v.i 3 4) (v.s 3 5) (v.s 3 6) (v.i 3 7) K))
def qn2 (Aa:Bool)(Ab Ac Bt Bu:Int)(Bv Bw:LU)(Bx:Int):Option Int:=
 (oB (qg6 Aa Ab Ac Bt) fun r1=>(bif(!r1)then(some (3:Int))else(qvj Aa Ab Ac Bt Bu Bv Bw Bx (fun v28q2=>(bif v28q2 then(some (1:Int))else(oB (qn1 Bv (1:Int) (63:Int)) fun r3=>(bif(!r3)then(some (1:Int))else(oB (qn1 Bw (0:Int) (32:Int)) fun r4=>(bif(((!r4)||(decide (Bx<0)))||(decide (Bx>4294967295)))then(some (1:Int))else(some (0:Int)))))))))))
def qnh:=hull qn2
theorem q83:qnh=qn2:=qa _
def qyt {R:Type}:EntF Tryz.prog R:=entB (nt:=49) (dec:=(decI .i64)) (enc:=(AV.int .i64)) tabOk follows Tryz.func90 [.t 2] hdeI (.s .z (.s (.s (.r [(2,.c qiq.b)] []) .z) (.s (.s (.sub [.sel [1] [0]] q3b []) .z) (.s (.s (.r [(2,.c qvi.b),(7,.c qvi.b),(11,.g 3),(16,.g 3)] []) .z) .z)))) S12_ qn2 (fun f v=>f (v.b 1 0) (v.i 1 1) (v.i 1 2) (v.i 1 3) (v.i 1 4) (v.s 1 5) (v.s 1 6) (v.i 1 7))
def S13_:Shp:=⟨[(0,.st (lk qc)),(1,.one (.ptr 0 0))],[.box true (lk qe)]⟩
def q57 {R:Type}(KK:AV->Mem->Option R):=(fun v3 Av Aw Ax Ay=>KK (.bool v3) (qh [(some (.box true (qd Av Aw Ax Ay)))]))
def qk6 {R:Type}(Aa:Bool)(Ab Ac Bt Bu:Int)(Bv Bw:LU)(Bx:Int)(Av:Bool)(Aw Ax Ay:Int)(kr:Bool->Bool->Int->Int->Int->Option R):Option R:=
 (kr ((Aa==Av)&&((Ab==Aw)&&((Ac==Ax)&&((Bt==Ay)&&true)))) Av Aw Ax Ay)
def qyu {R:Type}:=hull (qk6 (R:=R))
theorem q58 {R:Type}:qyu (R:=R)=qk6:=qa _
def q7p {R:Type}:RefB Tryz.prog R:=refB (nt:=8) (nb:=1) tabOk follows Tryz.func139 [.t 3] (fun KK=>.s .z (.s .z (.v [.sel [3] [0]]))) S13_ (qk6 (R:=R)) (fun f v KK=>f (v.b 1 0) (v.i 1 1) (v.i 1 2) (v.i 1 3) (v.i 1 4) (v.s 1 5) (v.s 1 6) (v.i 1 7) (v.b 3 0) (v.i 3 1) (v.i 3 2) (v.i 3 3) (q57 KK)) (by kernel_rfl) (by kernel_rfl) (fun _=>(by kernel_rfl)) rfl
def S14_:Shp:=⟨[(0,.one (.l (.sl 8))),(1,.one (.fn 139 [(0,0)])),(7,.one (.l (.i .i64))),(8,.one (.l (.i .i64)))],[.box true (lk qe)]⟩
def S15_:Shp:=⟨[(0,.one (.l (.sl 8))),(1,.one (.fn 139 [(0,0)]))],[.box true (lk qe)]⟩
def qc4 {R:Type}(K:Ex->Env->Mem->Option R):=(fun z_b0_0 z_b0_1 z_b0_2 z_b0_3=>K (.exit 0) (qo []) (qh [(some (.box true (qd z_b0_0 z_b0_1 z_b0_2 z_b0_3)))]))
def qdb {R:Type}(KK:AV->Mem->Option R):=(fun v4 Av Aw Ax Ay=>KK (.int .i64 v4) (qh [(some (.box true (qd Av Aw Ax Ay)))]))
def qy {R:Type}(v0:LA)(v7 v8:Int)(Av:Bool)(Aw Ax Ay:Int)(next:Int->Bool->Int->Int->Int->Option R)(kx0:Bool->Int->Int->Int->Option R)(kr:Int->Bool->Int->Int->Int->Option R):Option R:=
 (bif(decide (v8<v7))then(oB (ixB v0 v8) fun y1=>(bif fitC qc y1.cells then(qyu (gB y1.cells 0) (gI y1.cells 1) (gI y1.cells 2) (gI y1.cells 3) (gI y1.cells 4) (gS y1.cells 5) (gS y1.cells 6) (gI y1.cells 7) Av Aw Ax Ay fun v3q2 b0_0q3 b0_1q4 b0_2q5 b0_3q6=>(bif v3q2 then(kr v8 b0_0q3 b0_1q4 b0_2q5 b0_3q6)else(next (IntKind.i64.wrap (v8+1)) b0_0q3 b0_1q4 b0_2q5 b0_3q6)))else none))else(kx0 Av Aw Ax Ay))
def qz {R:Type}(v0:LA)(v7:Int)(kx0:Bool->Int->Int->Int->Option R)(kr:Int->Bool->Int->Int->Int->Option R):Nat->Int->Bool->Int->Int->Int->Option R
 |0=>(fun _ _ _ _ _=>none)
 |n+1=>(fun v8 Av Aw Ax Ay=>qy v0 v7 v8 Av Aw Ax Ay (qz v0 v7 kx0 kr n) kx0 kr)
def qdn {R:Type}:=hull (qz (R:=R))
theorem qf4 {R:Type}:qdn (R:=R)=qz:=qa _
def qgd {R:Type}(KK:AV->Mem->Option R):SubB Tryz.prog (TIof Tryz.prog) 19 1 (qdj [.t 4] KK):=lpB tabOk follows Tryz.f125 37 (.s .z (.s (.s .z (.v [.sel [] [0]])) (.s (.b (.s .z (.s (.r [(3,.p (.etac 14 qc)),(5,.s (.sel [0,1,5,7,8,11,15] [0])),(5,.r q7p)] []) (.s (.s .z (.v [.sel [4] [0]])) .z)))) (.v [.sel [0,1,7,8] [0]])))) S14_ (qz (R:=R)) (fun f v K n=>f (v.l 0 0) (v.i 28 0) (qc4 K) (qdb KK) n) (fun v f K=>qy (v.l 0 0) (v.i 28 0) (v.i 32 0) (v.b 3 0) (v.i 3 1) (v.i 3 2) (v.i 3 3) f (qc4 K) (qdb KK)) (fun f v=>f (v.i 32 0) (v.b 3 0) (v.i 3 1) (v.i 3 2) (v.i 3 3)) (fun k v=>(fun z0 z1 z2 z3 z4=>k (((((v.ui 32 0 z0).ub 3 0 z1).ui 3 1 z2).ui 3 2 z3).ui 3 3 z4)))
def qgx {R:Type}(KK:AV->Mem->Option R):=(fun v4 Av Aw Ax Ay=>KK (.int .i64 v4) (qh [(some (.box true (qd Av Aw Ax Ay)))]))
def qbr {R:Type}(v0:LA)(Av:Bool)(Aw Ax Ay:Int)(kr:Int->Bool->Int->Int->Int->Option R):Option R:=
 (qdn v0 (v0.length:Int) (fun b0_0q1 b0_1q2 b0_2q3 b0_3q4=>(kr (-1:Int) b0_0q1 b0_1q2 b0_2q3 b0_3q4)) kr FU (0:Int) Av Aw Ax Ay)
def qdt {R:Type}:=hull (qbr (R:=R))
theorem qgy {R:Type}:qdt (R:=R)=qbr:=qa _
def qg7 {R:Type}:RefB Tryz.prog R:=refB (nt:=19) (nb:=1) tabOk follows Tryz.func125 [.t 4] (fun KK=>.s .z (.s (.s .z (.b (.sub [.sel [0,1,7,8] [0]] (qgd KK) []))) (.s .z (.v [.sel [4] [0]])))) S15_ (qbr (R:=R)) (fun f v KK=>f (v.l 0 0) (v.b 3 0) (v.i 3 1) (v.i 3 2) (v.i 3 3) (qgx KK)) (by kernel_rfl) (by kernel_rfl) (fun _=>(by kernel_rfl)) rfl
def S16_:Shp:=⟨[(0,.one (.l (.sl 8))),(1,.st (lk qe))],[]⟩
def qn3 (v0:LA)(B7:Bool)(B8 B9 Ca:Int):Option Int:=
 (qdt v0 B7 B8 B9 Ca fun v4q1 b0_0q2 b0_1q3 b0_2q4 b0_3q5=>(some v4q1))
def qni:=hull qn3
theorem q84:qni=qn3:=qa _
def qr7 {R:Type}:EntF Tryz.prog R:=entB (nt:=8) (dec:=(decI .i64)) (enc:=(AV.int .i64)) tabOk follows Tryz.func91 [.t 4] hdeI (.s .z (.s (.r [(2,.s (.sel [5,6] [0])),(2,.r qg7)] []) .z)) S16_ qn3 (fun f v=>f (v.l 0 0) (v.b 5 0) (v.i 5 1) (v.i 5 2) (v.i 5 3))
def qlq (x0:Bool)(x1 x2:Int):List AV:=[.bool x0,.int .u64 x1,.int .u64 x2]
def S17_:Shp:=⟨[(1,.one (.l (.i .i64))),(2,.one (.ptr 0 0)),(4,.one (.ptr 1 0))],[.box true (lk qfh),.box true (lk qe)]⟩
def S18_:Shp:=⟨[(0,.st (lk qfh)),(1,.one (.l (.i .i64)))],[]⟩
def q1v:AV->Option (AV×Bool):=decN [(.st [.b,(.i .u64),(.i .u64),(.i .i64)]),(.one .b)] fun z=>((gC (tpL z) 0),aB (gC (tpL z) 1))
def q85 (v1:Int)(Av:Bool)(Aw Ax:Int)(Ad:Bool)(Ae Af Ag:Int)(K:Ex->Env->Mem->Option (AV×Bool)):=(fun z_v20=>K .norm (qo [(1,(.int .i64 v1)),(2,(.ptr 0 0)),(4,(.ptr 1 0)),(20,(.bool z_v20))]) (qh [(some (.box true (qlq Av Aw Ax))),(some (.box true (qd Ad Ae Af Ag)))]))
def qn4 (v1:Int)(Av:Bool)(Aw Ax:Int)(Ad:Bool)(Ae Af Ag:Int)(kn:Bool->Option (AV×Bool)):Option (AV×Bool):=
 (oB (qq1 Av Aw Ax) fun r1=>(bif((!r1)||(decide (v1<0)))then(kn true)else(oB (qja Av Aw Ax) fun r2=>(kn (decide (v1>r2))))))
def q3c:=hull (qn4)
theorem q86:q3c=qn4:=qa _
def qbbx:SubB Tryz.prog (TIof Tryz.prog) 42 0 (kret [(.cell 4 true 4),.t 5] q1v):=jnB tabOk follows Tryz.f127 9 (.r [(1,.c qvg.b),(4,.g 2),(10,.c qmm.b)] [.sel [1,2,4,20] [0,1]]) S17_ (qn4) (fun f v K=>f (v.i 4 0) (v.b 3 0) (v.i 3 1) (v.i 3 2) (v.b 7 0) (v.i 7 1) (v.i 7 2) (v.i 7 3) (q85 (v.i 4 0) (v.b 3 0) (v.i 3 1) (v.i 3 2) (v.b 7 0) (v.i 7 1) (v.i 7 2) (v.i 7 3) K))
def qsz (Aa:Bool)(Ab Ac v1:Int):Option (AV×Bool):=
 (q3c v1 Aa Ab Ac false (0:Int) (0:Int) (0:Int) (fun v20q1=>(bif v20q1 then(some ((.agg [(.bool false),(.int .u64 (0:Int)),(.int .u64 (0:Int)),(.int .i64 (0:Int))]),false))else(oB (qq2 Aa v1) fun r2=>(some ((.agg [(.bool Aa),(.int .u64 (qbq .andNot .u64 Ab r2.1)),(.int .u64 (qbq .andNot .u64 Ac r2.2)),(.int .i64 v1)]),true))))))
def q3d:=hull qsz
theorem qbfs:q3d=qsz:=qa _
def qbhz {R:Type}:EntF Tryz.prog R:=entB (nt:=42) (dec:=q1v) (enc:=(fun r=>.tup [qem (.st [.b,(.i .u64),(.i .u64),(.i .i64)]) r.1,.bool r.2])) tabOk follows Tryz.func127 [(.cell 4 true 4),.t 5] (hdeN fun _=>rfl) (.s .z (.s (.s (.sub [.sel [1,2,4] [0,1]] qbbx []) .z) (.s (.r [(3,.c qyr.b)] []) .z))) S18_ qsz (fun f v=>f (v.b 1 0) (v.i 1 1) (v.i 1 2) (v.i 4 0))
def S19_:Shp:=⟨[(0,.st (lk qe)),(1,.st (lk qfh))],[]⟩
def qj7 (Aa:Bool)(Ab Ac Bt:Int)(B7:Bool)(B8 B9:Int):Option Bool:=
 (oB (qg6 Aa Ab Ac Bt) fun r1=>(bif((!r1)||(!((Aa==B7)&&true)))then(some false)else(oB (q3d B7 B8 B9 Bt) fun r2=>(some (r2.2&&(((gB r2.1.cells 0)==Aa)&&(((gI r2.1.cells 1)==Ab)&&(((gI r2.1.cells 2)==Ac)&&(((gI r2.1.cells 3)==Bt)&&true)))))))))
def qmn:=hull qj7
theorem q3e:qmn=qj7:=qa _
def quf {R:Type}:EntF Tryz.prog R:=entB (nt:=31) (dec:=decB) (enc:=AV.bool) tabOk follows Tryz.func67 [.t 4] hdeB (.s .z (.s (.s (.r [(1,.c qiq.b),(4,.g 6)] []) .z) (.s (.r [(3,.c qbhz.b)] []) (.s (.r [(2,.g 3)] []) .z)))) S19_ qj7 (fun f v=>f (v.b 1 0) (v.i 1 1) (v.i 1 2) (v.i 1 3) (v.b 5 0) (v.i 5 1) (v.i 5 2))
def S20_:Shp:=⟨[(0,.st (lk qe)),(1,.st (lk qe))],[]⟩
def qmo (Aa:Bool)(Ab Ac Bt:Int)(B7:Bool)(B8 B9 Ca:Int):Option Bool:=
 (oB (qg6 Aa Ab Ac Bt) fun r1=>(bif r1 then(oB (qg6 B7 B8 B9 Ca) fun r2=>(bif(r2&&(decide (Bt>=Ca)))then(oB (qmn B7 B8 B9 Ca Aa Ab Ac) fun r3=>(some r3))else(some false)))else(some false)))
def qjb:=hull qmo
theorem q7q:qjb=qmo:=qa _
def qje {R:Type}:EntF Tryz.prog R:=entB (nt:=24) (dec:=decB) (enc:=AV.bool) tabOk follows Tryz.func122 [.t 4] hdeB (.s .z (.s (.r [(1,.c qiq.b),(4,.c qiq.b),(7,.g 5),(17,.c quf.b)] []) .z)) S20_ qmo (fun f v=>f (v.b 1 0) (v.i 1 1) (v.i 1 2) (v.i 1 3) (v.b 5 0) (v.i 5 1) (v.i 5 2) (v.i 5 3))
def qpc (Aa:Bool)(Ab Ac Bt:Int)(B7:Bool)(B8 B9 Ca:Int):Option Bool:=
 (bif(decide (Bt>Ca))then(oB (qjb Aa Ab Ac Bt B7 B8 B9 Ca) fun r1=>(some r1))else(some false))
def qo2:=hull qpc
theorem qbby:qo2=qpc:=qa _
def qt1 {R:Type}:EntF Tryz.prog R:=entB (nt:=15) (dec:=decB) (enc:=AV.bool) tabOk follows Tryz.func141 [.t 4] hdeB (.s .z (.s (.r [(8,.c qje.b)] []) .z)) S20_ qpc (fun f v=>f (v.b 1 0) (v.i 1 1) (v.i 1 2) (v.i 1 3) (v.b 5 0) (v.i 5 1) (v.i 5 2) (v.i 5 3))
def S21_:Shp:=⟨[(0,.st (lk qc)),(1,.st (lk qc))],[]⟩
def qmp (Aa:Bool)(Ab Ac Bt Bu:Int)(Bv Bw:LU)(Bx:Int)(B7:Bool)(B8 B9 Ca Cb:Int)(Cc Cd:LU)(Ce:Int):Option Bool:=
 (bif(Bu==1)then(some true)else(bif(Bu==2)then(some (Cb==3))else(some false)))
def qt2:=hull qmp
theorem q7r:qt2=qmp:=qa _
def q87 {R:Type}:EntF Tryz.prog R:=entB (nt:=18) (dec:=decB) (enc:=AV.bool) tabOk follows Tryz.func142 [.t 4] hdeB (.z) S21_ qmp (fun f v=>f (v.b 1 0) (v.i 1 1) (v.i 1 2) (v.i 1 3) (v.i 1 4) (v.s 1 5) (v.s 1 6) (v.i 1 7) (v.b 5 0) (v.i 5 1) (v.i 5 2) (v.i 5 3) (v.i 5 4) (v.s 5 5) (v.s 5 6) (v.i 5 7))
def S22_:Shp:=⟨[(0,.st (lk qc)),(1,.one (.ptr 0 0))],[.box true (lk qc)]⟩
def qyv {R:Type}(KK:AV->Mem->Option R):=(fun v3 Av Aw Ax Ay Az A0 A1 A2=>KK (.bool v3) (qh [(some (.box true (qp Av Aw Ax Ay Az A0 A1 A2)))]))
def qid {R:Type}(Aa:Bool)(Ab Ac Bt Bu:Int)(Bv Bw:LU)(Bx:Int)(Av:Bool)(Aw Ax Ay Az:Int)(A0 A1:LU)(A2:Int)(kr:Bool->Bool->Int->Int->Int->Int->(List UInt8)->(List UInt8)->Int->Option R):Option R:=
 (oB (qo2 Av Aw Ax Ay Aa Ab Ac Bt) fun r1=>(bif r1 then(oB (qt2 Aa Ab Ac Bt Bu Bv Bw Bx Av Aw Ax Ay Az A0 A1 A2) fun r2=>(kr (!r2) Av Aw Ax Ay Az A0 A1 A2))else(kr false Av Aw Ax Ay Az A0 A1 A2)))
def qnj {R:Type}:=hull (qid (R:=R))
theorem qyw {R:Type}:qnj (R:=R)=qid:=qa _
def qz2 {R:Type}:RefB Tryz.prog R:=refB (nt:=15) (nb:=1) tabOk follows Tryz.func140 [.t 3] (fun KK=>.s .z (.s (.r [(4,.c qt1.b),(8,.c q87.b)] []) (.v [.sel [3] [0]]))) S22_ (qid (R:=R)) (fun f v KK=>f (v.b 1 0) (v.i 1 1) (v.i 1 2) (v.i 1 3) (v.i 1 4) (v.s 1 5) (v.s 1 6) (v.i 1 7) (v.b 3 0) (v.i 3 1) (v.i 3 2) (v.i 3 3) (v.i 3 4) (v.s 3 5) (v.s 3 6) (v.i 3 7) (qyv KK)) (by kernel_rfl) (by kernel_rfl) (fun _=>(by kernel_rfl)) rfl
def S23_:Shp:=⟨[(0,.one (.l (.sl 8))),(1,.one (.fn 140 [(0,0)])),(7,.one (.l (.i .i64))),(8,.one (.l (.i .i64)))],[.box true (lk qc)]⟩
def S24_:Shp:=⟨[(0,.one (.l (.sl 8))),(1,.one (.fn 140 [(0,0)]))],[.box true (lk qc)]⟩
def qcu {R:Type}(K:Ex->Env->Mem->Option R):=(fun z_b0_0 z_b0_1 z_b0_2 z_b0_3 z_b0_4 z_b0_5 z_b0_6 z_b0_7=>K (.exit 0) (qo []) (qh [(some (.box true (qp z_b0_0 z_b0_1 z_b0_2 z_b0_3 z_b0_4 z_b0_5 z_b0_6 z_b0_7)))]))
def qcv {R:Type}(KK:AV->Mem->Option R):=(fun v4 Av Aw Ax Ay Az A0 A1 A2=>KK (.int .i64 v4) (qh [(some (.box true (qp Av Aw Ax Ay Az A0 A1 A2)))]))
def qr {R:Type}(v0:LA)(v7 v8:Int)(Av:Bool)(Aw Ax Ay Az:Int)(A0 A1:LU)(A2:Int)(next:Int->Bool->Int->Int->Int->Int->(List UInt8)->(List UInt8)->Int->Option R)(kx0:Bool->Int->Int->Int->Int->(List UInt8)->(List UInt8)->Int->Option R)(kr:Int->Bool->Int->Int->Int->Int->(List UInt8)->(List UInt8)->Int->Option R):Option R:=
 (bif(decide (v8<v7))then(oB (ixB v0 v8) fun y1=>(bif fitC qc y1.cells then(qnj (gB y1.cells 0) (gI y1.cells 1) (gI y1.cells 2) (gI y1.cells 3) (gI y1.cells 4) (gS y1.cells 5) (gS y1.cells 6) (gI y1.cells 7) Av Aw Ax Ay Az A0 A1 A2 fun v3q2 b0_0q3 b0_1q4 b0_2q5 b0_3q6 b0_4q7 b0_5q8 b0_6q9 b0_7q10=>(bif v3q2 then(kr v8 b0_0q3 b0_1q4 b0_2q5 b0_3q6 b0_4q7 b0_5q8 b0_6q9 b0_7q10)else(next (IntKind.i64.wrap (v8+1)) b0_0q3 b0_1q4 b0_2q5 b0_3q6 b0_4q7 b0_5q8 b0_6q9 b0_7q10)))else none))else(kx0 Av Aw Ax Ay Az A0 A1 A2))
def qt {R:Type}(v0:LA)(v7:Int)(kx0:Bool->Int->Int->Int->Int->(List UInt8)->(List UInt8)->Int->Option R)(kr:Int->Bool->Int->Int->Int->Int->(List UInt8)->(List UInt8)->Int->Option R):Nat->Int->Bool->Int->Int->Int->Int->(List UInt8)->(List UInt8)->Int->Option R
 |0=>(fun _ _ _ _ _ _ _ _ _=>none)
 |n+1=>(fun v8 Av Aw Ax Ay Az A0 A1 A2=>qr v0 v7 v8 Av Aw Ax Ay Az A0 A1 A2 (qt v0 v7 kx0 kr n) kx0 kr)
def qc5 {R:Type}:=hull (qt (R:=R))
theorem qe9 {R:Type}:qc5 (R:=R)=qt:=qa _
def qfc {R:Type}(KK:AV->Mem->Option R):SubB Tryz.prog (TIof Tryz.prog) 19 1 (qdj [.t 4] KK):=lpB tabOk follows Tryz.f125 37 (.s .z (.s (.s .z (.v [.sel [] [0]])) (.s (.b (.s .z (.s (.r [(3,.p (.etac 14 qc)),(5,.s (.sel [0,1,5,7,8,11,15] [0])),(5,.r qz2)] []) (.s (.s .z (.v [.sel [4] [0]])) .z)))) (.v [.sel [0,1,7,8] [0]])))) S23_ (qt (R:=R)) (fun f v K n=>f (v.l 0 0) (v.i 28 0) (qcu K) (qcv KK) n) (fun v f K=>qr (v.l 0 0) (v.i 28 0) (v.i 32 0) (v.b 3 0) (v.i 3 1) (v.i 3 2) (v.i 3 3) (v.i 3 4) (v.s 3 5) (v.s 3 6) (v.i 3 7) f (qcu K) (qcv KK)) (fun f v=>f (v.i 32 0) (v.b 3 0) (v.i 3 1) (v.i 3 2) (v.i 3 3) (v.i 3 4) (v.s 3 5) (v.s 3 6) (v.i 3 7)) (fun k v=>(fun z0 z1 z2 z3 z4 z5 z6 z7 z8=>k (((((((((v.ui 32 0 z0).ub 3 0 z1).ui 3 1 z2).ui 3 2 z3).ui 3 3 z4).ui 3 4 z5).us 3 5 z6).us 3 6 z7).ui 3 7 z8)))
def qfu {R:Type}(KK:AV->Mem->Option R):=(fun v4 Av Aw Ax Ay Az A0 A1 A2=>KK (.int .i64 v4) (qh [(some (.box true (qp Av Aw Ax Ay Az A0 A1 A2)))]))
def qbh {R:Type}(v0:LA)(Av:Bool)(Aw Ax Ay Az:Int)(A0 A1:LU)(A2:Int)(kr:Int->Bool->Int->Int->Int->Int->(List UInt8)->(List UInt8)->Int->Option R):Option R:=
 (qc5 v0 (v0.length:Int) (fun b0_0q1 b0_1q2 b0_2q3 b0_3q4 b0_4q5 b0_5q6 b0_6q7 b0_7q8=>(kr (-1:Int) b0_0q1 b0_1q2 b0_2q3 b0_3q4 b0_4q5 b0_5q6 b0_6q7 b0_7q8)) kr FU (0:Int) Av Aw Ax Ay Az A0 A1 A2)
def qb2 {R:Type}:=hull (qbh (R:=R))
theorem qfv {R:Type}:qb2 (R:=R)=qbh:=qa _
def qf5 {R:Type}:RefB Tryz.prog R:=refB (nt:=19) (nb:=1) tabOk follows Tryz.func125 [.t 4] (fun KK=>.s .z (.s (.s .z (.b (.sub [.sel [0,1,7,8] [0]] (qfc KK) []))) (.s .z (.v [.sel [4] [0]])))) S24_ (qbh (R:=R)) (fun f v KK=>f (v.l 0 0) (v.b 3 0) (v.i 3 1) (v.i 3 2) (v.i 3 3) (v.i 3 4) (v.s 3 5) (v.s 3 6) (v.i 3 7) (qfu KK)) (by kernel_rfl) (by kernel_rfl) (fun _=>(by kernel_rfl)) rfl
def qfa {R:Type}(KK:AV->Mem->Option R):=(fun v4 Av Aw Ax Ay Az A0 A1 A2=>KK (.bool v4) (qh [(some (.box true (qp Av Aw Ax Ay Az A0 A1 A2)))]))
def qbe {R:Type}(v0:LA)(Av:Bool)(Aw Ax Ay Az:Int)(A0 A1:LU)(A2:Int)(kr:Bool->Bool->Int->Int->Int->Int->(List UInt8)->(List UInt8)->Int->Option R):Option R:=
 (qb2 v0 Av Aw Ax Ay Az A0 A1 A2 fun v4q1 b0_0q2 b0_1q3 b0_2q4 b0_3q5 b0_4q6 b0_5q7 b0_6q8 b0_7q9=>(kr (decide (v4q1>=0)) b0_0q2 b0_1q3 b0_2q4 b0_3q5 b0_4q6 b0_5q7 b0_6q8 b0_7q9))
def qc6 {R:Type}:=hull (qbe (R:=R))
theorem qfb {R:Type}:qc6 (R:=R)=qbe:=qa _
def qfd {R:Type}:RefB Tryz.prog R:=refB (nt:=9) (nb:=1) tabOk follows Tryz.func65 [.t 4] (fun KK=>.s .z (.s (.r [(2,.s (.sel [5,6] [0])),(2,.r qf5)] []) (.v [.sel [4] [0]]))) S24_ (qbe (R:=R)) (fun f v KK=>f (v.l 0 0) (v.b 3 0) (v.i 3 1) (v.i 3 2) (v.i 3 3) (v.i 3 4) (v.s 3 5) (v.s 3 6) (v.i 3 7) (qfa KK)) (by kernel_rfl) (by kernel_rfl) (fun _=>(by kernel_rfl)) rfl
def S25_:Shp:=⟨[(0,.one (.l (.sl 8))),(1,.st (lk qc))],[]⟩
def qjf (v0:LA)(B7:Bool)(B8 B9 Ca Cb:Int)(Cc Cd:LU)(Ce:Int):Option Bool:=
 (qc6 v0 B7 B8 B9 Ca Cb Cc Cd Ce fun v4q1 b0_0q2 b0_1q3 b0_2q4 b0_3q5 b0_4q6 b0_5q7 b0_6q8 b0_7q9=>(some v4q1))
def qiv:=hull qjf
theorem q17:qiv=qjf:=qa _
def qth {R:Type}:EntF Tryz.prog R:=entB (nt:=8) (dec:=decB) (enc:=AV.bool) tabOk follows Tryz.func92 [.t 4] hdeB (.s .z (.s (.r [(2,.s (.sel [5,6] [0])),(2,.r qfd)] []) .z)) S25_ qjf (fun f v=>f (v.l 0 0) (v.b 5 0) (v.i 5 1) (v.i 5 2) (v.i 5 3) (v.i 5 4) (v.s 5 5) (v.s 5 6) (v.i 5 7))
def qz3 {R:Type}(KK:AV->Mem->Option R):=(fun v3 Av Aw Ax Ay=>KK (.bool v3) (qh [(some (.box true (qd Av Aw Ax Ay)))]))
def qiy {R:Type}(Aa:Bool)(Ab Ac Bt Bu:Int)(Bv Bw:LU)(Bx:Int)(Av:Bool)(Aw Ax Ay:Int)(kr:Bool->Bool->Int->Int->Int->Option R):Option R:=
 (oB (qo2 Aa Ab Ac Bt Av Aw Ax Ay) fun r1=>(kr r1 Av Aw Ax Ay))
def qos {R:Type}:=hull (qiy (R:=R))
theorem qz4 {R:Type}:qos (R:=R)=qiy:=qa _
def q18 {R:Type}:RefB Tryz.prog R:=refB (nt:=8) (nb:=1) tabOk follows Tryz.func143 [.t 3] (fun KK=>.s .z (.s (.r [(3,.c qt1.b)] []) (.v [.sel [3] [0]]))) S13_ (qiy (R:=R)) (fun f v KK=>f (v.b 1 0) (v.i 1 1) (v.i 1 2) (v.i 1 3) (v.i 1 4) (v.s 1 5) (v.s 1 6) (v.i 1 7) (v.b 3 0) (v.i 3 1) (v.i 3 2) (v.i 3 3) (qz3 KK)) (by kernel_rfl) (by kernel_rfl) (fun _=>(by kernel_rfl)) rfl
def S26_:Shp:=⟨[(0,.one (.l (.sl 8))),(1,.one (.fn 143 [(0,0)])),(7,.one (.l (.i .i64))),(8,.one (.l (.i .i64)))],[.box true (lk qe)]⟩
def S27_:Shp:=⟨[(0,.one (.l (.sl 8))),(1,.one (.fn 143 [(0,0)]))],[.box true (lk qe)]⟩
def qcw {R:Type}(K:Ex->Env->Mem->Option R):=(fun z_b0_0 z_b0_1 z_b0_2 z_b0_3=>K (.exit 0) (qo []) (qh [(some (.box true (qd z_b0_0 z_b0_1 z_b0_2 z_b0_3)))]))
def qc1 {R:Type}(KK:AV->Mem->Option R):=(fun v4 Av Aw Ax Ay=>KK (.int .i64 v4) (qh [(some (.box true (qd Av Aw Ax Ay)))]))
def qu {R:Type}(v0:LA)(v7 v8:Int)(Av:Bool)(Aw Ax Ay:Int)(next:Int->Bool->Int->Int->Int->Option R)(kx0:Bool->Int->Int->Int->Option R)(kr:Int->Bool->Int->Int->Int->Option R):Option R:=
 (bif(decide (v8<v7))then(oB (ixB v0 v8) fun y1=>(bif fitC qc y1.cells then(qos (gB y1.cells 0) (gI y1.cells 1) (gI y1.cells 2) (gI y1.cells 3) (gI y1.cells 4) (gS y1.cells 5) (gS y1.cells 6) (gI y1.cells 7) Av Aw Ax Ay fun v3q2 b0_0q3 b0_1q4 b0_2q5 b0_3q6=>(bif v3q2 then(kr v8 b0_0q3 b0_1q4 b0_2q5 b0_3q6)else(next (IntKind.i64.wrap (v8+1)) b0_0q3 b0_1q4 b0_2q5 b0_3q6)))else none))else(kx0 Av Aw Ax Ay))
def qv {R:Type}(v0:LA)(v7:Int)(kx0:Bool->Int->Int->Int->Option R)(kr:Int->Bool->Int->Int->Int->Option R):Nat->Int->Bool->Int->Int->Int->Option R
 |0=>(fun _ _ _ _ _=>none)
 |n+1=>(fun v8 Av Aw Ax Ay=>qu v0 v7 v8 Av Aw Ax Ay (qv v0 v7 kx0 kr n) kx0 kr)
def qdc {R:Type}:=hull (qv (R:=R))
theorem qfe {R:Type}:qdc (R:=R)=qv:=qa _
def qfk {R:Type}(KK:AV->Mem->Option R):SubB Tryz.prog (TIof Tryz.prog) 19 1 (qdj [.t 4] KK):=lpB tabOk follows Tryz.f125 37 (.s .z (.s (.s .z (.v [.sel [] [0]])) (.s (.b (.s .z (.s (.r [(3,.p (.etac 14 qc)),(5,.s (.sel [0,1,5,7,8,11,15] [0])),(5,.r q18)] []) (.s (.s .z (.v [.sel [4] [0]])) .z)))) (.v [.sel [0,1,7,8] [0]])))) S26_ (qv (R:=R)) (fun f v K n=>f (v.l 0 0) (v.i 28 0) (qcw K) (qc1 KK) n) (fun v f K=>qu (v.l 0 0) (v.i 28 0) (v.i 32 0) (v.b 3 0) (v.i 3 1) (v.i 3 2) (v.i 3 3) f (qcw K) (qc1 KK)) (fun f v=>f (v.i 32 0) (v.b 3 0) (v.i 3 1) (v.i 3 2) (v.i 3 3)) (fun k v=>(fun z0 z1 z2 z3 z4=>k (((((v.ui 32 0 z0).ub 3 0 z1).ui 3 1 z2).ui 3 2 z3).ui 3 3 z4)))
def qf6 {R:Type}(KK:AV->Mem->Option R):=(fun v4 Av Aw Ax Ay=>KK (.int .i64 v4) (qh [(some (.box true (qd Av Aw Ax Ay)))]))
def qbk {R:Type}(v0:LA)(Av:Bool)(Aw Ax Ay:Int)(kr:Int->Bool->Int->Int->Int->Option R):Option R:=
 (qdc v0 (v0.length:Int) (fun b0_0q1 b0_1q2 b0_2q3 b0_3q4=>(kr (-1:Int) b0_0q1 b0_1q2 b0_2q3 b0_3q4)) kr FU (0:Int) Av Aw Ax Ay)
def qcc {R:Type}:=hull (qbk (R:=R))
theorem qf7 {R:Type}:qcc (R:=R)=qbk:=qa _
def qge {R:Type}:RefB Tryz.prog R:=refB (nt:=19) (nb:=1) tabOk follows Tryz.func125 [.t 4] (fun KK=>.s .z (.s (.s .z (.b (.sub [.sel [0,1,7,8] [0]] (qfk KK) []))) (.s .z (.v [.sel [4] [0]])))) S27_ (qbk (R:=R)) (fun f v KK=>f (v.l 0 0) (v.b 3 0) (v.i 3 1) (v.i 3 2) (v.i 3 3) (qf6 KK)) (by kernel_rfl) (by kernel_rfl) (fun _=>(by kernel_rfl)) rfl
def qff {R:Type}(KK:AV->Mem->Option R):=(fun v4 Av Aw Ax Ay=>KK (.bool v4) (qh [(some (.box true (qd Av Aw Ax Ay)))]))
def qbf {R:Type}(v0:LA)(Av:Bool)(Aw Ax Ay:Int)(kr:Bool->Bool->Int->Int->Int->Option R):Option R:=
 (qcc v0 Av Aw Ax Ay fun v4q1 b0_0q2 b0_1q3 b0_2q4 b0_3q5=>(kr (decide (v4q1>=0)) b0_0q2 b0_1q3 b0_2q4 b0_3q5))
def qdd {R:Type}:=hull (qbf (R:=R))
theorem qfg {R:Type}:qdd (R:=R)=qbf:=qa _
def qfl {R:Type}:RefB Tryz.prog R:=refB (nt:=9) (nb:=1) tabOk follows Tryz.func65 [.t 4] (fun KK=>.s .z (.s (.r [(2,.s (.sel [5,6] [0])),(2,.r qge)] []) (.v [.sel [4] [0]]))) S27_ (qbf (R:=R)) (fun f v KK=>f (v.l 0 0) (v.b 3 0) (v.i 3 1) (v.i 3 2) (v.i 3 3) (qff KK)) (by kernel_rfl) (by kernel_rfl) (fun _=>(by kernel_rfl)) rfl
def qj8 (v0:LA)(B7:Bool)(B8 B9 Ca:Int):Option Bool:=
 (qdd v0 B7 B8 B9 Ca fun v4q1 b0_0q2 b0_1q3 b0_2q4 b0_3q5=>(some v4q1))
def qmq:=hull qj8
theorem q3f:qmq=qj8:=qa _
def qug {R:Type}:EntF Tryz.prog R:=entB (nt:=8) (dec:=decB) (enc:=AV.bool) tabOk follows Tryz.func93 [.t 4] hdeB (.s .z (.s (.r [(2,.s (.sel [5,6] [0])),(2,.r qfl)] []) .z)) S16_ qj8 (fun f v=>f (v.l 0 0) (v.b 5 0) (v.i 5 1) (v.i 5 2) (v.i 5 3))
def S28_:Shp:=⟨[(0,.one (.l (.i .u64))),(1,.one (.l (.i .u64)))],[]⟩
def qpd (v0 v1:Int):Option Int:=
 (bif(decide (v0<v1))then(some (-1:Int))else(bif(decide (v0>v1))then(some (1:Int))else(some (0:Int))))
def qyf:=hull qpd
theorem qbbz:qyf=qpd:=qa _
def q1w {R:Type}:EntF Tryz.prog R:=entB (nt:=13) (dec:=(decI .i64)) (enc:=(AV.int .i64)) tabOk follows Tryz.func184 [.t 4] hdeI (.z) S28_ qpd (fun f v=>f (v.i 0 0) (v.i 4 0))
def S29_:Shp:=⟨[(0,.st (lk qfh)),(1,.st (lk qfh))],[]⟩
def qn5 (Aa:Bool)(Ab Ac:Int)(B7:Bool)(B8 B9:Int):Option Int:=
 (bif((!((Aa==B7)&&true))&&B7)then(some (-1:Int))else(bif(!((Aa==B7)&&true))then(some (1:Int))else(bif(Ab != B8)then(oB (qyf Ab B8) fun r1=>(some r1))else(oB (qyf Ac B9) fun r2=>(some r2)))))
def qnk:=hull qn5
theorem q88:qnk=qn5:=qa _
def qr8 {R:Type}:EntF Tryz.prog R:=entB (nt:=37) (dec:=(decI .i64)) (enc:=(AV.int .i64)) tabOk follows Tryz.func166 [.t 4] hdeI (.s .z (.s (.b (.s (.r [(6,.g 2)] []) (.s .z (.s .z (.s .z (.s .z (.s (.s (.r [(4,.c q1w.b)] []) .z) .z))))))) (.s (.r [(4,.c q1w.b)] []) .z))) S29_ qn5 (fun f v=>f (v.b 1 0) (v.i 1 1) (v.i 1 2) (v.b 5 0) (v.i 5 1) (v.i 5 2))
def qk7 (Aa:Bool)(Ab Ac Bt:Int)(B7:Bool)(B8 B9 Ca:Int):Option Int:=
 (oB (qnk Aa Ab Ac B7 B8 B9) fun r1=>(bif(r1 != (0:Int))then(some r1)else(bif(decide (Bt<Ca))then(some (-1:Int))else(bif(decide (Bt>Ca))then(some (1:Int))else(some (0:Int))))))
def qn6:=hull qk7
theorem q59:qn6=qk7:=qa _
def qvk {R:Type}:EntF Tryz.prog R:=entB (nt:=26) (dec:=(decI .i64)) (enc:=(AV.int .i64)) tabOk follows Tryz.func110 [.t 4] hdeI (.s .z (.s (.s (.r [(4,.c qr8.b)] []) .z) .z)) S20_ qk7 (fun f v=>f (v.b 1 0) (v.i 1 1) (v.i 1 2) (v.i 1 3) (v.b 5 0) (v.i 5 1) (v.i 5 2) (v.i 5 3))
def q3g {R:Type}(KK:AV->Mem->Option R):=(fun v3 Av Aw Ax Ay Az A0 A1 A2=>KK (.bool v3) (qh [(some (.box true (qp Av Aw Ax Ay Az A0 A1 A2)))]))
def qj9 {R:Type}(Aa:Bool)(Ab Ac Bt Bu:Int)(Bv Bw:LU)(Bx:Int)(Av:Bool)(Aw Ax Ay Az:Int)(A0 A1:LU)(A2:Int)(kr:Bool->Bool->Int->Int->Int->Int->(List UInt8)->(List UInt8)->Int->Option R):Option R:=
 (oB (qn6 Aa Ab Ac Bt Av Aw Ax Ay) fun r1=>(kr (decide (r1>0)) Av Aw Ax Ay Az A0 A1 A2))
def qq3 {R:Type}:=hull (qj9 (R:=R))
theorem q3h {R:Type}:qq3 (R:=R)=qj9:=qa _
def q6a {R:Type}:RefB Tryz.prog R:=refB (nt:=10) (nb:=1) tabOk follows Tryz.func144 [.t 3] (fun KK=>.s .z (.s (.r [(4,.c qvk.b)] []) (.v [.sel [3] [0]]))) S22_ (qj9 (R:=R)) (fun f v KK=>f (v.b 1 0) (v.i 1 1) (v.i 1 2) (v.i 1 3) (v.i 1 4) (v.s 1 5) (v.s 1 6) (v.i 1 7) (v.b 3 0) (v.i 3 1) (v.i 3 2) (v.i 3 3) (v.i 3 4) (v.s 3 5) (v.s 3 6) (v.i 3 7) (q3g KK)) (by kernel_rfl) (by kernel_rfl) (fun _=>(by kernel_rfl)) rfl
def S30_:Shp:=⟨[(0,.one (.l (.sl 8))),(1,.one (.fn 144 [(0,0)])),(7,.one (.l (.i .i64))),(8,.one (.l (.i .i64)))],[.box true (lk qc)]⟩
def S31_:Shp:=⟨[(0,.one (.l (.sl 8))),(1,.one (.fn 144 [(0,0)]))],[.box true (lk qc)]⟩
def qc2 {R:Type}(K:Ex->Env->Mem->Option R):=(fun z_b0_0 z_b0_1 z_b0_2 z_b0_3 z_b0_4 z_b0_5 z_b0_6 z_b0_7=>K (.exit 0) (qo []) (qh [(some (.box true (qp z_b0_0 z_b0_1 z_b0_2 z_b0_3 z_b0_4 z_b0_5 z_b0_6 z_b0_7)))]))
def qc7 {R:Type}(KK:AV->Mem->Option R):=(fun v4 Av Aw Ax Ay Az A0 A1 A2=>KK (.int .i64 v4) (qh [(some (.box true (qp Av Aw Ax Ay Az A0 A1 A2)))]))
def qw {R:Type}(v0:LA)(v7 v8:Int)(Av:Bool)(Aw Ax Ay Az:Int)(A0 A1:LU)(A2:Int)(next:Int->Bool->Int->Int->Int->Int->(List UInt8)->(List UInt8)->Int->Option R)(kx0:Bool->Int->Int->Int->Int->(List UInt8)->(List UInt8)->Int->Option R)(kr:Int->Bool->Int->Int->Int->Int->(List UInt8)->(List UInt8)->Int->Option R):Option R:=
 (bif(decide (v8<v7))then(oB (ixB v0 v8) fun y1=>(bif fitC qc y1.cells then(qq3 (gB y1.cells 0) (gI y1.cells 1) (gI y1.cells 2) (gI y1.cells 3) (gI y1.cells 4) (gS y1.cells 5) (gS y1.cells 6) (gI y1.cells 7) Av Aw Ax Ay Az A0 A1 A2 fun v3q2 b0_0q3 b0_1q4 b0_2q5 b0_3q6 b0_4q7 b0_5q8 b0_6q9 b0_7q10=>(bif v3q2 then(kr v8 b0_0q3 b0_1q4 b0_2q5 b0_3q6 b0_4q7 b0_5q8 b0_6q9 b0_7q10)else(next (IntKind.i64.wrap (v8+1)) b0_0q3 b0_1q4 b0_2q5 b0_3q6 b0_4q7 b0_5q8 b0_6q9 b0_7q10)))else none))else(kx0 Av Aw Ax Ay Az A0 A1 A2))
def qx {R:Type}(v0:LA)(v7:Int)(kx0:Bool->Int->Int->Int->Int->(List UInt8)->(List UInt8)->Int->Option R)(kr:Int->Bool->Int->Int->Int->Int->(List UInt8)->(List UInt8)->Int->Option R):Nat->Int->Bool->Int->Int->Int->Int->(List UInt8)->(List UInt8)->Int->Option R
 |0=>(fun _ _ _ _ _ _ _ _ _=>none)
 |n+1=>(fun v8 Av Aw Ax Ay Az A0 A1 A2=>qw v0 v7 v8 Av Aw Ax Ay Az A0 A1 A2 (qx v0 v7 kx0 kr n) kx0 kr)
def qdk {R:Type}:=hull (qx (R:=R))
theorem qfw {R:Type}:qdk (R:=R)=qx:=qa _
def qf8 {R:Type}(KK:AV->Mem->Option R):SubB Tryz.prog (TIof Tryz.prog) 19 1 (qdj [.t 4] KK):=lpB tabOk follows Tryz.f125 37 (.s .z (.s (.s .z (.v [.sel [] [0]])) (.s (.b (.s .z (.s (.r [(3,.p (.etac 14 qc)),(5,.s (.sel [0,1,5,7,8,11,15] [0])),(5,.r q6a)] []) (.s (.s .z (.v [.sel [4] [0]])) .z)))) (.v [.sel [0,1,7,8] [0]])))) S30_ (qx (R:=R)) (fun f v K n=>f (v.l 0 0) (v.i 28 0) (qc2 K) (qc7 KK) n) (fun v f K=>qw (v.l 0 0) (v.i 28 0) (v.i 32 0) (v.b 3 0) (v.i 3 1) (v.i 3 2) (v.i 3 3) (v.i 3 4) (v.s 3 5) (v.s 3 6) (v.i 3 7) f (qc2 K) (qc7 KK)) (fun f v=>f (v.i 32 0) (v.b 3 0) (v.i 3 1) (v.i 3 2) (v.i 3 3) (v.i 3 4) (v.s 3 5) (v.s 3 6) (v.i 3 7)) (fun k v=>(fun z0 z1 z2 z3 z4 z5 z6 z7 z8=>k (((((((((v.ui 32 0 z0).ub 3 0 z1).ui 3 1 z2).ui 3 2 z3).ui 3 3 z4).ui 3 4 z5).us 3 5 z6).us 3 6 z7).ui 3 7 z8)))
def qgp {R:Type}(KK:AV->Mem->Option R):=(fun v4 Av Aw Ax Ay Az A0 A1 A2=>KK (.int .i64 v4) (qh [(some (.box true (qp Av Aw Ax Ay Az A0 A1 A2)))]))
def qbo {R:Type}(v0:LA)(Av:Bool)(Aw Ax Ay Az:Int)(A0 A1:LU)(A2:Int)(kr:Int->Bool->Int->Int->Int->Int->(List UInt8)->(List UInt8)->Int->Option R):Option R:=
 (qdk v0 (v0.length:Int) (fun b0_0q1 b0_1q2 b0_2q3 b0_3q4 b0_4q5 b0_5q6 b0_6q7 b0_7q8=>(kr (-1:Int) b0_0q1 b0_1q2 b0_2q3 b0_3q4 b0_4q5 b0_5q6 b0_6q7 b0_7q8)) kr FU (0:Int) Av Aw Ax Ay Az A0 A1 A2)
def qce {R:Type}:=hull (qbo (R:=R))
theorem qgq {R:Type}:qce (R:=R)=qbo:=qa _
def qgz {R:Type}:RefB Tryz.prog R:=refB (nt:=19) (nb:=1) tabOk follows Tryz.func125 [.t 4] (fun KK=>.s .z (.s (.s .z (.b (.sub [.sel [0,1,7,8] [0]] (qf8 KK) []))) (.s .z (.v [.sel [4] [0]])))) S31_ (qbo (R:=R)) (fun f v KK=>f (v.l 0 0) (v.b 3 0) (v.i 3 1) (v.i 3 2) (v.i 3 3) (v.i 3 4) (v.s 3 5) (v.s 3 6) (v.i 3 7) (qgp KK)) (by kernel_rfl) (by kernel_rfl) (fun _=>(by kernel_rfl)) rfl
def qbew {R:Type}(vs:LA)(m:Mem)(K:AV->Mem->Option R):Option R:=qtt 8 80 vs m K
theorem qbex {R:Type}:qjw Tryz.prog 145 (qbew (R:=R)):=qbd3 (ρ:=qx2 145 177 178 0 3 4 22 33) tabOk (qba2 follows "slices.Insert[[]ddi/api.Block,ddi/api.Block]" (by kernel_rfl) (by kernel_rfl) Tryz.func177 (by kernel_rfl) (by kernel_rfl) (by kernel_rfl) (by kernel_rfl) (by kernel_rfl) (by kernel_rfl) (by kernel_rfl) (by kernel_rfl) (by kernel_rfl) (by kernel_rfl) (by kernel_rfl) (by kernel_rfl) (by kernel_rfl) (by kernel_rfl) (by kernel_rfl) (by kernel_rfl) (by kernel_rfl)) (by kernel_rfl) (by kernel_rfl) (by decide) (by decide)
def S32_:Shp:=⟨[(0,.one (.l (.sl 8))),(3,.one (.ptr 0 0)),(5,.one (.l (.i .i64)))],[.box true (lk qc)]⟩
def q19 (v0:LA)(Av:Bool)(Aw Ax Ay Az:Int)(A0 A1:LU)(A2:Int)(K:Ex->Env->Mem->Option (List AV)):=(fun z_v5=>K .norm (qo [(0,(.sl 8 v0)),(3,(.ptr 0 0)),(5,(.int .i64 z_v5))]) (qh [(some (.box true (qp Av Aw Ax Ay Az A0 A1 A2)))]))
def qjg (v0:LA)(v5:Int)(Av:Bool)(Aw Ax Ay Az:Int)(A0 A1:LU)(A2:Int)(kn:Int->Option (List AV)):Option (List AV):=
 (bif(decide (v5<0))then(kn (v0.length:Int))else(kn v5))
def qvl:=hull (qjg)
theorem q2a:qvl=qjg:=qa _
def q3i:SubB Tryz.prog (TIof Tryz.prog) 19 0 (kret [.t 4] (decF true 8)):=jnB tabOk follows Tryz.f94 11 (.s .z (.s (.v [.sel [0,3,5] [0]]) (.v [.sel [0,3,5] [0]]))) S32_ (qjg) (fun f v K=>f (v.l 0 0) (v.i 20 0) (v.b 3 0) (v.i 3 1) (v.i 3 2) (v.i 3 3) (v.i 3 4) (v.s 3 5) (v.s 3 6) (v.i 3 7) (q19 (v.l 0 0) (v.b 3 0) (v.i 3 1) (v.i 3 2) (v.i 3 3) (v.i 3 4) (v.s 3 5) (v.s 3 6) (v.i 3 7) K))
def qmr (v0:LA)(B7:Bool)(B8 B9 Ca Cb:Int)(Cc Cd:LU)(Ce:Int):Option (List AV):=
 (qce v0 B7 B8 B9 Ca Cb Cc Cd Ce fun v4q1 b0_0q2 b0_1q3 b0_2q4 b0_3q5 b0_4q6 b0_5q7 b0_6q8 b0_7q9=>(qvl v0 v4q1 b0_0q2 b0_1q3 b0_2q4 b0_3q5 b0_4q6 b0_5q7 b0_6q8 b0_7q9 (fun v5q10=>(oB (qq v0) fun r11=>(bif hd r11 r11.length then(bif hd ([(.agg [(.bool b0_0q2),(.int .u64 b0_1q3),(.int .u64 b0_2q4),(.int .i64 b0_3q5),(.int .i64 b0_4q6),(.str b0_5q7),(.str b0_6q8),(.int .i64 b0_7q9)])]:List AV) (([(.agg [(.bool b0_0q2),(.int .u64 b0_1q3),(.int .u64 b0_2q4),(.int .i64 b0_3q5),(.int .i64 b0_4q6),(.str b0_5q7),(.str b0_6q8),(.int .i64 b0_7q9)])]:List AV).length)then(oB (qkw 80 r11 v5q10 ([(.agg [(.bool b0_0q2),(.int .u64 b0_1q3),(.int .u64 b0_2q4),(.int .i64 b0_3q5),(.int .i64 b0_4q6),(.str b0_5q7),(.str b0_6q8),(.int .i64 b0_7q9)])]:List AV)) fun r12=>(bif hd r12 r12.length then(some r12)else none))else none)else none)))))
def qt3:=hull qmr
theorem q7s:qt3=qmr:=qa _
def q89 {R:Type}:EntF Tryz.prog R:=entB (nt:=19) (dec:=(decF true 8)) (enc:=(AV.fr true 8)) tabOk follows Tryz.func94 [.t 4] hdeF (.s .z (.s (.r [(2,.s (.sel [0,3,6,7] [0])),(2,.r qgz)] []) (.s (.sub [.sel [0,3,5] [0]] q3i []) (.s (.d3 [] [14,17] [(1,.c (eB qd7))] [(0,.r (rB qbex))] []) .z)))) S25_ qmr (fun f v=>f (v.l 0 0) (v.b 5 0) (v.i 5 1) (v.i 5 2) (v.i 5 3) (v.i 5 4) (v.s 5 5) (v.s 5 6) (v.i 5 7))
def S33_:Shp:=⟨[(0,.one (.l (.sl 8))),(3,.one (.ptr 0 0))],[.box true (lk qc)]⟩
def qyx:AV->Option ((List AV)×Int):=decN [(.one (.sl 8)),(.one (.i .i64))] fun z=>(aL (gC (tpL z) 0),aI (gC (tpL z) 1))
def q6b (v0:LA)(Av:Bool)(Aw Ax Ay Az:Int)(A0 A1:LU)(A2:Int)(K:Ex->Env->Mem->Option ((List AV)×Int)):=(fun z_v25=>K .norm (qo [(0,(.sl 8 v0)),(3,(.ptr 0 0)),(25,(.bool z_v25))]) (qh [(some (.box true (qp Av Aw Ax Ay Az A0 A1 A2)))]))
def qk8 (v0:LA)(Av:Bool)(Aw Ax Ay Az:Int)(A0 A1:LU)(A2:Int)(kn:Bool->Option ((List AV)×Int)):Option ((List AV)×Int):=
 (oB (qiv v0 Av Aw Ax Ay Az A0 A1 A2) fun r1=>(bif r1 then(kn true)else(oB (qmq v0 Av Aw Ax Ay) fun r2=>(kn r2))))
def qyy:=hull (qk8)
theorem q6c:qyy=qk8:=qa _
def q7t:SubB Tryz.prog (TIof Tryz.prog) 32 0 (kret [.t 4,.t 5] qyx):=jnB tabOk follows Tryz.f37 39 (.r [(2,.c qth.b),(7,.c qug.b)] [.sel [0,3,25] [0]]) S33_ (qk8) (fun f v K=>f (v.l 0 0) (v.b 3 0) (v.i 3 1) (v.i 3 2) (v.i 3 3) (v.i 3 4) (v.s 3 5) (v.s 3 6) (v.i 3 7) (q6b (v.l 0 0) (v.b 3 0) (v.i 3 1) (v.i 3 2) (v.i 3 3) (v.i 3 4) (v.s 3 5) (v.s 3 6) (v.i 3 7) K))
def qq4 (v0:LA)(B7:Bool)(B8 B9 Ca Cb:Int)(Cc Cd:LU)(Ce:Int):Option ((List AV)×Int):=
 (oB (qnh B7 B8 B9 Ca Cb Cc Cd Ce) fun r1=>(bif(r1 != (0:Int))then(some (([]:List AV),r1))else(oB (qni v0 B7 B8 B9 Ca) fun r2=>(bif(decide (r2>=0))then(some (([]:List AV),(12:Int)))else(qyy v0 B7 B8 B9 Ca Cb Cc Cd Ce (fun v25q3=>(bif v25q3 then(some (([]:List AV),(24:Int)))else(bif(decide ((v0.length:Int)>=512))then(some (([]:List AV),(9:Int)))else(oB (qt3 v0 B7 B8 B9 Ca Cb Cc Cd Ce) fun r4=>(some (r4,(0:Int))))))))))))
def quu:=hull qq4
theorem qbey:quu=qq4:=qa _
def q3j {R:Type}:EntF Tryz.prog R:=entB (nt:=32) (dec:=qyx) (enc:=(fun r=>.tup [.sl 8 r.1,.int .i64 r.2])) tabOk follows Tryz.func37 [.t 4,.t 5] (hdeN fun _=>rfl) (.s .z (.s (.s (.r [(1,.c qyt.b)] []) (.s .z (.s (.s .z (.v [.eta 4 (.one (.sl 8))])) .z))) (.s (.s (.r [(3,.c qr7.b)] []) (.s (.s .z (.v [.eta 4 (.one (.sl 8))])) .z)) (.s (.s (.sub [.sel [0,3] [0]] q7t []) (.s (.s .z (.v [.eta 4 (.one (.sl 8))])) .z)) (.s (.s .z (.s (.s .z (.v [.eta 4 (.one (.sl 8))])) .z)) (.s (.r [(2,.k q89.b)] []) .z)))))) S25_ qq4 (fun f v=>f (v.l 0 0) (v.b 5 0) (v.i 5 1) (v.i 5 2) (v.i 5 3) (v.i 5 4) (v.s 5 5) (v.s 5 6) (v.i 5 7))
def qbez {R:Type}(vs:LA)(m:Mem)(K:AV->Mem->Option R):Option R:=qts 8 vs m K
theorem qbe0 {R:Type}:qjw Tryz.prog 146 (qbez (R:=R)):=qbd2 (ρ:=qx1 146 0 3 4 22 33) tabOk (qba1 follows "slices.Delete[[]ddi/api.Block,ddi/api.Block]" (by kernel_rfl) (by kernel_rfl) (by kernel_rfl) (by kernel_rfl) (by kernel_rfl) (by kernel_rfl) (by kernel_rfl) (by kernel_rfl) (by kernel_rfl) (by kernel_rfl) (by kernel_rfl) (by kernel_rfl) (by kernel_rfl) (by kernel_rfl)) (by kernel_rfl) (by decide)
def S34_:Shp:=⟨[(0,.one (.l (.sl 8))),(1,.one (.l (.i .i64)))],[]⟩
def qk9 (v0:LA)(v1:Int):Option (List AV):=
 (oB (qq v0) fun r1=>(bif hd r1 r1.length then(oB (qqr r1 v1 (IntKind.i64.wrap (v1+1))) fun r2=>(bif hd r2 r2.length then(some r2)else none))else none))
def qn7:=hull qk9
theorem q6d:qn7=qk9:=qa _
def q7u {R:Type}:EntF Tryz.prog R:=entB (nt:=11) (dec:=(decF true 8)) (enc:=(AV.fr true 8)) tabOk follows Tryz.func95 [.t 4] hdeF (.s .z (.s (.r [(1,.c (eB qd7)),(5,.r (rB qbe0))] []) .z)) S34_ qk9 (fun f v=>f (v.l 0 0) (v.i 4 0))
def q6e:AV->Option ((List AV)×Int):=decN [(.one (.sl 8)),(.one (.i .i64))] fun z=>(aL (gC (tpL z) 0),aI (gC (tpL z) 1))
def qms (v0:LA)(B7:Bool)(B8 B9 Ca:Int):Option ((List AV)×Int):=
 (oB (qni v0 B7 B8 B9 Ca) fun r1=>(bif(decide (r1<0))then(some (([]:List AV),(11:Int)))else(oB (qmq v0 B7 B8 B9 Ca) fun r2=>(bif r2 then(some (([]:List AV),(25:Int)))else(oB (qn7 v0 r1) fun r3=>(some (r3,(0:Int))))))))
def qt4:=hull qms
theorem q7v:qt4=qms:=qa _
def q9a {R:Type}:EntF Tryz.prog R:=entB (nt:=18) (dec:=q6e) (enc:=(fun r=>.tup [.sl 8 r.1,.int .i64 r.2])) tabOk follows Tryz.func38 [.t 4,.t 5] (hdeN fun _=>rfl) (.s .z (.s (.r [(2,.c qr7.b)] []) (.s (.s .z (.s (.s .z (.v [.eta 4 (.one (.sl 8))])) .z)) (.s (.s (.r [(2,.c qug.b)] []) (.s (.s .z (.v [.eta 4 (.one (.sl 8))])) .z)) (.s (.r [(2,.k q7u.b)] []) .z))))) S16_ qms (fun f v=>f (v.l 0 0) (v.b 5 0) (v.i 5 1) (v.i 5 2) (v.i 5 3))
def qm:List LT:=[.s,.b,(.i .u64),(.i .u64),(.i .i64)]
def S35_:Shp:=⟨[(0,.st (lk qc)),(1,.one (.ptr 1 0))],[.box true (lk qc),.box true (lk qfh),.box true (lk qc),.box true (lk qc),.box true (lk qc)]⟩
def q3k {R:Type}(KK:AV->Mem->Option R):=(fun v3 Av Aw Ax Ay Az A0 A1 A2 Ad Ae Af Au Bc Bd Be Bf Bg Bh Bi Cf Cg Ch Ci Cj Ck Cl Cm Cn Co Cp Cq Cr Cs Ct Cu=>KK (.bool v3) (qh [(some (.box true (qp Av Aw Ax Ay Az A0 A1 A2))),(some (.box true (qlq Ad Ae Af))),(some (.box true (qp Au Bc Bd Be Bf Bg Bh Bi))),(some (.box true (qp Cf Cg Ch Ci Cj Ck Cl Cm))),(some (.box true (qp Cn Co Cp Cq Cr Cs Ct Cu)))]))
def qka {R:Type}(Aa:Bool)(Ab Ac Bt Bu:Int)(Bv Bw:LU)(Bx:Int)(Av:Bool)(Aw Ax Ay Az:Int)(A0 A1:LU)(A2:Int)(Ad:Bool)(Ae Af:Int)(Au:Bool)(Bc Bd Be Bf:Int)(Bg Bh:LU)(Bi:Int)(Cf:Bool)(Cg Ch Ci Cj:Int)(Ck Cl:LU)(Cm:Int)(Cn:Bool)(Co Cp Cq Cr:Int)(Cs Ct:LU)(Cu:Int)(kr:Bool->Bool->Int->Int->Int->Int->(List UInt8)->(List UInt8)->Int->Bool->Int->Int->Bool->Int->Int->Int->Int->(List UInt8)->(List UInt8)->Int->Bool->Int->Int->Int->Int->(List UInt8)->(List UInt8)->Int->Bool->Int->Int->Int->Int->(List UInt8)->(List UInt8)->Int->Option R):Option R:=
 (oB (qmn Aa Ab Ac Bt Ad Ae Af) fun r1=>(kr r1 Av Aw Ax Ay Az A0 A1 A2 Ad Ae Af Au Bc Bd Be Bf Bg Bh Bi Cf Cg Ch Ci Cj Ck Cl Cm Cn Co Cp Cq Cr Cs Ct Cu))
def qxc {R:Type}:=hull (qka (R:=R))
theorem q3l {R:Type}:qxc (R:=R)=qka:=qa _
def q6f {R:Type}:RefB Tryz.prog R:=refB (nt:=8) (nb:=5) tabOk follows Tryz.func148 [.t 3] (fun KK=>.s .z (.s (.r [(3,.c quf.b)] []) (.v [.sel [3] [0,1,2,3,4]]))) S35_ (qka (R:=R)) (fun f v KK=>f (v.b 1 0) (v.i 1 1) (v.i 1 2) (v.i 1 3) (v.i 1 4) (v.s 1 5) (v.s 1 6) (v.i 1 7) (v.b 3 0) (v.i 3 1) (v.i 3 2) (v.i 3 3) (v.i 3 4) (v.s 3 5) (v.s 3 6) (v.i 3 7) (v.b 7 0) (v.i 7 1) (v.i 7 2) (v.b 11 0) (v.i 11 1) (v.i 11 2) (v.i 11 3) (v.i 11 4) (v.s 11 5) (v.s 11 6) (v.i 11 7) (v.b 15 0) (v.i 15 1) (v.i 15 2) (v.i 15 3) (v.i 15 4) (v.s 15 5) (v.s 15 6) (v.i 15 7) (v.b 19 0) (v.i 19 1) (v.i 19 2) (v.i 19 3) (v.i 19 4) (v.s 19 5) (v.s 19 6) (v.i 19 7) (q3k KK)) (by kernel_rfl) (by kernel_rfl) (fun _=>(by kernel_rfl)) rfl
def S36_:Shp:=⟨[(1,.one (.fn 148 [(1,0)])),(4,.one (.ptr 2 0)),(6,.one (.ptr 3 0)),(7,.one (.l .b)),(9,.one (.ptr 4 0)),(10,.one (.l (.sl 8))),(11,.one (.l (.i .i64))),(12,.one (.l (.i .i64)))],[.box true (lk qc),.box true (lk qfh),.box true (lk qc),.box true (lk qc),.box true (lk qc)]⟩
def S37_:Shp:=⟨[(1,.one (.fn 148 [(1,0)])),(4,.one (.ptr 2 0)),(6,.one (.ptr 3 0)),(7,.one (.l .b)),(10,.one (.l (.sl 8))),(11,.one (.l (.i .i64))),(12,.one (.l (.i .i64)))],[.box true (lk qc),.box true (lk qfh),.box true (lk qc),.box true (lk qc)]⟩
def S38_:Shp:=⟨[(0,.one (.l (.sl 8))),(1,.one (.fn 148 [(1,0)]))],[.box true (lk qc),.box true (lk qfh)]⟩
def ql9 {R:Type}(v7:Bool)(v10:LA)(v11 v12:Int)(K:Ex->Env->Mem->Option R):=(fun z_v31 z_b0_0 z_b0_1 z_b0_2 z_b0_3 z_b0_4 z_b0_5 z_b0_6 z_b0_7 z_b1_0 z_b1_1 z_b1_2 z_b2_0 z_b2_1 z_b2_2 z_b2_3 z_b2_4 z_b2_5 z_b2_6 z_b2_7 z_b3_0 z_b3_1 z_b3_2 z_b3_3 z_b3_4 z_b3_5 z_b3_6 z_b3_7 z_b4_0 z_b4_1 z_b4_2 z_b4_3 z_b4_4 z_b4_5 z_b4_6 z_b4_7=>K .norm (qo [(1,(.func 148 [(.ptr 1 0)])),(4,(.ptr 2 0)),(6,(.ptr 3 0)),(7,(.bool v7)),(9,(.ptr 4 0)),(10,(.sl 8 v10)),(11,(.int .i64 v11)),(12,(.int .i64 v12)),(31,(.bool z_v31))]) (qh [(some (.box true (qp z_b0_0 z_b0_1 z_b0_2 z_b0_3 z_b0_4 z_b0_5 z_b0_6 z_b0_7))),(some (.box true (qlq z_b1_0 z_b1_1 z_b1_2))),(some (.box true (qp z_b2_0 z_b2_1 z_b2_2 z_b2_3 z_b2_4 z_b2_5 z_b2_6 z_b2_7))),(some (.box true (qp z_b3_0 z_b3_1 z_b3_2 z_b3_3 z_b3_4 z_b3_5 z_b3_6 z_b3_7))),(some (.box true (qp z_b4_0 z_b4_1 z_b4_2 z_b4_3 z_b4_4 z_b4_5 z_b4_6 z_b4_7)))]))
def qcy {R:Type}(v7:Bool)(v10:LA)(v11 v12:Int)(Av:Bool)(Aw Ax Ay Az:Int)(A0 A1:LU)(A2:Int)(Ad:Bool)(Ae Af:Int)(Au:Bool)(Bc Bd Be Bf:Int)(Bg Bh:LU)(Bi:Int)(Cf:Bool)(Cg Ch Ci Cj:Int)(Ck Cl:LU)(Cm:Int)(Cn:Bool)(Co Cp Cq Cr:Int)(Cs Ct:LU)(Cu:Int)(kn:Bool->Bool->Int->Int->Int->Int->(List UInt8)->(List UInt8)->Int->Bool->Int->Int->Bool->Int->Int->Int->Int->(List UInt8)->(List UInt8)->Int->Bool->Int->Int->Int->Int->(List UInt8)->(List UInt8)->Int->Bool->Int->Int->Int->Int->(List UInt8)->(List UInt8)->Int->Option R):Option R:=
 (qxc Cn Co Cp Cq Cr Cs Ct Cu Av Aw Ax Ay Az A0 A1 A2 Ad Ae Af Au Bc Bd Be Bf Bg Bh Bi Cf Cg Ch Ci Cj Ck Cl Cm Cn Co Cp Cq Cr Cs Ct Cu fun v3q1 b0_0q2 b0_1q3 b0_2q4 b0_3q5 b0_4q6 b0_5q7 b0_6q8 b0_7q9 b1_0q10 b1_1q11 b1_2q12 b2_0q13 b2_1q14 b2_2q15 b2_3q16 b2_4q17 b2_5q18 b2_6q19 b2_7q20 b3_0q21 b3_1q22 b3_2q23 b3_3q24 b3_4q25 b3_5q26 b3_6q27 b3_7q28 b4_0q29 b4_1q30 b4_2q31 b4_3q32 b4_4q33 b4_5q34 b4_6q35 b4_7q36=>(bif v3q1 then(bif(!v7)then(kn true b0_0q2 b0_1q3 b0_2q4 b0_3q5 b0_4q6 b0_5q7 b0_6q8 b0_7q9 b1_0q10 b1_1q11 b1_2q12 b2_0q13 b2_1q14 b2_2q15 b2_3q16 b2_4q17 b2_5q18 b2_6q19 b2_7q20 b3_0q21 b3_1q22 b3_2q23 b3_3q24 b3_4q25 b3_5q26 b3_6q27 b3_7q28 b4_0q29 b4_1q30 b4_2q31 b4_3q32 b4_4q33 b4_5q34 b4_6q35 b4_7q36)else(kn (decide (b4_3q32>b3_3q24)) b0_0q2 b0_1q3 b0_2q4 b0_3q5 b0_4q6 b0_5q7 b0_6q8 b0_7q9 b1_0q10 b1_1q11 b1_2q12 b2_0q13 b2_1q14 b2_2q15 b2_3q16 b2_4q17 b2_5q18 b2_6q19 b2_7q20 b3_0q21 b3_1q22 b3_2q23 b3_3q24 b3_4q25 b3_5q26 b3_6q27 b3_7q28 b4_0q29 b4_1q30 b4_2q31 b4_3q32 b4_4q33 b4_5q34 b4_6q35 b4_7q36))else(kn false b0_0q2 b0_1q3 b0_2q4 b0_3q5 b0_4q6 b0_5q7 b0_6q8 b0_7q9 b1_0q10 b1_1q11 b1_2q12 b2_0q13 b2_1q14 b2_2q15 b2_3q16 b2_4q17 b2_5q18 b2_6q19 b2_7q20 b3_0q21 b3_1q22 b3_2q23 b3_3q24 b3_4q25 b3_5q26 b3_6q27 b3_7q28 b4_0q29 b4_1q30 b4_2q31 b4_3q32 b4_4q33 b4_5q34 b4_6q35 b4_7q36)))
def qhp {R:Type}:=hull (qcy (R:=R))
theorem qma {R:Type}:qhp (R:=R)=qcy:=qa _
def qna {R:Type}(KK:AV->Mem->Option R):SubB Tryz.prog (TIof Tryz.prog) 36 2 (qdj [(.cell 4 true 8),.t 5] KK):=jnB tabOk follows Tryz.f147 10647 (.r [(2,.s (.sel [1,4,6,7,9,10,11,12,16,17] [0,1,2,3,4])),(2,.r q6f)] [.sel [1,4,6,7,9,10,11,12,31] [0,1,2,3,4]]) S36_ (qcy (R:=R)) (fun f v K=>f (v.b 28 0) (v.l 40 0) (v.i 44 0) (v.i 48 0) (v.b 3 0) (v.i 3 1) (v.i 3 2) (v.i 3 3) (v.i 3 4) (v.s 3 5) (v.s 3 6) (v.i 3 7) (v.b 7 0) (v.i 7 1) (v.i 7 2) (v.b 11 0) (v.i 11 1) (v.i 11 2) (v.i 11 3) (v.i 11 4) (v.s 11 5) (v.s 11 6) (v.i 11 7) (v.b 15 0) (v.i 15 1) (v.i 15 2) (v.i 15 3) (v.i 15 4) (v.s 15 5) (v.s 15 6) (v.i 15 7) (v.b 19 0) (v.i 19 1) (v.i 19 2) (v.i 19 3) (v.i 19 4) (v.s 19 5) (v.s 19 6) (v.i 19 7) (ql9 (v.b 28 0) (v.l 40 0) (v.i 44 0) (v.i 48 0) K))
def qfx {R:Type}(K:Ex->Env->Mem->Option R):=(fun z_v7 z_b0_0 z_b0_1 z_b0_2 z_b0_3 z_b0_4 z_b0_5 z_b0_6 z_b0_7 z_b1_0 z_b1_1 z_b1_2 z_b2_0 z_b2_1 z_b2_2 z_b2_3 z_b2_4 z_b2_5 z_b2_6 z_b2_7 z_b3_0 z_b3_1 z_b3_2 z_b3_3 z_b3_4 z_b3_5 z_b3_6 z_b3_7=>K (.exit 0) (qo [(4,(.ptr 2 0)),(6,(.ptr 3 0)),(7,(.bool z_v7))]) (qh [(some (.box true (qp z_b0_0 z_b0_1 z_b0_2 z_b0_3 z_b0_4 z_b0_5 z_b0_6 z_b0_7))),(some (.box true (qlq z_b1_0 z_b1_1 z_b1_2))),(some (.box true (qp z_b2_0 z_b2_1 z_b2_2 z_b2_3 z_b2_4 z_b2_5 z_b2_6 z_b2_7))),(some (.box true (qp z_b3_0 z_b3_1 z_b3_2 z_b3_3 z_b3_4 z_b3_5 z_b3_6 z_b3_7)))]))
def qb5 {R:Type}(v7:Bool)(v10:LA)(v11 v12:Int)(Av:Bool)(Aw Ax Ay Az:Int)(A0 A1:LU)(A2:Int)(Ad:Bool)(Ae Af:Int)(Au:Bool)(Bc Bd Be Bf:Int)(Bg Bh:LU)(Bi:Int)(Cf:Bool)(Cg Ch Ci Cj:Int)(Ck Cl:LU)(Cm:Int)(next:Bool->Int->Bool->Int->Int->Int->Int->(List UInt8)->(List UInt8)->Int->Bool->Int->Int->Bool->Int->Int->Int->Int->(List UInt8)->(List UInt8)->Int->Bool->Int->Int->Int->Int->(List UInt8)->(List UInt8)->Int->Option R)(kx0:Bool->Bool->Int->Int->Int->Int->(List UInt8)->(List UInt8)->Int->Bool->Int->Int->Bool->Int->Int->Int->Int->(List UInt8)->(List UInt8)->Int->Bool->Int->Int->Int->Int->(List UInt8)->(List UInt8)->Int->Option R):Option R:=
 (bif(decide (v12<v11))then(oB (ixB v10 v12) fun y1=>(bif fitC qc y1.cells then(qhp v7 v10 v11 v12 Av Aw Ax Ay Az A0 A1 A2 Ad Ae Af Au Bc Bd Be Bf Bg Bh Bi Cf Cg Ch Ci Cj Ck Cl Cm (gB y1.cells 0) (gI y1.cells 1) (gI y1.cells 2) (gI y1.cells 3) (gI y1.cells 4) (gS y1.cells 5) (gS y1.cells 6) (gI y1.cells 7) (fun v31q2 b0_0q3 b0_1q4 b0_2q5 b0_3q6 b0_4q7 b0_5q8 b0_6q9 b0_7q10 b1_0q11 b1_1q12 b1_2q13 b2_0q14 b2_1q15 b2_2q16 b2_3q17 b2_4q18 b2_5q19 b2_6q20 b2_7q21 b3_0q22 b3_1q23 b3_2q24 b3_3q25 b3_4q26 b3_5q27 b3_6q28 b3_7q29 b4_0q30 b4_1q31 b4_2q32 b4_3q33 b4_4q34 b4_5q35 b4_6q36 b4_7q37=>(bif v31q2 then(next true (IntKind.i64.wrap (v12+1)) b0_0q3 b0_1q4 b0_2q5 b0_3q6 b0_4q7 b0_5q8 b0_6q9 b0_7q10 b1_0q11 b1_1q12 b1_2q13 b2_0q14 b2_1q15 b2_2q16 b2_3q17 b2_4q18 b2_5q19 b2_6q20 b2_7q21 b4_0q30 b4_1q31 b4_2q32 b4_3q33 b4_4q34 b4_5q35 b4_6q36 b4_7q37)else(next v7 (IntKind.i64.wrap (v12+1)) b0_0q3 b0_1q4 b0_2q5 b0_3q6 b0_4q7 b0_5q8 b0_6q9 b0_7q10 b1_0q11 b1_1q12 b1_2q13 b2_0q14 b2_1q15 b2_2q16 b2_3q17 b2_4q18 b2_5q19 b2_6q20 b2_7q21 b3_0q22 b3_1q23 b3_2q24 b3_3q25 b3_4q26 b3_5q27 b3_6q28 b3_7q29))))else none))else(kx0 v7 Av Aw Ax Ay Az A0 A1 A2 Ad Ae Af Au Bc Bd Be Bf Bg Bh Bi Cf Cg Ch Ci Cj Ck Cl Cm))
def qbv {R:Type}(v10:LA)(v11:Int)(kx0:Bool->Bool->Int->Int->Int->Int->(List UInt8)->(List UInt8)->Int->Bool->Int->Int->Bool->Int->Int->Int->Int->(List UInt8)->(List UInt8)->Int->Bool->Int->Int->Int->Int->(List UInt8)->(List UInt8)->Int->Option R):Nat->Bool->Int->Bool->Int->Int->Int->Int->(List UInt8)->(List UInt8)->Int->Bool->Int->Int->Bool->Int->Int->Int->Int->(List UInt8)->(List UInt8)->Int->Bool->Int->Int->Int->Int->(List UInt8)->(List UInt8)->Int->Option R
 |0=>(fun _ _ _ _ _ _ _ _ _ _ _ _ _ _ _ _ _ _ _ _ _ _ _ _ _ _ _ _ _=>none)
 |n+1=>(fun v7 v12 Av Aw Ax Ay Az A0 A1 A2 Ad Ae Af Au Bc Bd Be Bf Bg Bh Bi Cf Cg Ch Ci Cj Ck Cl Cm=>qb5 v7 v10 v11 v12 Av Aw Ax Ay Az A0 A1 A2 Ad Ae Af Au Bc Bd Be Bf Bg Bh Bi Cf Cg Ch Ci Cj Ck Cl Cm (qbv v10 v11 kx0 n) kx0)
def qhq {R:Type}:=hull (qbv (R:=R))
theorem qmb {R:Type}:qhq (R:=R)=qbv:=qa _
def qnb {R:Type}(KK:AV->Mem->Option R):SubB Tryz.prog (TIof Tryz.prog) 36 2 (qdj [(.cell 4 true 8),.t 5] KK):=lpB tabOk follows Tryz.f147 151 (.s .z (.s (.s .z (.v [.sel [4,6,7] [0,1,2,3]])) (.s (.b (.s (.r [(0,.p (.etac 14 qc))] []) (.s (.sub [.sel [1,4,6,7,9,10,11,12] [0,1,2,3,4]] (qna KK) []) .z))) (.v [.sel [1,4,6,7,10,11,12] [0,1,2,3]])))) S37_ (qbv (R:=R)) (fun f v K n=>f (v.l 40 0) (v.i 44 0) (qfx K) n) (fun v f K=>qb5 (v.b 28 0) (v.l 40 0) (v.i 44 0) (v.i 48 0) (v.b 3 0) (v.i 3 1) (v.i 3 2) (v.i 3 3) (v.i 3 4) (v.s 3 5) (v.s 3 6) (v.i 3 7) (v.b 7 0) (v.i 7 1) (v.i 7 2) (v.b 11 0) (v.i 11 1) (v.i 11 2) (v.i 11 3) (v.i 11 4) (v.s 11 5) (v.s 11 6) (v.i 11 7) (v.b 15 0) (v.i 15 1) (v.i 15 2) (v.i 15 3) (v.i 15 4) (v.s 15 5) (v.s 15 6) (v.i 15 7) f (qfx K)) (fun f v=>f (v.b 28 0) (v.i 48 0) (v.b 3 0) (v.i 3 1) (v.i 3 2) (v.i 3 3) (v.i 3 4) (v.s 3 5) (v.s 3 6) (v.i 3 7) (v.b 7 0) (v.i 7 1) (v.i 7 2) (v.b 11 0) (v.i 11 1) (v.i 11 2) (v.i 11 3) (v.i 11 4) (v.s 11 5) (v.s 11 6) (v.i 11 7) (v.b 15 0) (v.i 15 1) (v.i 15 2) (v.i 15 3) (v.i 15 4) (v.s 15 5) (v.s 15 6) (v.i 15 7)) (fun k v=>(fun z0 z1 z2 z3 z4 z5 z6 z7 z8 z9 z10 z11 z12 z13 z14 z15 z16 z17 z18 z19 z20 z21 z22 z23 z24 z25 z26 z27 z28=>k (((((((((((((((((((((((((((((v.ub 28 0 z0).ui 48 0 z1).ub 3 0 z2).ui 3 1 z3).ui 3 2 z4).ui 3 3 z5).ui 3 4 z6).us 3 5 z7).us 3 6 z8).ui 3 7 z9).ub 7 0 z10).ui 7 1 z11).ui 7 2 z12).ub 11 0 z13).ui 11 1 z14).ui 11 2 z15).ui 11 3 z16).ui 11 4 z17).us 11 5 z18).us 11 6 z19).ui 11 7 z20).ub 15 0 z21).ui 15 1 z22).ui 15 2 z23).ui 15 3 z24).ui 15 4 z25).us 15 5 z26).us 15 6 z27).ui 15 7 z28)))
def qot {R:Type}(KK:AV->Mem->Option R):=(fun v5 Av Aw Ax Ay Az A0 A1 A2 Ad Ae Af Au Bc Bd Be Bf Bg Bh Bi=>KK (.tup [(.agg [(.bool Au),(.int .u64 Bc),(.int .u64 Bd),(.int .i64 Be),(.int .i64 Bf),(.str Bg),(.str Bh),(.int .i64 Bi)]),(.bool v5)]) (qh [(some (.box true (qp Av Aw Ax Ay Az A0 A1 A2))),(some (.box true (qlq Ad Ae Af))),(some (.box true (qp Au Bc Bd Be Bf Bg Bh Bi)))]))
def qdo {R:Type}(v0:LA)(Av:Bool)(Aw Ax Ay Az:Int)(A0 A1:LU)(A2:Int)(Ad:Bool)(Ae Af:Int)(kr:Bool->Bool->Int->Int->Int->Int->(List UInt8)->(List UInt8)->Int->Bool->Int->Int->Bool->Int->Int->Int->Int->(List UInt8)->(List UInt8)->Int->Option R):Option R:=
 (qhq v0 (v0.length:Int) (fun v7q1 b0_0q2 b0_1q3 b0_2q4 b0_3q5 b0_4q6 b0_5q7 b0_6q8 b0_7q9 b1_0q10 b1_1q11 b1_2q12 b2_0q13 b2_1q14 b2_2q15 b2_3q16 b2_4q17 b2_5q18 b2_6q19 b2_7q20 b3_0q21 b3_1q22 b3_2q23 b3_3q24 b3_4q25 b3_5q26 b3_6q27 b3_7q28=>(kr v7q1 b0_0q2 b0_1q3 b0_2q4 b0_3q5 b0_4q6 b0_5q7 b0_6q8 b0_7q9 b1_0q10 b1_1q11 b1_2q12 b3_0q21 b3_1q22 b3_2q23 b3_3q24 b3_4q25 b3_5q26 b3_6q27 b3_7q28)) FU false (0:Int) Av Aw Ax Ay Az A0 A1 A2 Ad Ae Af false (0:Int) (0:Int) (0:Int) (0:Int) ([]:List UInt8) ([]:List UInt8) (0:Int) false (0:Int) (0:Int) (0:Int) (0:Int) ([]:List UInt8) ([]:List UInt8) (0:Int))
def qi8 {R:Type}:=hull (qdo (R:=R))
theorem qou {R:Type}:qi8 (R:=R)=qdo:=qa _
def qo3 {R:Type}:RefB Tryz.prog R:=refB (nt:=36) (nb:=2) tabOk follows Tryz.func147 [(.cell 4 true 8),.t 5] (fun KK=>.s .z (.s .z (.s .z (.s (.s .z (.b (.sub [.sel [1,4,6,7,10,11,12] [0,1,2,3]] (qnb KK) []))) (.s .z (.v [.sel [4,5] [0,1,2]])))))) S38_ (qdo (R:=R)) (fun f v KK=>f (v.l 0 0) (v.b 3 0) (v.i 3 1) (v.i 3 2) (v.i 3 3) (v.i 3 4) (v.s 3 5) (v.s 3 6) (v.i 3 7) (v.b 7 0) (v.i 7 1) (v.i 7 2) (qot KK)) (by kernel_rfl) (by kernel_rfl) (fun _=>(by kernel_rfl)) rfl
def S39_:Shp:=⟨[(0,.one (.l (.sl 8))),(1,.st (lk qfh))],[]⟩
def q6g:AV->Option (AV×Bool):=decN [(.st [.b,(.i .u64),(.i .u64),(.i .i64),(.i .i64),.s,.s,(.i .i64)]),(.one .b)] fun z=>((gC (tpL z) 0),aB (gC (tpL z) 1))
def qmt (v0:LA)(B7:Bool)(B8 B9:Int):Option (AV×Bool):=
 (qi8 v0 false (0:Int) (0:Int) (0:Int) (0:Int) ([]:List UInt8) ([]:List UInt8) (0:Int) B7 B8 B9 fun v5q1 b0_0q2 b0_1q3 b0_2q4 b0_3q5 b0_4q6 b0_5q7 b0_6q8 b0_7q9 b1_0q10 b1_1q11 b1_2q12 b2_0q13 b2_1q14 b2_2q15 b2_3q16 b2_4q17 b2_5q18 b2_6q19 b2_7q20=>(some ((.agg [(.bool b2_0q13),(.int .u64 b2_1q14),(.int .u64 b2_2q15),(.int .i64 b2_3q16),(.int .i64 b2_4q17),(.str b2_5q18),(.str b2_6q19),(.int .i64 b2_7q20)]),v5q1)))
def qt5:=hull qmt
theorem q7w:qt5=qmt:=qa _
def q9b {R:Type}:EntF Tryz.prog R:=entB (nt:=11) (dec:=q6g) (enc:=(fun r=>.tup [qem (.st [.b,(.i .u64),(.i .u64),(.i .i64),(.i .i64),.s,.s,(.i .i64)]) r.1,.bool r.2])) tabOk follows Tryz.func97 [(.cell 4 true 8),.t 5] (hdeN fun _=>rfl) (.s .z (.s (.r [(2,.s (.sel [4,6,7] [1,0])),(2,.r qo3)] []) .z)) S39_ qmt (fun f v=>f (v.l 0 0) (v.b 5 0) (v.i 5 1) (v.i 5 2))
def S40_:Shp:=⟨[(0,.one (.l (.sl 8))),(1,.st (lk qm))],[]⟩
def qkb (v0:LA)(B7:LU)(B8:Bool)(B9 Ca Cb:Int):Option Bool:=
 (oB (qt5 v0 B8 B9 Ca) fun r1=>(bif r1.2 then(bif((gI r1.1.cells 4)==2)then(some true)else(some ((gI r1.1.cells 4)==3)))else(some false)))
def qjh:=hull qkb
theorem q3m:qjh=qkb:=qa _
def qov {R:Type}:EntF Tryz.prog R:=entB (nt:=25) (dec:=decB) (enc:=AV.bool) tabOk follows Tryz.func41 [.t 4] hdeB (.s .z (.s (.r [(3,.c q9b.b)] []) .z)) S40_ qkb (fun f v=>f (v.l 0 0) (v.s 5 0) (v.b 5 1) (v.i 5 2) (v.i 5 3) (v.i 5 4))
def qcg (x0 x1 x2:LA):List AV:=[.sl 8 x0,.sl 5 x1,.sl 1 x2]
def S41_:Shp:=⟨[(0,.st (lk qm)),(1,.one (.ptr 0 0))],[.box true (lk qby),.box true [(.l .nil),(.l .nil),(.l .nil)]]⟩
def q6h {R:Type}(KK:AV->Mem->Option R):=(fun v3 Av Aw Ax=>KK (.bool v3) (qh [(some (.box true (qcg Av Aw Ax))),(some (.box true [.nils,.nils,.nils]))]))
def qla {R:Type}(Aa:LU)(Ab:Bool)(Ac Bt Bu:Int)(Av Aw Ax:LA)(kr:Bool->(List AV)->(List AV)->(List AV)->Option R):Option R:=
 (oB (qjh Av Aa Ab Ac Bt Bu) fun r1=>(kr (!r1) Av Aw Ax))
def qyz {R:Type}:=hull (qla (R:=R))
theorem q6i {R:Type}:qyz (R:=R)=qla:=qa _
def q7x {R:Type}:RefB Tryz.prog R:=refB (nt:=9) (nb:=2) tabOk follows Tryz.func40 [.t 3] (fun KK=>.s .z (.s (.r [(3,.c qov.b)] []) (.v [.sel [3] [0,1]]))) S41_ (qla (R:=R)) (fun f v KK=>f (v.s 1 0) (v.b 1 1) (v.i 1 2) (v.i 1 3) (v.i 1 4) (v.l 3 0) (v.l 3 1) (v.l 3 2) (q6h KK)) (by kernel_rfl) (by kernel_rfl) (fun _=>(by kernel_rfl)) rfl
def S42_:Shp:=⟨[(0,.one (.l (.sl 5))),(1,.one (.fn 40 [(0,0)])),(7,.one (.l (.i .i64))),(8,.one (.l (.i .i64)))],[.box true (lk qby),.box true [(.l .nil),(.l .nil),(.l .nil)]]⟩
def S43_:Shp:=⟨[(0,.one (.l (.sl 5))),(1,.one (.fn 40 [(0,0)]))],[.box true (lk qby),.box true [(.l .nil),(.l .nil),(.l .nil)]]⟩
def qde {R:Type}(K:Ex->Env->Mem->Option R):=(fun z_b0_0 z_b0_1 z_b0_2=>K (.exit 0) (qo []) (qh [(some (.box true (qcg z_b0_0 z_b0_1 z_b0_2))),(some (.box true [.nils,.nils,.nils]))]))
def qdl {R:Type}(KK:AV->Mem->Option R):=(fun v4 Av Aw Ax=>KK (.int .i64 v4) (qh [(some (.box true (qcg Av Aw Ax))),(some (.box true [.nils,.nils,.nils]))]))
def q8 {R:Type}(v0:LA)(v7 v8:Int)(Av Aw Ax:LA)(next:Int->(List AV)->(List AV)->(List AV)->Option R)(kx0:(List AV)->(List AV)->(List AV)->Option R)(kr:Int->(List AV)->(List AV)->(List AV)->Option R):Option R:=
 (bif(decide (v8<v7))then(oB (ixB v0 v8) fun y1=>(bif fitC qm y1.cells then(qyz (gS y1.cells 0) (gB y1.cells 1) (gI y1.cells 2) (gI y1.cells 3) (gI y1.cells 4) Av Aw Ax fun v3q2 b0_0q3 b0_1q4 b0_2q5=>(bif v3q2 then(kr v8 b0_0q3 b0_1q4 b0_2q5)else(next (IntKind.i64.wrap (v8+1)) b0_0q3 b0_1q4 b0_2q5)))else none))else(kx0 Av Aw Ax))
def q9 {R:Type}(v0:LA)(v7:Int)(kx0:(List AV)->(List AV)->(List AV)->Option R)(kr:Int->(List AV)->(List AV)->(List AV)->Option R):Nat->Int->(List AV)->(List AV)->(List AV)->Option R
 |0=>(fun _ _ _ _=>none)
 |n+1=>(fun v8 Av Aw Ax=>q8 v0 v7 v8 Av Aw Ax (q9 v0 v7 kx0 kr n) kx0 kr)
def qds {R:Type}:=hull (q9 (R:=R))
theorem qgr {R:Type}:qds (R:=R)=q9:=qa _
def qg0 {R:Type}(KK:AV->Mem->Option R):SubB Tryz.prog (TIof Tryz.prog) 19 2 (qdj [.t 4] KK):=lpB tabOk follows Tryz.f96 37 (.s .z (.s (.s .z (.v [.sel [] [0,1]])) (.s (.b (.s .z (.s (.r [(3,.p (.etac 14 qm)),(5,.s (.sel [0,1,5,7,8,11,15] [0,1])),(5,.r q7x)] []) (.s (.s .z (.v [.sel [4] [0,1]])) .z)))) (.v [.sel [0,1,7,8] [0,1]])))) S42_ (q9 (R:=R)) (fun f v K n=>f (v.l 0 0) (v.i 28 0) (qde K) (qdl KK) n) (fun v f K=>q8 (v.l 0 0) (v.i 28 0) (v.i 32 0) (v.l 3 0) (v.l 3 1) (v.l 3 2) f (qde K) (qdl KK)) (fun f v=>f (v.i 32 0) (v.l 3 0) (v.l 3 1) (v.l 3 2)) (fun k v=>(fun z0 z1 z2 z3=>k ((((v.ui 32 0 z0).ul 3 0 z1).ul 3 1 z2).ul 3 2 z3)))
def qhl {R:Type}(KK:AV->Mem->Option R):=(fun v4 Av Aw Ax=>KK (.int .i64 v4) (qh [(some (.box true (qcg Av Aw Ax))),(some (.box true [.nils,.nils,.nils]))]))
def qbu {R:Type}(v0 Av Aw Ax:LA)(kr:Int->(List AV)->(List AV)->(List AV)->Option R):Option R:=
 (qds v0 (v0.length:Int) (fun b0_0q1 b0_1q2 b0_2q3=>(kr (-1:Int) b0_0q1 b0_1q2 b0_2q3)) kr FU (0:Int) Av Aw Ax)
def qd2 {R:Type}:=hull (qbu (R:=R))
theorem qhm {R:Type}:qd2 (R:=R)=qbu:=qa _
def qhy {R:Type}:RefB Tryz.prog R:=refB (nt:=19) (nb:=2) tabOk follows Tryz.func96 [.t 4] (fun KK=>.s .z (.s (.s .z (.b (.sub [.sel [0,1,7,8] [0,1]] (qg0 KK) []))) (.s .z (.v [.sel [4] [0,1]])))) S43_ (qbu (R:=R)) (fun f v KK=>f (v.l 0 0) (v.l 3 0) (v.l 3 1) (v.l 3 2) (qhl KK)) (by kernel_rfl) (by kernel_rfl) (fun _=>(by kernel_rfl)) rfl
def qgs {R:Type}(KK:AV->Mem->Option R):=(fun v4 Av Aw Ax=>KK (.bool v4) (qh [(some (.box true (qcg Av Aw Ax))),(some (.box true [.nils,.nils,.nils]))]))
def qbp {R:Type}(v0 Av Aw Ax:LA)(kr:Bool->(List AV)->(List AV)->(List AV)->Option R):Option R:=
 (qd2 v0 Av Aw Ax fun v4q1 b0_0q2 b0_1q3 b0_2q4=>(kr (decide (v4q1>=0)) b0_0q2 b0_1q3 b0_2q4))
def qcf {R:Type}:=hull (qbp (R:=R))
theorem qgt {R:Type}:qcf (R:=R)=qbp:=qa _
def qg1 {R:Type}:RefB Tryz.prog R:=refB (nt:=9) (nb:=2) tabOk follows Tryz.func39 [.t 4] (fun KK=>.s .z (.s (.r [(2,.s (.sel [5,6] [0,1])),(2,.r qhy)] []) (.v [.sel [4] [0,1]]))) S43_ (qbp (R:=R)) (fun f v KK=>f (v.l 0 0) (v.l 3 0) (v.l 3 1) (v.l 3 2) (qgs KK)) (by kernel_rfl) (by kernel_rfl) (fun _=>(by kernel_rfl)) rfl
def q9c:AV->Option (AV×Bool):=decN [(.st [.b,(.i .u64),(.i .u64),(.i .i64),(.i .i64),.s,.s,(.i .i64)]),(.one .b)] fun z=>((gC (tpL z) 0),aB (gC (tpL z) 1))
def qpe (v0:LA)(B7:Bool)(B8 B9 Ca:Int):Option (AV×Bool):=
 (oB (qni v0 B7 B8 B9 Ca) fun r1=>(bif(decide (r1>=0))then(oB (ixB v0 r1) fun y2=>(bif fitC qc y2.cells then(some ((.agg [(.bool (gB y2.cells 0)),(.int .u64 (gI y2.cells 1)),(.int .u64 (gI y2.cells 2)),(.int .i64 (gI y2.cells 3)),(.int .i64 (gI y2.cells 4)),(.str (gS y2.cells 5)),(.str (gS y2.cells 6)),(.int .i64 (gI y2.cells 7))]),true))else none))else(some ((.agg [(.bool false),(.int .u64 (0:Int)),(.int .u64 (0:Int)),(.int .i64 (0:Int)),(.int .i64 (0:Int)),(.str ([]:List UInt8)),(.str ([]:List UInt8)),(.int .i64 (0:Int))]),false))))
def ql2:=hull qpe
theorem qbb0:ql2=qpe:=qa _
def qpf {R:Type}:EntF Tryz.prog R:=entB (nt:=17) (dec:=q9c) (enc:=(fun r=>.tup [qem (.st [.b,(.i .u64),(.i .u64),(.i .i64),(.i .i64),.s,.s,(.i .i64)]) r.1,.bool r.2])) tabOk follows Tryz.func51 [(.cell 4 true 8),.t 5] (hdeN fun _=>rfl) (.s .z (.s (.s (.r [(2,.c qr7.b)] []) (.s .z (.s (.s (.r [(2,.p (.etac 14 qc))] []) .z) .z))) .z)) S16_ qpe (fun f v=>f (v.l 0 0) (v.b 5 0) (v.i 5 1) (v.i 5 2) (v.i 5 3))
def qkc (Aa:Bool)(Ab Ac Bt:Int):Option Int:=
 (bif Aa then(some (128:Int))else(some (32:Int)))
def qq5:=hull qkc
theorem q3n:qq5=qkc:=qa _
def q6j {R:Type}:EntF Tryz.prog R:=entB (nt:=6) (dec:=(decI .i64)) (enc:=(AV.int .i64)) tabOk follows Tryz.func149 [.t 2] hdeI (.z) S8_ qkc (fun f v=>f (v.b 1 0) (v.i 1 1) (v.i 1 2) (v.i 1 3))
def qlb (Aa:Bool)(Ab Ac Bt:Int)(B7:Bool)(B8 B9 Ca:Int):Option Bool:=
 (oB (qjb Aa Ab Ac Bt B7 B8 B9 Ca) fun r1=>(bif r1 then(some true)else(oB (qjb B7 B8 B9 Ca Aa Ab Ac Bt) fun r2=>(some r2))))
def qr9:=hull qlb
theorem q6k:qr9=qlb:=qa _
def qvm {R:Type}:EntF Tryz.prog R:=entB (nt:=13) (dec:=decB) (enc:=AV.bool) tabOk follows Tryz.func190 [.t 4] hdeB (.s .z (.s (.r [(2,.c qje.b),(6,.c qje.b)] []) .z)) S20_ qlb (fun f v=>f (v.b 1 0) (v.i 1 1) (v.i 1 2) (v.i 1 3) (v.b 5 0) (v.i 5 1) (v.i 5 2) (v.i 5 3))
def S44_:Shp:=⟨[(1,.one (.l (.i .i64))),(2,.one (.l (.i .u64))),(3,.one (.ptr 0 0)),(6,.one (.ptr 1 0))],[.box true (lk qe),.box true (lk qe)]⟩
def S45_:Shp:=⟨[(1,.one (.l (.i .i64))),(2,.one (.l (.i .u64))),(3,.one (.ptr 0 0)),(6,.one (.ptr 1 0)),(8,.one (.l (.i .i64)))],[.box true (lk qe),.box true (lk qe)]⟩
def S46_:Shp:=⟨[(1,.one (.l (.i .i64))),(2,.one (.l (.i .u64))),(3,.one (.ptr 0 0)),(6,.one (.ptr 1 0)),(9,.one (.l (.i .u64))),(10,.one (.l (.i .u64))),(11,.one (.l (.i .u64)))],[.box true (lk qe),.box true (lk qe)]⟩
def S47_:Shp:=⟨[(0,.st (lk qe)),(1,.one (.l (.i .i64))),(2,.one (.l (.i .u64)))],[]⟩
def qmu:AV->Option (AV×Bool):=decN [(.st [.b,(.i .u64),(.i .u64),(.i .i64)]),(.one .b)] fun z=>((gC (tpL z) 0),aB (gC (tpL z) 1))
def q6l (v1 v2:Int)(Av:Bool)(Aw Ax Ay:Int)(Ad:Bool)(Ae Af Ag:Int)(K:Ex->Env->Mem->Option (AV×Bool)):=(fun z_v28=>K .norm (qo [(1,(.int .i64 v1)),(2,(.int .u64 v2)),(3,(.ptr 0 0)),(6,(.ptr 1 0)),(28,(.bool z_v28))]) (qh [(some (.box true (qd Av Aw Ax Ay))),(some (.box true (qd Ad Ae Af Ag)))]))
def qlc (v1 v2:Int)(Av:Bool)(Aw Ax Ay:Int)(Ad:Bool)(Ae Af Ag:Int)(kn:Bool->Option (AV×Bool)):Option (AV×Bool):=
 (oB (qg6 Av Aw Ax Ay) fun r1=>(bif((!r1)||(decide (v1<Ay)))then(kn true)else(oB (qja Av Aw Ax) fun r2=>(kn (decide (v1>r2))))))
def qsa:=hull (qlc)
theorem q6m:qsa=qlc:=qa _
def q7y:SubB Tryz.prog (TIof Tryz.prog) 81 0 (kret [(.cell 6 true 4),.t 7] qmu):=jnB tabOk follows Tryz.f156 9 (.r [(1,.c qiq.b),(4,.g 4),(13,.c qmm.b)] [.sel [1,2,3,6,28] [0,1]]) S44_ (qlc) (fun f v K=>f (v.i 4 0) (v.i 8 0) (v.b 3 0) (v.i 3 1) (v.i 3 2) (v.i 3 3) (v.b 7 0) (v.i 7 1) (v.i 7 2) (v.i 7 3) (q6l (v.i 4 0) (v.i 8 0) (v.b 3 0) (v.i 3 1) (v.i 3 2) (v.i 3 3) (v.b 7 0) (v.i 7 1) (v.i 7 2) (v.i 7 3) K))
def q3o (v1 v2:Int)(Av:Bool)(Aw Ax Ay:Int)(Ad:Bool)(Ae Af Ag:Int)(K:Ex->Env->Mem->Option (AV×Bool)):=(fun z_v42=>K .norm (qo [(1,(.int .i64 v1)),(2,(.int .u64 v2)),(3,(.ptr 0 0)),(6,(.ptr 1 0)),(42,(.bool z_v42))]) (qh [(some (.box true (qd Av Aw Ax Ay))),(some (.box true (qd Ad Ae Af Ag)))]))
def qh1 (v1 v2 v8:Int)(Av:Bool)(Aw Ax Ay:Int)(Ad:Bool)(Ae Af Ag:Int)(kn:Bool->Option (AV×Bool)):Option (AV×Bool):=
 (bif(decide (v8<64))then(bif decide ((IntKind.u64.wrap v8)<0)then none else(kn ((v2.fdiv (2^min (IntKind.u64.wrap v8).toNat IntKind.u64.bits)) != (0:Int))))else(kn false))
def qxd:=hull (qh1)
theorem qti:qxd=qh1:=qa _
def q6n:SubB Tryz.prog (TIof Tryz.prog) 81 0 (kret [(.cell 6 true 4),.t 7] qmu):=jnB tabOk follows Tryz.f156 43 (.v [.sel [1,2,3,6,42] [0,1]]) S45_ (qh1) (fun f v K=>f (v.i 4 0) (v.i 8 0) (v.i 32 0) (v.b 3 0) (v.i 3 1) (v.i 3 2) (v.i 3 3) (v.b 7 0) (v.i 7 1) (v.i 7 2) (v.i 7 3) (q3o (v.i 4 0) (v.i 8 0) (v.b 3 0) (v.i 3 1) (v.i 3 2) (v.i 3 3) (v.b 7 0) (v.i 7 1) (v.i 7 2) (v.i 7 3) K))
def q3p (v1:Int)(Av:Bool)(Aw Ax Ay:Int)(Ad:Bool)(Ae Af Ag:Int)(K:Ex->Env->Mem->Option (AV×Bool)):=(fun z_v10 z_v11=>K .norm (qo [(1,(.int .i64 v1)),(3,(.ptr 0 0)),(6,(.ptr 1 0)),(10,(.int .u64 z_v10)),(11,(.int .u64 z_v11))]) (qh [(some (.box true (qd Av Aw Ax Ay))),(some (.box true (qd Ad Ae Af Ag)))]))
def qh2 (v1 v2 v9 v10 v11:Int)(Av:Bool)(Aw Ax Ay:Int)(Ad:Bool)(Ae Af Ag:Int)(kn:Int->Int->Option (AV×Bool)):Option (AV×Bool):=
 (bif(decide (v9>=64))then(bif decide ((IntKind.u64.wrap (v9-64))<0)then none else(kn (IntKind.u64.wrap (v2*2^min (IntKind.u64.wrap (v9-64)).toNat IntKind.u64.bits)) (0:Int)))else(bif(decide (v9>0))then(bif decide ((IntKind.u64.wrap ((64:Int)-v9))<0)then none else(bif decide (v9<0)then none else(kn (v2.fdiv (2^min (IntKind.u64.wrap ((64:Int)-v9)).toNat IntKind.u64.bits)) (IntKind.u64.wrap (v2*2^min v9.toNat IntKind.u64.bits)))))else(kn v10 v11)))
def qji:=hull (qh2)
theorem qtj:qji=qh2:=qa _
def q6o:SubB Tryz.prog (TIof Tryz.prog) 81 0 (kret [(.cell 6 true 4),.t 7] qmu):=jnB tabOk follows Tryz.f156 95 (.s .z (.s (.v [.sel [1,3,6,10,11] [0,1]]) (.s .z (.s (.v [.sel [1,3,6,10,11] [0,1]]) (.v [.sel [1,3,6,10,11] [0,1]]))))) S46_ (qh2) (fun f v K=>f (v.i 4 0) (v.i 8 0) (v.i 36 0) (v.i 40 0) (v.i 44 0) (v.b 3 0) (v.i 3 1) (v.i 3 2) (v.i 3 3) (v.b 7 0) (v.i 7 1) (v.i 7 2) (v.i 7 3) (q3p (v.i 4 0) (v.b 3 0) (v.i 3 1) (v.i 3 2) (v.i 3 3) (v.b 7 0) (v.i 7 1) (v.i 7 2) (v.i 7 3) K))
def qlr (Aa:Bool)(Ab Ac Bt v1 v2:Int):Option (AV×Bool):=
 (qsa v1 v2 Aa Ab Ac Bt false (0:Int) (0:Int) (0:Int) (fun v28q1=>(bif v28q1 then(some ((.agg [(.bool false),(.int .u64 (0:Int)),(.int .u64 (0:Int)),(.int .i64 (0:Int))]),false))else(qxd v1 v2 (IntKind.i64.wrap (v1-Bt)) Aa Ab Ac Bt false (0:Int) (0:Int) (0:Int) (fun v42q2=>(bif v42q2 then(some ((.agg [(.bool false),(.int .u64 (0:Int)),(.int .u64 (0:Int)),(.int .i64 (0:Int))]),false))else(oB (qja Aa Ab Ac) fun r3=>(qji v1 v2 (IntKind.u64.wrap (IntKind.i64.wrap (r3-v1))) (0:Int) v2 Aa Ab Ac Bt false (0:Int) (0:Int) (0:Int) (fun v10q4 v11q5=>(some ((.agg [(.bool Aa),(.int .u64 (qbq .or .u64 Ab v10q4)),(.int .u64 (qbq .or .u64 Ac v11q5)),(.int .i64 v1)]),true)))))))))))
def qdx:=hull qlr
theorem qy0:qdx=qlr:=qa _
def qt6 {R:Type}:EntF Tryz.prog R:=entB (nt:=81) (dec:=qmu) (enc:=(fun r=>.tup [qem (.st [.b,(.i .u64),(.i .u64),(.i .i64)]) r.1,.bool r.2])) tabOk follows Tryz.func156 [(.cell 6 true 4),.t 7] (hdeN fun _=>rfl) (.s .z (.s (.s (.sub [.sel [1,2,3,6] [0,1]] q7y []) .z) (.s (.s .z (.s (.sub [.sel [1,2,3,6,8] [0,1]] q6n []) .z)) (.s (.r [(2,.c qmm.b)] []) (.s .z (.s (.sub [.sel [1,2,3,6,9,10,11] [0,1]] q6o []) .z)))))) S47_ qlr (fun f v=>f (v.b 1 0) (v.i 1 1) (v.i 1 2) (v.i 1 3) (v.i 4 0) (v.i 8 0))
def S48_:Shp:=⟨[(1,.one (.ptr 0 0)),(2,.one (.ptr 1 0)),(3,.one (.ptr 2 0)),(5,.one (.ptr 3 0)),(6,.one (.l .b))],[.box true (lk qe),.box true (lk qe),.box true (lk qe),.box true (lk qe)]⟩
def quh:AV->Option (AV×AV×Bool):=decN [(.st [.b,(.i .u64),(.i .u64),(.i .i64)]),(.st [.b,(.i .u64),(.i .u64),(.i .i64)]),(.one .b)] fun z=>((gC (tpL z) 0),(gC (tpL z) 1),aB (gC (tpL z) 2))
def q2b (Av:Bool)(Aw Ax Ay:Int)(Ad:Bool)(Ae Af Ag:Int)(Au:Bool)(Bc Bd Be:Int)(Cf:Bool)(Cg Ch Ci:Int)(K:Ex->Env->Mem->Option (AV×AV×Bool)):=(fun z_v22=>K .norm (qo [(1,(.ptr 0 0)),(2,(.ptr 1 0)),(3,(.ptr 2 0)),(5,(.ptr 3 0)),(22,(.bool z_v22))]) (qh [(some (.box true (qd Av Aw Ax Ay))),(some (.box true (qd Ad Ae Af Ag))),(some (.box true (qd Au Bc Bd Be))),(some (.box true (qd Cf Cg Ch Ci)))]))
def qjj (v6 Av:Bool)(Aw Ax Ay:Int)(Ad:Bool)(Ae Af Ag:Int)(Au:Bool)(Bc Bd Be:Int)(Cf:Bool)(Cg Ch Ci:Int)(kn:Bool->Option (AV×AV×Bool)):Option (AV×AV×Bool):=
 (bif(!v6)then(kn true)else(oB (qg6 Av Aw Ax Ay) fun r1=>(kn (!r1))))
def qvn:=hull (qjj)
theorem q2c:qvn=qjj:=qa _
def q3q:SubB Tryz.prog (TIof Tryz.prog) 36 0 (kret [(.cell 2 true 4),(.cell 3 true 4),.t 4] quh):=jnB tabOk follows Tryz.f155 19 (.r [(4,.c qiq.b)] [.sel [1,2,3,5,22] [0,1,2,3]]) S48_ (qjj) (fun f v K=>f (v.b 24 0) (v.b 3 0) (v.i 3 1) (v.i 3 2) (v.i 3 3) (v.b 7 0) (v.i 7 1) (v.i 7 2) (v.i 7 3) (v.b 11 0) (v.i 11 1) (v.i 11 2) (v.i 11 3) (v.b 15 0) (v.i 15 1) (v.i 15 2) (v.i 15 3) (q2b (v.b 3 0) (v.i 3 1) (v.i 3 2) (v.i 3 3) (v.b 7 0) (v.i 7 1) (v.i 7 2) (v.i 7 3) (v.b 11 0) (v.i 11 1) (v.i 11 2) (v.i 11 3) (v.b 15 0) (v.i 15 1) (v.i 15 2) (v.i 15 3) K))
def qmv (Aa:Bool)(Ab Ac Bt:Int):Option (AV×AV×Bool):=
 (oB (qdx Aa Ab Ac Bt (IntKind.i64.wrap (Bt+1)) (0:Int)) fun r1=>(qvn r1.2 Aa Ab Ac Bt false (0:Int) (0:Int) (0:Int) false (0:Int) (0:Int) (0:Int) (gB r1.1.cells 0) (gI r1.1.cells 1) (gI r1.1.cells 2) (gI r1.1.cells 3) (fun v22q2=>(bif v22q2 then(some ((.agg [(.bool false),(.int .u64 (0:Int)),(.int .u64 (0:Int)),(.int .i64 (0:Int))]),(.agg [(.bool false),(.int .u64 (0:Int)),(.int .u64 (0:Int)),(.int .i64 (0:Int))]),false))else(oB (qdx Aa Ab Ac Bt (IntKind.i64.wrap (Bt+1)) (1:Int)) fun r3=>(some ((.agg [(.bool (gB r1.1.cells 0)),(.int .u64 (gI r1.1.cells 1)),(.int .u64 (gI r1.1.cells 2)),(.int .i64 (gI r1.1.cells 3))]),(.agg [(.bool (gB r3.1.cells 0)),(.int .u64 (gI r3.1.cells 1)),(.int .u64 (gI r3.1.cells 2)),(.int .i64 (gI r3.1.cells 3))]),r3.2)))))))
def qhz:=hull qmv
theorem q7z:qhz=qmv:=qa _
def qq6 {R:Type}:EntF Tryz.prog R:=entB (nt:=36) (dec:=quh) (enc:=(fun r=>.tup [qem (.st [.b,(.i .u64),(.i .u64),(.i .i64)]) r.1,qem (.st [.b,(.i .u64),(.i .u64),(.i .i64)]) r.2.1,.bool r.2.2])) tabOk follows Tryz.func155 [(.cell 2 true 4),(.cell 3 true 4),.t 4] (hdeN fun _=>rfl) (.s .z (.s (.r [(4,.c qt6.b)] []) (.s (.s (.sub [.sel [1,2,3,5,6] [0,1,2,3]] q3q []) .z) (.s (.r [(4,.c qt6.b)] []) .z)))) S8_ qmv (fun f v=>f (v.b 1 0) (v.i 1 1) (v.i 1 2) (v.i 1 3))
def q9d {β:Type}(cs:LA)(f:Bool->Int->Int->Int->β):β:=f (gB cs 0) (gI cs 1) (gI cs 2) (gI cs 3)
def qq7:Shp:=⟨[(0,.one (.own 0)),(1,.one (.l (.sl 8))),(2,.st (lk qe))],[.arr true 4]⟩
def qey (rec:(List AV)->(List AV)->Bool->Int->Int->Int->Option (List AV))(xs cl:LA):Option (List AV):=chk (quz qq7 (qcm (.own 0 xs.length::cl)) (M1 4 xs)) (cond (hdS qq7 (qcm (.own 0 xs.length::cl)) (M1 4 xs)) (rec xs (gL [(qcm (.own 0 xs.length::cl)) 1] 0) (gB ((qcm (.own 0 xs.length::cl)) 2).cells 0) (gI ((qcm (.own 0 xs.length::cl)) 2).cells 1) (gI ((qcm (.own 0 xs.length::cl)) 2).cells 2) (gI ((qcm (.own 0 xs.length::cl)) 2).cells 3)) none)
def qjk (a0:LA)(Ad:Bool)(Ae Af Ag:Int)(K:Ex->Env->Mem->Option (List AV)):=(fun z_a2=>K (.exit 0) (qo [(0,(.own 0 a0.length)),(5,(.ptr 1 0)),(7,(.own 2 z_a2.length))]) (qh [(some (.arr true 4 a0)),(some (.box true (qd Ad Ae Af Ag))),(some (.arr true 8 z_a2))]))
def q3r:Shp:=⟨[(0,.one (.own 0)),(5,.one (.ptr 1 0)),(7,.one (.own 2)),(13,.one (.l (.sl 8))),(14,.one (.l (.i .i64))),(15,.one (.l (.i .i64)))],[.arr true 4,.box true (lk qe),.arr true 8]⟩
def qow (v13:LA)(v14 v15:Int)(a0:LA)(Ad:Bool)(Ae Af Ag:Int)(a2:LA):Env:=qo [(0,(.own 0 a0.length)),(5,(.ptr 1 0)),(7,(.own 2 a2.length)),(13,(.sl 8 v13)),(14,(.int .i64 v14)),(15,(.int .i64 v15))]
def qox (v13:LA)(v14 v15:Int)(a0:LA)(Ad:Bool)(Ae Af Ag:Int)(a2:LA):Mem:=qh [(some (.arr true 4 a0)),(some (.box true (qd Ad Ae Af Ag))),(some (.arr true 8 a2))]
def qgu (rec:(List AV)->(List AV)->Bool->Int->Int->Int->Option (List AV))(v13:LA)(v14 v15:Int)(a0:LA)(Ad:Bool)(Ae Af Ag:Int)(a2:LA)(next:Int->(List AV)->Option (List AV))(kx0:(List AV)->Option (List AV)):Option (List AV):=
 (bif(decide (v15<v14))then(oB (ixB v13 v15) fun y1=>(bif fitC qc y1.cells then(oB (qjb Ad Ae Af Ag (gB y1.cells 0) (gI y1.cells 1) (gI y1.cells 2) (gI y1.cells 3)) fun r2=>(bif r2 then(bif hd a0 a0.length then(some a0)else none)else(oB (qr9 (gB y1.cells 0) (gI y1.cells 1) (gI y1.cells 2) (gI y1.cells 3) Ad Ae Af Ag) fun r3=>(bif r3 then(bif hd a2 a2.length then(bif hd ([(.agg [(.bool (gB y1.cells 0)),(.int .u64 (gI y1.cells 1)),(.int .u64 (gI y1.cells 2)),(.int .i64 (gI y1.cells 3)),(.int .i64 (gI y1.cells 4)),(.str (gS y1.cells 5)),(.str (gS y1.cells 6)),(.int .i64 (gI y1.cells 7))])]:List AV) (([(.agg [(.bool (gB y1.cells 0)),(.int .u64 (gI y1.cells 1)),(.int .u64 (gI y1.cells 2)),(.int .i64 (gI y1.cells 3)),(.int .i64 (gI y1.cells 4)),(.str (gS y1.cells 5)),(.str (gS y1.cells 6)),(.int .i64 (gI y1.cells 7))])]:List AV).length)then(bif decide ((a2.length+([(.agg [(.bool (gB y1.cells 0)),(.int .u64 (gI y1.cells 1)),(.int .u64 (gI y1.cells 2)),(.int .i64 (gI y1.cells 3)),(.int .i64 (gI y1.cells 4)),(.str (gS y1.cells 5)),(.str (gS y1.cells 6)),(.int .i64 (gI y1.cells 7))])]:List AV).length)*80<=140737488355328)then(next (IntKind.i64.wrap (v15+1)) (a2++([(.agg [(.bool (gB y1.cells 0)),(.int .u64 (gI y1.cells 1)),(.int .u64 (gI y1.cells 2)),(.int .i64 (gI y1.cells 3)),(.int .i64 (gI y1.cells 4)),(.str (gS y1.cells 5)),(.str (gS y1.cells 6)),(.int .i64 (gI y1.cells 7))])]:List AV)))else none)else none)else none)else(next (IntKind.i64.wrap (v15+1)) a2)))))else none))else(kx0 a2))
def qld (rec:(List AV)->(List AV)->Bool->Int->Int->Int->Option (List AV))(v13:LA)(v14:Int)(a0:LA)(Ad:Bool)(Ae Af Ag:Int)(kx0:(List AV)->Option (List AV)):Nat->Int->(List AV)->Option (List AV)
 |0=>(fun _ _=>none)
 |n+1=>(fun v15 a2=>qgu rec v13 v14 v15 a0 Ad Ae Af Ag a2 (qld rec v13 v14 a0 Ad Ae Af Ag kx0 n) kx0)
def qkp (rec:(List AV)->(List AV)->Bool->Int->Int->Int->Option (List AV)):=hull (qld rec)
theorem qui (rec:(List AV)->(List AV)->Bool->Int->Int->Int->Option (List AV)):qkp rec=qld rec:=qa _
def qgv (rec:(List AV)->(List AV)->Bool->Int->Int->Int->Option (List AV)):AC (List AV):=
 .seq (.reg [ao 16 (.bin .lss 15 14)]) (.seq (.cond 16 (.skip) (.seq (.view [.sel [0,5,7] [0,1,2]]) (.exit 0))) (.seq (.block 1 (.seq (.reg [ao 17 (.ia 8 13 15),
 .st (.etac 17 qc),
 ao 18 (.load true 8 17),
 ao 9 (.alloc [(.bool false),(.int .u64 0),(.int .u64 0),(.int .i64 0),(.int .i64 0),(.str []),(.str []),(.int .i64 0)]),
 an (.store 8 9 18)]) (.seq (.seq (.reg [ao 19 (.load true 4 5),
 ao 20 (.fa 0 9),
 ao 21 (.load true 4 20),
 .call (po 22 (.call 122 [19,21])) 122 qje.e]) (.cond 22 (.seq (.reg [ao 23 (.mv 0),
 ao 6 (.mv 23)]) (.ret)) (.skip))) (.seq (.reg [ao 24 (.fa 0 9),
 ao 25 (.load true 4 24),
 ao 26 (.load true 4 5),
 .call (po 27 (.call 190 [25,26])) 190 qvm.e]) (.cond 27 (.reg [ao 28 (.mv 7),
 ao 29 (.load true 8 9),
 ao 30 (.bsl 8 [29]),
 ao 31 (.app 8 80 28 30),
 ao 7 (.mv 31)]) (.skip)))))) (.seq (.reg [ao 32 (.bin .add 15 (.c (.int .i64 1))),
 ao 15 (.mv 32)]) (.view [.sel [0,5,7,13,14,15] [0,1,2]]))))
theorem q6p (rec:(List AV)->(List AV)->Bool->Int->Int->Int->Option (List AV))(hrec:qns Tryz.prog 179 4 (qey rec)):AC.ok Tryz.prog (TIof Tryz.prog) 56 1 (qdj [.t 6] (grK 4)) (qgv rec):=qbol (zA (qgn.ok qje.h) (zA (qgn.ok qvm.h) trivial))
theorem q3s (rec:(List AV)->(List AV)->Bool->Int->Int->Int->Option (List AV))(v13:LA)(v14 v15:Int)(a0:LA)(Ad:Bool)(Ae Af Ag:Int)(a2:LA)(K:Ex->Env->Mem->Option (List AV)):den 1 (qdj [.t 6] (grK 4)) (qgv rec) (qow v13 v14 v15 a0 Ad Ae Af Ag a2) (qox v13 v14 v15 a0 Ad Ae Af Ag a2) K=qgu rec v13 v14 v15 a0 Ad Ae Af Ag a2 (fun z_v15 z_a2=>K .norm (qow v13 v14 z_v15 a0 Ad Ae Af Ag z_a2) (qox v13 v14 z_v15 a0 Ad Ae Af Ag z_a2)) (qjk a0 Ad Ae Af Ag K):=by kernel_rfl
theorem q70 (rec:(List AV)->(List AV)->Bool->Int->Int->Int->Option (List AV))(v13:LA)(v14:Int)(a0:LA)(Ad:Bool)(Ae Af Ag:Int)(K:Ex->Env->Mem->Option (List AV)):∀(n:Nat) (v15:Int) (a2:LA),qrq (den 1 (qdj [.t 6] (grK 4)) (qgv rec)) n (qow v13 v14 v15 a0 Ad Ae Af Ag a2) (qox v13 v14 v15 a0 Ad Ae Af Ag a2) K=qkp rec v13 v14 a0 Ad Ae Af Ag (qjk a0 Ad Ae Af Ag K) n v15 a2:=by
 rw[qui]
 intro n
 induction n with
 |zero=>intros;rfl
 |succ n ih=>
 intro v15 a2
 exact(q3s rec v13 v14 v15 a0 Ad Ae Af Ag a2 (itK (den 1 (qdj [.t 6] (grK 4)) (qgv rec)) n K)).trans (congrArg (fun q=>qgu rec v13 v14 v15 a0 Ad Ae Af Ag a2 q (qjk a0 Ad Ae Af Ag K)) (funext fun v15=>funext fun a2=>ih v15 a2))
def qvo (rec:(List AV)->(List AV)->Bool->Int->Int->Int->Option (List AV)):=subE (R:=List AV) q3r fun t m K=>q9d (bxC (m.s 1)) (qkp rec (gL [t 13] 0) (gI [t 14] 0) (arL (m.s 0))) (qjk (arL (m.s 0)) (gB (bxC (m.s 1)) 0) (gI (bxC (m.s 1)) 1) (gI (bxC (m.s 1)) 2) (gI (bxC (m.s 1)) 3) K) FU (gI [t 15] 0) (arL (m.s 2))
theorem q71 (rec:(List AV)->(List AV)->Bool->Int->Int->Int->Option (List AV))(hrec:qns Tryz.prog 179 4 (qey rec)):qxz Tryz.prog (TIof Tryz.prog) 56 1 (qdj [.t 6] (grK 4)) (.loop (scOf (qgv rec))) (qvo rec):=
 qbi5 tabOk follows (q6p rec hrec) (qbaz (by kernel_rfl)) fun t m K=>q70 rec _ _ _ _ _ _ _ K FU _ _
def qpg (rec:(List AV)->(List AV)->Bool->Int->Int->Int->Option (List AV))(a0 v1:LA)(Cw:Bool)(Cx Cy Cz:Int):Option (List AV):=
 (bif(hd a0 (a0.length)&&(hd ([]:List AV) (([]:List AV).length)&&true))then(qkp rec v1 (v1.length:Int) a0 Cw Cx Cy Cz (fun a2q1=>(bif((a2q1.length:Int)==0)then(bif hd a0 a0.length then(bif hd ([(.agg [(.bool Cw),(.int .u64 Cx),(.int .u64 Cy),(.int .i64 Cz)])]:List AV) (([(.agg [(.bool Cw),(.int .u64 Cx),(.int .u64 Cy),(.int .i64 Cz)])]:List AV).length)then(bif decide ((a0.length+([(.agg [(.bool Cw),(.int .u64 Cx),(.int .u64 Cy),(.int .i64 Cz)])]:List AV).length)*32<=140737488355328)then(bif hd (a0++([(.agg [(.bool Cw),(.int .u64 Cx),(.int .u64 Cy),(.int .i64 Cz)])]:List AV)) ((a0++([(.agg [(.bool Cw),(.int .u64 Cx),(.int .u64 Cy),(.int .i64 Cz)])]:List AV)).length)then(some (a0++([(.agg [(.bool Cw),(.int .u64 Cx),(.int .u64 Cy),(.int .i64 Cz)])]:List AV)))else none)else none)else none)else none)else(oB (qhz Cw Cx Cy Cz) fun r2=>(bif(!r2.2.2)then(bif hd a0 a0.length then(some a0)else none)else(bif hd a2q1 a2q1.length then(bif hd a0 a0.length then(oB (bif(hd a0 (a0.length)&&true)then(rec a0 a2q1 (gB r2.1.cells 0) (gI r2.1.cells 1) (gI r2.1.cells 2) (gI r2.1.cells 3))else none) fun r3=>(bif hd r3 r3.length then(oB (bif(hd r3 (r3.length)&&true)then(rec r3 a2q1 (gB r2.2.1.cells 0) (gI r2.2.1.cells 1) (gI r2.2.1.cells 2) (gI r2.2.1.cells 3))else none) fun r4=>(bif hd r4 r4.length then(some r4)else none))else none))else none)else none))))) FU (0:Int) ([]:List AV))else none)
def qdu:Nat->(List AV)->(List AV)->Bool->Int->Int->Int->Option (List AV)
 |0=>(fun _ _ _ _ _ _=>none)
 |n+1=>(fun a0 v1 Cw Cx Cy Cz=>qpg (qdu n) a0 v1 Cw Cx Cy Cz)
def qyg:(List AV)->(List AV)->Bool->Int->Int->Int->Option (List AV):=hull (qdu FU)
theorem qy1:qyg=qdu FU:=qa _
def qls (rec:(List AV)->(List AV)->Bool->Int->Int->Int->Option (List AV)):AC (List AV):=
 .seq (.reg [ao 5 (.box 2),
 ao 6 (.mv (.c .nils))]) (.seq (.reg [ao 7 (.mv (.c .nils))]) (.seq (.seq (.reg [ao 13 (.mv 1),
 ao 14 (.len false 13),
 ao 15 (.mv (.c (.int .i64 0)))]) (.block 0 (.seq (.view [.own 7 8,.sel [0,5,7,13,14,15] [0,1,2]]) (.sub (.loop (scOf (qgv rec))) (qvo rec))))) (.seq (.seq (.reg [ao 33 (.mv 7),
 ao 34 (.len false 33),
 ao 35 (.bin .eql 34 (.c (.int .i64 0)))]) (.cond 35 (.seq (.reg [ao 36 (.mv 0),
 ao 37 (.load true 4 5),
 ao 38 (.bsl 4 [37]),
 ao 39 (.app 4 32 36 38),
 ao 6 (.mv 39)]) (.ret)) (.skip))) (.seq (.reg [ao 41 (.load true 4 5),
 .call (po 42 (.call 155 [41])) 155 qq6.e,
 ao 40 (.mv 42),
 ao 43 (.ext 40 0),
 ao 44 (.ext 40 1),
 ao 45 (.ext 40 2),
 ao 10 (.alloc [(.bool false),(.int .u64 0),(.int .u64 0),(.int .i64 0)]),
 ao 11 (.alloc [(.bool false),(.int .u64 0),(.int .u64 0),(.int .i64 0)]),
 an (.store 4 10 43),
 an (.store 4 11 44),
 ao 12 (.mv 45)]) (.seq (.seq (.reg [ao 46 (.mv 12),
 ao 47 (.un .not 46)]) (.cond 47 (.seq (.reg [ao 48 (.mv 0),
 ao 6 (.mv 48)]) (.ret)) (.skip))) (.seq (.seq (.view [.snap 7]) (.draw4 [(po 49 (.mv 0)),(po 50 (.mv 7)),(po 51 (.load true 4 10))] 52 179 4 49 [50,51] (qey rec) [(po 53 (.mv 7)),(po 54 (.load true 4 11))] [.callr (po 55 (.call 179 [52,53,54])) 179 (qbha 4 (qey rec)),
 ao 6 (.mv 55)])) (.ret)))))))
theorem qbb1 (rec:(List AV)->(List AV)->Bool->Int->Int->Int->Option (List AV))(hrec:qns Tryz.prog 179 4 (qey rec)):AC.ok Tryz.prog (TIof Tryz.prog) 56 1 (qdj [.t 6] (grK 4)) (qls rec):=qbol (zA (q71 rec hrec) (zA (qgn.ok qq6.h) (zA hrec (zA (qbd4 hrec) trivial))))
theorem qbe1 (rec:(List AV)->(List AV)->Bool->Int->Int->Int->Option (List AV))(v1:LA)(Cw:Bool)(Cx Cy Cz:Int)(a0:LA):den 1 (qdj [.t 6] (grK 4)) (qls rec) (qo [(0,(.own 0 a0.length)),(1,(.sl 8 v1)),(2,.agg (qd Cw Cx Cy Cz))]) (qh [(some (.arr true 4 a0))]) (kend (qdj [.t 6] (grK 4)))=qpg rec a0 v1 Cw Cx Cy Cz:=by
 kernel_rfl
theorem qbe2:cFn (TIof Tryz.prog) Tryz.f179=some ⟨56,[.t 6],scOf (qls (fun _ _ _ _ _ _=>none))⟩:=by kernel_rfl
theorem qbe3 (rec:(List AV)->(List AV)->Bool->Int->Int->Int->Option (List AV)):(qls rec).er=some (scOf (qls (fun _ _ _ _ _ _=>none))):=by kernel_rfl
theorem qy2:∀(k:Nat),qns Tryz.prog 179 4 (qey (qdu k))
 |0=>fun xs cl zs h=>by
  unfold qey at h
  obtain⟨h1,h2⟩:=qnt h
  obtain⟨h3,h4⟩:=qj h2
  cases h4
 |k+1=>fun xs cl zs h=>by
  unfold qey at h
  obtain⟨h1,h2⟩:=qnt h
  obtain⟨h3,h4⟩:=qj h2
  exact qba0 tabOk follows Tryz.func179 (by kernel_rfl) qbe2 (qbb1 (qdu k) (qy2 k)) (qbe3 (qdu k)) qq7 (qzq h1 h3) ((qbe1 (qdu k) (gL [(qcm (.own 0 xs.length::cl)) 1] 0) (gB ((qcm (.own 0 xs.length::cl)) 2).cells 0) (gI ((qcm (.own 0 xs.length::cl)) 2).cells 1) (gI ((qcm (.own 0 xs.length::cl)) 2).cells 2) (gI ((qcm (.own 0 xs.length::cl)) 2).cells 3) (arL ((M1 4 xs).s 0))).trans h4)
theorem qbe4:qns Tryz.prog 179 4 (qey qyg):=by
 have h:=qy2 FU
 rw[<-qy1]at h
 exact h
def S49_:Shp:=⟨[(3,.one (.ptr 0 0)),(7,.one (.own 1)),(23,.one (.l (.sl 8))),(24,.one (.l (.i .i64))),(25,.one (.l (.i .i64)))],[.box true (lk qe),.arr true 8]⟩
def qr1 (Av:Bool)(Aw Ax Ay:Int)(K:Ex->Env->Mem->Option (List AV)):=(fun z_a1=>K (.exit 0) (qo [(3,(.ptr 0 0)),(7,(.own 1 z_a1.length))]) (qh [(some (.box true (qd Av Aw Ax Ay))),(some (.arr true 8 z_a1))]))
def qh3 (v23:LA)(v24 v25:Int)(Av:Bool)(Aw Ax Ay:Int)(a1:LA)(next:Int->(List AV)->Option (List AV))(kx0:(List AV)->Option (List AV)):Option (List AV):=
 (bif(decide (v25<v24))then(oB (ixB v23 v25) fun y1=>(bif fitC qc y1.cells then(oB (qo2 (gB y1.cells 0) (gI y1.cells 1) (gI y1.cells 2) (gI y1.cells 3) Av Aw Ax Ay) fun r2=>(bif r2 then(bif hd a1 a1.length then(bif hd ([(.agg [(.bool (gB y1.cells 0)),(.int .u64 (gI y1.cells 1)),(.int .u64 (gI y1.cells 2)),(.int .i64 (gI y1.cells 3)),(.int .i64 (gI y1.cells 4)),(.str (gS y1.cells 5)),(.str (gS y1.cells 6)),(.int .i64 (gI y1.cells 7))])]:List AV) (([(.agg [(.bool (gB y1.cells 0)),(.int .u64 (gI y1.cells 1)),(.int .u64 (gI y1.cells 2)),(.int .i64 (gI y1.cells 3)),(.int .i64 (gI y1.cells 4)),(.str (gS y1.cells 5)),(.str (gS y1.cells 6)),(.int .i64 (gI y1.cells 7))])]:List AV).length)then(bif decide ((a1.length+([(.agg [(.bool (gB y1.cells 0)),(.int .u64 (gI y1.cells 1)),(.int .u64 (gI y1.cells 2)),(.int .i64 (gI y1.cells 3)),(.int .i64 (gI y1.cells 4)),(.str (gS y1.cells 5)),(.str (gS y1.cells 6)),(.int .i64 (gI y1.cells 7))])]:List AV).length)*80<=140737488355328)then(next (IntKind.i64.wrap (v25+1)) (a1++([(.agg [(.bool (gB y1.cells 0)),(.int .u64 (gI y1.cells 1)),(.int .u64 (gI y1.cells 2)),(.int .i64 (gI y1.cells 3)),(.int .i64 (gI y1.cells 4)),(.str (gS y1.cells 5)),(.str (gS y1.cells 6)),(.int .i64 (gI y1.cells 7))])]:List AV)))else none)else none)else none)else(next (IntKind.i64.wrap (v25+1)) a1)))else none))else(kx0 a1))
def qh4 (v23:LA)(v24:Int)(Av:Bool)(Aw Ax Ay:Int)(kx0:(List AV)->Option (List AV)):Nat->Int->(List AV)->Option (List AV)
 |0=>(fun _ _=>none)
 |n+1=>(fun v25 a1=>qh3 v23 v24 v25 Av Aw Ax Ay a1 (qh4 v23 v24 Av Aw Ax Ay kx0 n) kx0)
def qq8:=hull (qh4)
theorem q3t:qq8=qh4:=qa _
def q6q:SubB Tryz.prog (TIof Tryz.prog) 41 0 (kret [.t 4] (decF true 4)):=lpB tabOk follows Tryz.f154 151 (.s .z (.s (.s .z (.v [.sel [3,7] [0,1]])) (.s (.b (.s (.r [(0,.p (.etac 27 qc))] []) (.s (.r [(3,.c qt1.b)] []) .z))) (.v [.sel [3,7,23,24,25] [0,1]])))) S49_ (qh4) (fun f v K n=>f (v.l 92 0) (v.i 96 0) (v.b 3 0) (v.i 3 1) (v.i 3 2) (v.i 3 3) (qr1 (v.b 3 0) (v.i 3 1) (v.i 3 2) (v.i 3 3) K) n) (fun v f K=>qh3 (v.l 92 0) (v.i 96 0) (v.i 100 0) (v.b 3 0) (v.i 3 1) (v.i 3 2) (v.i 3 3) (v.r 1) f (qr1 (v.b 3 0) (v.i 3 1) (v.i 3 2) (v.i 3 3) K)) (fun f v=>f (v.i 100 0) (v.r 1)) (fun k v=>(fun z0 z1=>k ((v.ui 100 0 z0).ur 1 z1)))
def qph (v0:LA)(B7:Bool)(B8 B9 Ca:Int):Option (List AV):=
 (oB (ql2 v0 B7 B8 B9 Ca) fun r1=>(bif((!r1.2)||((gI r1.1.cells 4) != (1:Int)))then(bif hd ([]:List AV) (([]:List AV).length)then(some ([]:List AV))else none)else(bif(hd ([]:List AV) (([]:List AV).length)&&true)then(qq8 v0 (v0.length:Int) B7 B8 B9 Ca (fun a1q2=>(bif hd a1q2 a1q2.length then(oB (bif(hd ([]:List AV) (([]:List AV).length)&&true)then(qyg ([]:List AV) a1q2 B7 B8 B9 Ca)else none) fun r3=>(bif hd r3 r3.length then(some r3)else none))else none)) FU (0:Int) ([]:List AV))else none)))
def qs0:=hull qph
theorem qbb2:qs0=qph:=qa _
def qbe5 {R:Type}:EntF Tryz.prog R:=entB (nt:=41) (dec:=(decF true 4)) (enc:=(AV.fr true 4)) tabOk follows Tryz.func154 [.t 4] hdeF (.s .z (.s (.s (.r [(2,.c qpf.b)] []) (.s (.r [(3,.g 3)] []) (.s (.s .z (.v [.own 4 4])) .z))) (.s .z (.s (.s .z (.b (.sub [.own 7 8,.sel [3,7,23,24,25] [0,2]] q6q []))) (.s (.r [(2,.s (.snap 38)),(2,.r (rB (qbd4 qbe4)))] []) .z))))) S16_ qph (fun f v=>f (v.l 0 0) (v.b 5 0) (v.i 5 1) (v.i 5 2) (v.i 5 3))
def S50_:Shp:=⟨[(0,.one (.l (.i .i64))),(1,.one (.l (.i .i64)))],[]⟩
def qiz (v0 v1:Int):Option Bool:=
 (some (decide (v0<v1)))
def quj:=hull qiz
theorem qz5:quj=qiz:=qa _
def q2d {R:Type}:EntF Tryz.prog R:=entB (nt:=8) (dec:=decB) (enc:=AV.bool) tabOk follows Tryz.func152 [.t 4] hdeB (.z) S50_ qiz (fun f v=>f (v.i 0 0) (v.i 4 0))
def S51_:Shp:=⟨[(1,.one (.l (.i .i64))),(2,.one (.fn 152 [])),(6,.one (.ptr 0 0)),(8,.one (.ptr 1 0)),(9,.one (.l .b)),(11,.one (.ptr 2 0)),(13,.one (.l (.sl 4))),(14,.one (.l (.i .i64))),(15,.one (.l (.i .i64)))],[.box true (lk qe),.box true (lk qe),.box true (lk qe)]⟩
def S52_:Shp:=⟨[(1,.one (.l (.i .i64))),(2,.one (.fn 152 [])),(6,.one (.ptr 0 0)),(8,.one (.ptr 1 0)),(9,.one (.l .b)),(13,.one (.l (.sl 4))),(14,.one (.l (.i .i64))),(15,.one (.l (.i .i64)))],[.box true (lk qe),.box true (lk qe)]⟩
def S53_:Shp:=⟨[(0,.one (.l (.sl 4))),(1,.one (.l (.i .i64))),(2,.one (.fn 152 []))],[]⟩
def qd8:AV->Option (AV×Bool):=decN [(.st [.b,(.i .u64),(.i .u64),(.i .i64)]),(.one .b)] fun z=>((gC (tpL z) 0),aB (gC (tpL z) 1))
def qlt (v1:Int)(v9:Bool)(v13:LA)(v14 v15:Int)(Av:Bool)(Aw Ax Ay:Int)(Ad:Bool)(Ae Af Ag:Int)(Au:Bool)(Bc Bd Be:Int)(K:Ex->Env->Mem->Option (AV×Bool)):=(fun z_v34=>K .norm (qo [(1,(.int .i64 v1)),(2,(.func 152 [])),(6,(.ptr 0 0)),(8,(.ptr 1 0)),(9,(.bool v9)),(11,(.ptr 2 0)),(13,(.sl 4 v13)),(14,(.int .i64 v14)),(15,(.int .i64 v15)),(34,(.bool z_v34))]) (qh [(some (.box true (qd Av Aw Ax Ay))),(some (.box true (qd Ad Ae Af Ag))),(some (.box true (qd Au Bc Bd Be)))]))
def qcq (v1:Int)(v9:Bool)(v13:LA)(v14 v15:Int)(Av:Bool)(Aw Ax Ay:Int)(Ad:Bool)(Ae Af Ag:Int)(Au:Bool)(Bc Bd Be:Int)(kn:Bool->Option (AV×Bool)):Option (AV×Bool):=
 (bif(decide (Be<=v1))then(bif(!v9)then(kn true)else(oB (quj Be Ag) fun r1=>(kn r1)))else(kn false))
def qg8:=hull (qcq)
theorem qlu:qg8=qcq:=qa _
def qmc:SubB Tryz.prog (TIof Tryz.prog) 39 0 (kret [(.cell 6 true 4),.t 7] qd8):=jnB tabOk follows Tryz.f153 5323 (.r [(13,.c q2d.b)] [.sel [1,2,6,8,9,11,13,14,15,34] [0,1,2]]) S51_ (qcq) (fun f v K=>f (v.i 4 0) (v.b 36 0) (v.l 52 0) (v.i 56 0) (v.i 60 0) (v.b 3 0) (v.i 3 1) (v.i 3 2) (v.i 3 3) (v.b 7 0) (v.i 7 1) (v.i 7 2) (v.i 7 3) (v.b 11 0) (v.i 11 1) (v.i 11 2) (v.i 11 3) (qlt (v.i 4 0) (v.b 36 0) (v.l 52 0) (v.i 56 0) (v.i 60 0) (v.b 3 0) (v.i 3 1) (v.i 3 2) (v.i 3 3) (v.b 7 0) (v.i 7 1) (v.i 7 2) (v.i 7 3) (v.b 11 0) (v.i 11 1) (v.i 11 2) (v.i 11 3) K))
def qfy (Av:Bool)(Aw Ax Ay:Int)(K:Ex->Env->Mem->Option (AV×Bool)):=(fun z_v9 z_b1_0 z_b1_1 z_b1_2 z_b1_3=>K (.exit 0) (qo [(6,(.ptr 0 0)),(8,(.ptr 1 0)),(9,(.bool z_v9))]) (qh [(some (.box true (qd Av Aw Ax Ay))),(some (.box true (qd z_b1_0 z_b1_1 z_b1_2 z_b1_3)))]))
def qb6 (v1:Int)(v9:Bool)(v13:LA)(v14 v15:Int)(Av:Bool)(Aw Ax Ay:Int)(Ad:Bool)(Ae Af Ag:Int)(next:Bool->Int->Bool->Int->Int->Int->Option (AV×Bool))(kx0:Bool->Bool->Int->Int->Int->Option (AV×Bool)):Option (AV×Bool):=
 (bif(decide (v15<v14))then(oB (ixB v13 v15) fun y1=>(bif fitC qe y1.cells then(qg8 v1 v9 v13 v14 v15 Av Aw Ax Ay Ad Ae Af Ag (gB y1.cells 0) (gI y1.cells 1) (gI y1.cells 2) (gI y1.cells 3) (fun v34q2=>(bif v34q2 then(next true (IntKind.i64.wrap (v15+1)) (gB y1.cells 0) (gI y1.cells 1) (gI y1.cells 2) (gI y1.cells 3))else(next v9 (IntKind.i64.wrap (v15+1)) Ad Ae Af Ag))))else none))else(kx0 v9 Ad Ae Af Ag))
def qb7 (v1:Int)(v13:LA)(v14:Int)(Av:Bool)(Aw Ax Ay:Int)(kx0:Bool->Bool->Int->Int->Int->Option (AV×Bool)):Nat->Bool->Int->Bool->Int->Int->Int->Option (AV×Bool)
 |0=>(fun _ _ _ _ _ _=>none)
 |n+1=>(fun v9 v15 Ad Ae Af Ag=>qb6 v1 v9 v13 v14 v15 Av Aw Ax Ay Ad Ae Af Ag (qb7 v1 v13 v14 Av Aw Ax Ay kx0 n) kx0)
def qhr:=hull (qb7)
theorem qmd:qhr=qb7:=qa _
def qnc:SubB Tryz.prog (TIof Tryz.prog) 39 0 (kret [(.cell 6 true 4),.t 7] qd8):=lpB tabOk follows Tryz.f153 75 (.s .z (.s (.s .z (.v [.sel [6,8,9] [0,1]])) (.s (.b (.s (.r [(0,.p (.etac 17 qe))] []) (.s (.sub [.sel [1,2,6,8,9,11,13,14,15] [0,1,2]] qmc []) .z))) (.v [.sel [1,2,6,8,9,13,14,15] [0,1]])))) S52_ (qb7) (fun f v K n=>f (v.i 4 0) (v.l 52 0) (v.i 56 0) (v.b 3 0) (v.i 3 1) (v.i 3 2) (v.i 3 3) (qfy (v.b 3 0) (v.i 3 1) (v.i 3 2) (v.i 3 3) K) n) (fun v f K=>qb6 (v.i 4 0) (v.b 36 0) (v.l 52 0) (v.i 56 0) (v.i 60 0) (v.b 3 0) (v.i 3 1) (v.i 3 2) (v.i 3 3) (v.b 7 0) (v.i 7 1) (v.i 7 2) (v.i 7 3) f (qfy (v.b 3 0) (v.i 3 1) (v.i 3 2) (v.i 3 3) K)) (fun f v=>f (v.b 36 0) (v.i 60 0) (v.b 7 0) (v.i 7 1) (v.i 7 2) (v.i 7 3)) (fun k v=>(fun z0 z1 z2 z3 z4 z5=>k ((((((v.ub 36 0 z0).ui 60 0 z1).ub 7 0 z2).ui 7 1 z3).ui 7 2 z4).ui 7 3 z5)))
def qdf (v0:LA)(v1:Int):Option (AV×Bool):=
 (qhr v1 v0 (v0.length:Int) false (0:Int) (0:Int) (0:Int) (fun v9q1 b1_0q2 b1_1q3 b1_2q4 b1_3q5=>(some ((.agg [(.bool b1_0q2),(.int .u64 b1_1q3),(.int .u64 b1_2q4),(.int .i64 b1_3q5)]),v9q1))) FU false (0:Int) false (0:Int) (0:Int) (0:Int))
def qe1:=hull qdf
theorem qn8:qe1=qdf:=qa _
def qh5 {R:Type}:EntF Tryz.prog R:=entB (nt:=39) (dec:=qd8) (enc:=(fun r=>.tup [qem (.st [.b,(.i .u64),(.i .u64),(.i .i64)]) r.1,.bool r.2])) tabOk follows Tryz.func153 [(.cell 6 true 4),.t 7] (hdeN fun _=>rfl) (.s .z (.s .z (.s (.s .z (.b (.sub [.sel [1,2,6,8,9,13,14,15] [0,1]] qnc []))) .z))) S53_ qdf (fun f v=>f (v.l 0 0) (v.i 4 0))
def qi0 (v0 v1:Int):Option Bool:=
 (some (decide (v0>v1)))
def quk:=hull qi0
theorem qz6:quk=qi0:=qa _
def q2e {R:Type}:EntF Tryz.prog R:=entB (nt:=8) (dec:=decB) (enc:=AV.bool) tabOk follows Tryz.func151 [.t 4] hdeB (.z) S50_ qi0 (fun f v=>f (v.i 0 0) (v.i 4 0))
def S54_:Shp:=⟨[(1,.one (.l (.i .i64))),(2,.one (.fn 151 [])),(6,.one (.ptr 0 0)),(8,.one (.ptr 1 0)),(9,.one (.l .b)),(11,.one (.ptr 2 0)),(13,.one (.l (.sl 4))),(14,.one (.l (.i .i64))),(15,.one (.l (.i .i64)))],[.box true (lk qe),.box true (lk qe),.box true (lk qe)]⟩
def S55_:Shp:=⟨[(1,.one (.l (.i .i64))),(2,.one (.fn 151 [])),(6,.one (.ptr 0 0)),(8,.one (.ptr 1 0)),(9,.one (.l .b)),(13,.one (.l (.sl 4))),(14,.one (.l (.i .i64))),(15,.one (.l (.i .i64)))],[.box true (lk qe),.box true (lk qe)]⟩
def S56_:Shp:=⟨[(0,.one (.l (.sl 4))),(1,.one (.l (.i .i64))),(2,.one (.fn 151 []))],[]⟩
def qd9:AV->Option (AV×Bool):=decN [(.st [.b,(.i .u64),(.i .u64),(.i .i64)]),(.one .b)] fun z=>((gC (tpL z) 0),aB (gC (tpL z) 1))
def qlv (v1:Int)(v9:Bool)(v13:LA)(v14 v15:Int)(Av:Bool)(Aw Ax Ay:Int)(Ad:Bool)(Ae Af Ag:Int)(Au:Bool)(Bc Bd Be:Int)(K:Ex->Env->Mem->Option (AV×Bool)):=(fun z_v34=>K .norm (qo [(1,(.int .i64 v1)),(2,(.func 151 [])),(6,(.ptr 0 0)),(8,(.ptr 1 0)),(9,(.bool v9)),(11,(.ptr 2 0)),(13,(.sl 4 v13)),(14,(.int .i64 v14)),(15,(.int .i64 v15)),(34,(.bool z_v34))]) (qh [(some (.box true (qd Av Aw Ax Ay))),(some (.box true (qd Ad Ae Af Ag))),(some (.box true (qd Au Bc Bd Be)))]))
def qcr (v1:Int)(v9:Bool)(v13:LA)(v14 v15:Int)(Av:Bool)(Aw Ax Ay:Int)(Ad:Bool)(Ae Af Ag:Int)(Au:Bool)(Bc Bd Be:Int)(kn:Bool->Option (AV×Bool)):Option (AV×Bool):=
 (bif(decide (Be<=v1))then(bif(!v9)then(kn true)else(oB (quk Be Ag) fun r1=>(kn r1)))else(kn false))
def qg9:=hull (qcr)
theorem qlw:qg9=qcr:=qa _
def qme:SubB Tryz.prog (TIof Tryz.prog) 39 0 (kret [(.cell 6 true 4),.t 7] qd9):=jnB tabOk follows Tryz.f153 5323 (.r [(13,.c q2e.b)] [.sel [1,2,6,8,9,11,13,14,15,34] [0,1,2]]) S54_ (qcr) (fun f v K=>f (v.i 4 0) (v.b 36 0) (v.l 52 0) (v.i 56 0) (v.i 60 0) (v.b 3 0) (v.i 3 1) (v.i 3 2) (v.i 3 3) (v.b 7 0) (v.i 7 1) (v.i 7 2) (v.i 7 3) (v.b 11 0) (v.i 11 1) (v.i 11 2) (v.i 11 3) (qlv (v.i 4 0) (v.b 36 0) (v.l 52 0) (v.i 56 0) (v.i 60 0) (v.b 3 0) (v.i 3 1) (v.i 3 2) (v.i 3 3) (v.b 7 0) (v.i 7 1) (v.i 7 2) (v.i 7 3) (v.b 11 0) (v.i 11 1) (v.i 11 2) (v.i 11 3) K))
def qfz (Av:Bool)(Aw Ax Ay:Int)(K:Ex->Env->Mem->Option (AV×Bool)):=(fun z_v9 z_b1_0 z_b1_1 z_b1_2 z_b1_3=>K (.exit 0) (qo [(6,(.ptr 0 0)),(8,(.ptr 1 0)),(9,(.bool z_v9))]) (qh [(some (.box true (qd Av Aw Ax Ay))),(some (.box true (qd z_b1_0 z_b1_1 z_b1_2 z_b1_3)))]))
def qb8 (v1:Int)(v9:Bool)(v13:LA)(v14 v15:Int)(Av:Bool)(Aw Ax Ay:Int)(Ad:Bool)(Ae Af Ag:Int)(next:Bool->Int->Bool->Int->Int->Int->Option (AV×Bool))(kx0:Bool->Bool->Int->Int->Int->Option (AV×Bool)):Option (AV×Bool):=
 (bif(decide (v15<v14))then(oB (ixB v13 v15) fun y1=>(bif fitC qe y1.cells then(qg9 v1 v9 v13 v14 v15 Av Aw Ax Ay Ad Ae Af Ag (gB y1.cells 0) (gI y1.cells 1) (gI y1.cells 2) (gI y1.cells 3) (fun v34q2=>(bif v34q2 then(next true (IntKind.i64.wrap (v15+1)) (gB y1.cells 0) (gI y1.cells 1) (gI y1.cells 2) (gI y1.cells 3))else(next v9 (IntKind.i64.wrap (v15+1)) Ad Ae Af Ag))))else none))else(kx0 v9 Ad Ae Af Ag))
def qb9 (v1:Int)(v13:LA)(v14:Int)(Av:Bool)(Aw Ax Ay:Int)(kx0:Bool->Bool->Int->Int->Int->Option (AV×Bool)):Nat->Bool->Int->Bool->Int->Int->Int->Option (AV×Bool)
 |0=>(fun _ _ _ _ _ _=>none)
 |n+1=>(fun v9 v15 Ad Ae Af Ag=>qb8 v1 v9 v13 v14 v15 Av Aw Ax Ay Ad Ae Af Ag (qb9 v1 v13 v14 Av Aw Ax Ay kx0 n) kx0)
def qhs:=hull (qb9)
theorem qmf:qhs=qb9:=qa _
def qnd:SubB Tryz.prog (TIof Tryz.prog) 39 0 (kret [(.cell 6 true 4),.t 7] qd9):=lpB tabOk follows Tryz.f153 75 (.s .z (.s (.s .z (.v [.sel [6,8,9] [0,1]])) (.s (.b (.s (.r [(0,.p (.etac 17 qe))] []) (.s (.sub [.sel [1,2,6,8,9,11,13,14,15] [0,1,2]] qme []) .z))) (.v [.sel [1,2,6,8,9,13,14,15] [0,1]])))) S55_ (qb9) (fun f v K n=>f (v.i 4 0) (v.l 52 0) (v.i 56 0) (v.b 3 0) (v.i 3 1) (v.i 3 2) (v.i 3 3) (qfz (v.b 3 0) (v.i 3 1) (v.i 3 2) (v.i 3 3) K) n) (fun v f K=>qb8 (v.i 4 0) (v.b 36 0) (v.l 52 0) (v.i 56 0) (v.i 60 0) (v.b 3 0) (v.i 3 1) (v.i 3 2) (v.i 3 3) (v.b 7 0) (v.i 7 1) (v.i 7 2) (v.i 7 3) f (qfz (v.b 3 0) (v.i 3 1) (v.i 3 2) (v.i 3 3) K)) (fun f v=>f (v.b 36 0) (v.i 60 0) (v.b 7 0) (v.i 7 1) (v.i 7 2) (v.i 7 3)) (fun k v=>(fun z0 z1 z2 z3 z4 z5=>k ((((((v.ub 36 0 z0).ui 60 0 z1).ub 7 0 z2).ui 7 1 z3).ui 7 2 z4).ui 7 3 z5)))
def qdg (v0:LA)(v1:Int):Option (AV×Bool):=
 (qhs v1 v0 (v0.length:Int) false (0:Int) (0:Int) (0:Int) (fun v9q1 b1_0q2 b1_1q3 b1_2q4 b1_3q5=>(some ((.agg [(.bool b1_0q2),(.int .u64 b1_1q3),(.int .u64 b1_2q4),(.int .i64 b1_3q5)]),v9q1))) FU false (0:Int) false (0:Int) (0:Int) (0:Int))
def qe2:=hull qdg
theorem qn9:qe2=qdg:=qa _
def qh6 {R:Type}:EntF Tryz.prog R:=entB (nt:=39) (dec:=qd9) (enc:=(fun r=>.tup [qem (.st [.b,(.i .u64),(.i .u64),(.i .i64)]) r.1,.bool r.2])) tabOk follows Tryz.func153 [(.cell 6 true 4),.t 7] (hdeN fun _=>rfl) (.s .z (.s .z (.s (.s .z (.b (.sub [.sel [1,2,6,8,9,13,14,15] [0,1]] qnd []))) .z))) S56_ qdg (fun f v=>f (v.l 0 0) (v.i 4 0))
def qi1 (v0 v1:Int):Option Bool:=
 (some false)
def qul:=hull qi1
theorem qz7:qul=qi1:=qa _
def q2f {R:Type}:EntF Tryz.prog R:=entB (nt:=5) (dec:=decB) (enc:=AV.bool) tabOk follows Tryz.func150 [.t 4] hdeB (.z) S50_ qi1 (fun f v=>f (v.i 0 0) (v.i 4 0))
def S57_:Shp:=⟨[(1,.one (.l (.i .i64))),(2,.one (.fn 150 [])),(6,.one (.ptr 0 0)),(8,.one (.ptr 1 0)),(9,.one (.l .b)),(11,.one (.ptr 2 0)),(13,.one (.l (.sl 4))),(14,.one (.l (.i .i64))),(15,.one (.l (.i .i64)))],[.box true (lk qe),.box true (lk qe),.box true (lk qe)]⟩
def S58_:Shp:=⟨[(1,.one (.l (.i .i64))),(2,.one (.fn 150 [])),(6,.one (.ptr 0 0)),(8,.one (.ptr 1 0)),(9,.one (.l .b)),(13,.one (.l (.sl 4))),(14,.one (.l (.i .i64))),(15,.one (.l (.i .i64)))],[.box true (lk qe),.box true (lk qe)]⟩
def S59_:Shp:=⟨[(0,.one (.l (.sl 4))),(1,.one (.l (.i .i64))),(2,.one (.fn 150 []))],[]⟩
def qea:AV->Option (AV×Bool):=decN [(.st [.b,(.i .u64),(.i .u64),(.i .i64)]),(.one .b)] fun z=>((gC (tpL z) 0),aB (gC (tpL z) 1))
def qlx (v1:Int)(v9:Bool)(v13:LA)(v14 v15:Int)(Av:Bool)(Aw Ax Ay:Int)(Ad:Bool)(Ae Af Ag:Int)(Au:Bool)(Bc Bd Be:Int)(K:Ex->Env->Mem->Option (AV×Bool)):=(fun z_v34=>K .norm (qo [(1,(.int .i64 v1)),(2,(.func 150 [])),(6,(.ptr 0 0)),(8,(.ptr 1 0)),(9,(.bool v9)),(11,(.ptr 2 0)),(13,(.sl 4 v13)),(14,(.int .i64 v14)),(15,(.int .i64 v15)),(34,(.bool z_v34))]) (qh [(some (.box true (qd Av Aw Ax Ay))),(some (.box true (qd Ad Ae Af Ag))),(some (.box true (qd Au Bc Bd Be)))]))
def qcs (v1:Int)(v9:Bool)(v13:LA)(v14 v15:Int)(Av:Bool)(Aw Ax Ay:Int)(Ad:Bool)(Ae Af Ag:Int)(Au:Bool)(Bc Bd Be:Int)(kn:Bool->Option (AV×Bool)):Option (AV×Bool):=
 (bif(decide (Be<=v1))then(bif(!v9)then(kn true)else(oB (qul Be Ag) fun r1=>(kn r1)))else(kn false))
def qha:=hull (qcs)
theorem qly:qha=qcs:=qa _
def qmg:SubB Tryz.prog (TIof Tryz.prog) 39 0 (kret [(.cell 6 true 4),.t 7] qea):=jnB tabOk follows Tryz.f153 5323 (.r [(13,.c q2f.b)] [.sel [1,2,6,8,9,11,13,14,15,34] [0,1,2]]) S57_ (qcs) (fun f v K=>f (v.i 4 0) (v.b 36 0) (v.l 52 0) (v.i 56 0) (v.i 60 0) (v.b 3 0) (v.i 3 1) (v.i 3 2) (v.i 3 3) (v.b 7 0) (v.i 7 1) (v.i 7 2) (v.i 7 3) (v.b 11 0) (v.i 11 1) (v.i 11 2) (v.i 11 3) (qlx (v.i 4 0) (v.b 36 0) (v.l 52 0) (v.i 56 0) (v.i 60 0) (v.b 3 0) (v.i 3 1) (v.i 3 2) (v.i 3 3) (v.b 7 0) (v.i 7 1) (v.i 7 2) (v.i 7 3) (v.b 11 0) (v.i 11 1) (v.i 11 2) (v.i 11 3) K))
def qf0 (Av:Bool)(Aw Ax Ay:Int)(K:Ex->Env->Mem->Option (AV×Bool)):=(fun z_v9 z_b1_0 z_b1_1 z_b1_2 z_b1_3=>K (.exit 0) (qo [(6,(.ptr 0 0)),(8,(.ptr 1 0)),(9,(.bool z_v9))]) (qh [(some (.box true (qd Av Aw Ax Ay))),(some (.box true (qd z_b1_0 z_b1_1 z_b1_2 z_b1_3)))]))
def qca (v1:Int)(v9:Bool)(v13:LA)(v14 v15:Int)(Av:Bool)(Aw Ax Ay:Int)(Ad:Bool)(Ae Af Ag:Int)(next:Bool->Int->Bool->Int->Int->Int->Option (AV×Bool))(kx0:Bool->Bool->Int->Int->Int->Option (AV×Bool)):Option (AV×Bool):=
 (bif(decide (v15<v14))then(oB (ixB v13 v15) fun y1=>(bif fitC qe y1.cells then(qha v1 v9 v13 v14 v15 Av Aw Ax Ay Ad Ae Af Ag (gB y1.cells 0) (gI y1.cells 1) (gI y1.cells 2) (gI y1.cells 3) (fun v34q2=>(bif v34q2 then(next true (IntKind.i64.wrap (v15+1)) (gB y1.cells 0) (gI y1.cells 1) (gI y1.cells 2) (gI y1.cells 3))else(next v9 (IntKind.i64.wrap (v15+1)) Ad Ae Af Ag))))else none))else(kx0 v9 Ad Ae Af Ag))
def qcb (v1:Int)(v13:LA)(v14:Int)(Av:Bool)(Aw Ax Ay:Int)(kx0:Bool->Bool->Int->Int->Int->Option (AV×Bool)):Nat->Bool->Int->Bool->Int->Int->Int->Option (AV×Bool)
 |0=>(fun _ _ _ _ _ _=>none)
 |n+1=>(fun v9 v15 Ad Ae Af Ag=>qca v1 v9 v13 v14 v15 Av Aw Ax Ay Ad Ae Af Ag (qcb v1 v13 v14 Av Aw Ax Ay kx0 n) kx0)
def qht:=hull (qcb)
theorem qmh:qht=qcb:=qa _
def qne:SubB Tryz.prog (TIof Tryz.prog) 39 0 (kret [(.cell 6 true 4),.t 7] qea):=lpB tabOk follows Tryz.f153 75 (.s .z (.s (.s .z (.v [.sel [6,8,9] [0,1]])) (.s (.b (.s (.r [(0,.p (.etac 17 qe))] []) (.s (.sub [.sel [1,2,6,8,9,11,13,14,15] [0,1,2]] qmg []) .z))) (.v [.sel [1,2,6,8,9,13,14,15] [0,1]])))) S58_ (qcb) (fun f v K n=>f (v.i 4 0) (v.l 52 0) (v.i 56 0) (v.b 3 0) (v.i 3 1) (v.i 3 2) (v.i 3 3) (qf0 (v.b 3 0) (v.i 3 1) (v.i 3 2) (v.i 3 3) K) n) (fun v f K=>qca (v.i 4 0) (v.b 36 0) (v.l 52 0) (v.i 56 0) (v.i 60 0) (v.b 3 0) (v.i 3 1) (v.i 3 2) (v.i 3 3) (v.b 7 0) (v.i 7 1) (v.i 7 2) (v.i 7 3) f (qf0 (v.b 3 0) (v.i 3 1) (v.i 3 2) (v.i 3 3) K)) (fun f v=>f (v.b 36 0) (v.i 60 0) (v.b 7 0) (v.i 7 1) (v.i 7 2) (v.i 7 3)) (fun k v=>(fun z0 z1 z2 z3 z4 z5=>k ((((((v.ub 36 0 z0).ui 60 0 z1).ub 7 0 z2).ui 7 1 z3).ui 7 2 z4).ui 7 3 z5)))
def qdh (v0:LA)(v1:Int):Option (AV×Bool):=
 (qht v1 v0 (v0.length:Int) false (0:Int) (0:Int) (0:Int) (fun v9q1 b1_0q2 b1_1q3 b1_2q4 b1_3q5=>(some ((.agg [(.bool b1_0q2),(.int .u64 b1_1q3),(.int .u64 b1_2q4),(.int .i64 b1_3q5)]),v9q1))) FU false (0:Int) false (0:Int) (0:Int) (0:Int))
def qe3:=hull qdh
theorem qoa:qe3=qdh:=qa _
def qh7 {R:Type}:EntF Tryz.prog R:=entB (nt:=39) (dec:=qea) (enc:=(fun r=>.tup [qem (.st [.b,(.i .u64),(.i .u64),(.i .i64)]) r.1,.bool r.2])) tabOk follows Tryz.func153 [(.cell 6 true 4),.t 7] (hdeN fun _=>rfl) (.s .z (.s .z (.s (.s .z (.b (.sub [.sel [1,2,6,8,9,13,14,15] [0,1]] qne []))) .z))) S59_ qdh (fun f v=>f (v.l 0 0) (v.i 4 0))
def qw2 {R:Type}:List AV->(AV->Option R)->Option R:=(fun xs K=>bif fnAt xs 2 152 then qh5.e xs K else(fun xs K=>bif fnAt xs 2 151 then qh6.e xs K else qh7.e xs K) xs K)
theorem qy3 {R:Type}:qgn Tryz.prog 153 (qw2 (R:=R)):=(qbi6 (fun xs=>fnAt xs 2 152) qh5.h (qbi6 (fun xs=>fnAt xs 2 151) qh6.h qh7.h))
def S60_:Shp:=⟨[(0,.one (.l (.sl 8))),(1,.st (lk qe)),(2,.one (.l (.i .i64))),(3,.one (.l (.i .i64)))],[]⟩
def q2g:AV->Option (AV×Int):=decN [(.st [.b,(.i .u64),(.i .u64),(.i .i64)]),(.one (.i .i64))] fun z=>((gC (tpL z) 0),aI (gC (tpL z) 1))
def qkd (v0:LA)(B7:Bool)(B8 B9 Ca v2 v3:Int):Option (AV×Int):=
 (oB (ql2 v0 B7 B8 B9 Ca) fun r1=>(bif(!r1.2)then(some ((.agg [(.bool false),(.int .u64 (0:Int)),(.int .u64 (0:Int)),(.int .i64 (0:Int))]),(11:Int)))else(bif((gI r1.1.cells 4) != (1:Int))then(some ((.agg [(.bool false),(.int .u64 (0:Int)),(.int .u64 (0:Int)),(.int .i64 (0:Int))]),(21:Int)))else(bif(decide (v2<Ca))then(some ((.agg [(.bool false),(.int .u64 (0:Int)),(.int .u64 (0:Int)),(.int .i64 (0:Int))]),(1:Int)))else(oB (qq5 B7 B8 B9 Ca) fun r2=>(bif(((decide (v2>r2))||(decide (v3<1)))||(decide (v3>3)))then(some ((.agg [(.bool false),(.int .u64 (0:Int)),(.int .u64 (0:Int)),(.int .i64 (0:Int))]),(1:Int)))else(oB (qs0 v0 B7 B8 B9 Ca) fun r6=>(bif((v3==1)&&true)then(oB (qe3 r6 v2) fun r9=>(bif(!r9.2)then(some ((.agg [(.bool false),(.int .u64 (0:Int)),(.int .u64 (0:Int)),(.int .i64 (0:Int))]),(22:Int)))else(bif((v3==3)&&(decide ((gI r9.1.cells 3)<v2)))then(oB (qhz (gB r9.1.cells 0) (gI r9.1.cells 1) (gI r9.1.cells 2) (gI r9.1.cells 3)) fun r16=>(oB (qdx (gB r16.2.1.cells 0) (gI r16.2.1.cells 1) (gI r16.2.1.cells 2) (gI r16.2.1.cells 3) v2 (0:Int)) fun r17=>(some ((.agg [(.bool (gB r17.1.cells 0)),(.int .u64 (gI r17.1.cells 1)),(.int .u64 (gI r17.1.cells 2)),(.int .i64 (gI r17.1.cells 3))]),(0:Int)))))else(oB (qdx (gB r9.1.cells 0) (gI r9.1.cells 1) (gI r9.1.cells 2) (gI r9.1.cells 3) v2 (0:Int)) fun r18=>(some ((.agg [(.bool (gB r18.1.cells 0)),(.int .u64 (gI r18.1.cells 1)),(.int .u64 (gI r18.1.cells 2)),(.int .i64 (gI r18.1.cells 3))]),(0:Int)))))))else(bif((v3==2)&&true)then(oB (qe2 r6 v2) fun r8=>(bif(!r8.2)then(some ((.agg [(.bool false),(.int .u64 (0:Int)),(.int .u64 (0:Int)),(.int .i64 (0:Int))]),(22:Int)))else(bif((v3==3)&&(decide ((gI r8.1.cells 3)<v2)))then(oB (qhz (gB r8.1.cells 0) (gI r8.1.cells 1) (gI r8.1.cells 2) (gI r8.1.cells 3)) fun r13=>(oB (qdx (gB r13.2.1.cells 0) (gI r13.2.1.cells 1) (gI r13.2.1.cells 2) (gI r13.2.1.cells 3) v2 (0:Int)) fun r14=>(some ((.agg [(.bool (gB r14.1.cells 0)),(.int .u64 (gI r14.1.cells 1)),(.int .u64 (gI r14.1.cells 2)),(.int .i64 (gI r14.1.cells 3))]),(0:Int)))))else(oB (qdx (gB r8.1.cells 0) (gI r8.1.cells 1) (gI r8.1.cells 2) (gI r8.1.cells 3) v2 (0:Int)) fun r15=>(some ((.agg [(.bool (gB r15.1.cells 0)),(.int .u64 (gI r15.1.cells 1)),(.int .u64 (gI r15.1.cells 2)),(.int .i64 (gI r15.1.cells 3))]),(0:Int)))))))else(bif((v3==3)&&true)then(oB (qe1 r6 v2) fun r7=>(bif(!r7.2)then(some ((.agg [(.bool false),(.int .u64 (0:Int)),(.int .u64 (0:Int)),(.int .i64 (0:Int))]),(22:Int)))else(bif((v3==3)&&(decide ((gI r7.1.cells 3)<v2)))then(oB (qhz (gB r7.1.cells 0) (gI r7.1.cells 1) (gI r7.1.cells 2) (gI r7.1.cells 3)) fun r10=>(oB (qdx (gB r10.2.1.cells 0) (gI r10.2.1.cells 1) (gI r10.2.1.cells 2) (gI r10.2.1.cells 3) v2 (0:Int)) fun r11=>(some ((.agg [(.bool (gB r11.1.cells 0)),(.int .u64 (gI r11.1.cells 1)),(.int .u64 (gI r11.1.cells 2)),(.int .i64 (gI r11.1.cells 3))]),(0:Int)))))else(oB (qdx (gB r7.1.cells 0) (gI r7.1.cells 1) (gI r7.1.cells 2) (gI r7.1.cells 3) v2 (0:Int)) fun r12=>(some ((.agg [(.bool (gB r12.1.cells 0)),(.int .u64 (gI r12.1.cells 1)),(.int .u64 (gI r12.1.cells 2)),(.int .i64 (gI r12.1.cells 3))]),(0:Int)))))))else none))))))))))
def qq9:=hull qkd
theorem q3u:qq9=qkd:=qa _
def q6r {R:Type}:EntF Tryz.prog R:=entB (nt:=86) (dec:=q2g) (enc:=(fun r=>.tup [qem (.st [.b,(.i .u64),(.i .u64),(.i .i64)]) r.1,.int .i64 r.2])) tabOk follows Tryz.func98 [(.cell 8 true 4),.t 9] (hdeN fun _=>rfl) (.s .z (.s (.r [(2,.c qpf.b)] []) (.s (.b (.s .z (.s .z (.s .z (.s .z (.s (.r [(7,.c q6j.b),(11,.g 2),(15,.g 2)] []) .z)))))) (.s .z (.s (.d [] [(2,.c qbe5.b),(7,.c (eB qy3))] [] []) (.s .z (.s (.s (.r [(3,.g 4)] []) (.s (.r [(1,.c qq6.b)] []) .z)) (.s (.r [(2,.c qt6.b)] []) .z)))))))) S60_ qkd (fun f v=>f (v.l 0 0) (v.b 5 0) (v.i 5 1) (v.i 5 2) (v.i 5 3) (v.i 8 0) (v.i 12 0))
def S61_:Shp:=⟨[(0,.one (.l (.sl 8))),(1,.st (lk qe)),(2,.one (.l (.i .i64))),(3,.one (.l (.i .i64))),(4,.one (.l .s)),(5,.one (.l .s))],[]⟩
def qy4:AV->Option ((List AV)×AV×Int):=decN [(.one (.sl 8)),(.st [.b,(.i .u64),(.i .u64),(.i .i64)]),(.one (.i .i64))] fun z=>(aL (gC (tpL z) 0),(gC (tpL z) 1),aI (gC (tpL z) 2))
def qi2 (v0:LA)(B7:Bool)(B8 B9 Ca v2 v3:Int)(v4 v5:LU):Option ((List AV)×AV×Int):=
 (oB (qq9 v0 B7 B8 B9 Ca v2 v3) fun r1=>(bif(r1.2 != (0:Int))then(some (([]:List AV),(.agg [(.bool false),(.int .u64 (0:Int)),(.int .u64 (0:Int)),(.int .i64 (0:Int))]),r1.2))else(oB (quu v0 (gB r1.1.cells 0) (gI r1.1.cells 1) (gI r1.1.cells 2) (gI r1.1.cells 3) (2:Int) v4 v5 (0:Int)) fun r2=>(bif(r2.2 != (0:Int))then(some (([]:List AV),(.agg [(.bool false),(.int .u64 (0:Int)),(.int .u64 (0:Int)),(.int .i64 (0:Int))]),r2.2))else(some (r2.1,(.agg [(.bool (gB r1.1.cells 0)),(.int .u64 (gI r1.1.cells 1)),(.int .u64 (gI r1.1.cells 2)),(.int .i64 (gI r1.1.cells 3))]),(0:Int)))))))
def qke:=hull qi2
theorem qz8:qke=qi2:=qa _
def qr2 {R:Type}:EntF Tryz.prog R:=entB (nt:=45) (dec:=qy4) (enc:=(fun r=>.tup [.sl 8 r.1,qem (.st [.b,(.i .u64),(.i .u64),(.i .i64)]) r.2.1,.int .i64 r.2.2])) tabOk follows Tryz.func42 [.t 12,(.cell 13 true 4),.t 14] (hdeN fun _=>rfl) (.s .z (.s (.r [(4,.c q6r.b)] []) (.s (.s .z (.s (.s .z (.v [.eta 12 (.one (.sl 8))])) .z)) (.s (.r [(5,.k q3j.b)] []) (.s (.s .z (.s (.s .z (.v [.eta 12 (.one (.sl 8))])) .z)) .z))))) S61_ qi2 (fun f v=>f (v.l 0 0) (v.b 5 0) (v.i 5 1) (v.i 5 2) (v.i 5 3) (v.i 8 0) (v.i 12 0) (v.s 16 0) (v.s 20 0))
def S62_:Shp:=⟨[(0,.one (.l .s)),(1,.one (.l .s))],[]⟩
def qf9 (v0 v1:LU):Option Bool:=
 (bif(decide ((v0.length:Int)>=(v1.length:Int)))then(oB (cutI v0 (some (IntKind.i64.wrap ((v0.length:Int)-(v1.length:Int)))) none) fun s1=>(some (s1==v1)))else(some false))
def qp8:=hull qf9
theorem qvp:qp8=qf9:=qa _
def qw3 {R:Type}:EntF Tryz.prog R:=entB (nt:=21) (dec:=decB) (enc:=AV.bool) tabOk follows Tryz.func168 [.t 4] hdeB (.z) S62_ qf9 (fun f v=>f (v.s 0 0) (v.s 4 0))
def qi3 (v0 v1:LU):Option Bool:=
 (oB (qp8 v0 v1) fun r1=>(some r1))
def qkf:=hull qi3
theorem qz9:qkf=qi3:=qa _
def qr3 {R:Type}:EntF Tryz.prog R:=entB (nt:=8) (dec:=decB) (enc:=AV.bool) tabOk follows Tryz.func113 [.t 4] hdeB (.s .z (.s (.r [(2,.c qw3.b)] []) .z)) S62_ qi3 (fun f v=>f (v.s 0 0) (v.s 4 0))
theorem qbft {R:Type}:qii Tryz.prog 195 (qsr (R:=R)):=qbih Tryz.func195 (by kernel_rfl) (by kernel_rfl) (by kernel_rfl) (by kernel_rfl)
theorem qbfu {R:Type}:qii Tryz.prog 203 (qss (R:=R)):=qbii Tryz.func203 (by kernel_rfl) (by kernel_rfl) (by kernel_rfl) (by kernel_rfl)
def S63_:Shp:=⟨[(0,.one (.l .s)),(1,.one (.l (.i .u8)))],[]⟩
def qga (v0:LU)(v1:Int):Option Int:=
 (oB (qu3 v0 v1) fun r1=>(some r1))
def qp9:=hull qga
theorem qvq:qp9=qga:=qa _
def qw4 {R:Type}:EntF Tryz.prog R:=entB (nt:=8) (dec:=(decI .i64)) (enc:=(AV.int .i64)) tabOk follows Tryz.func199 [.t 4] hdeI (.s .z (.s (.r [(2,.c (eK qbfu))] []) .z)) S63_ qga (fun f v=>f (v.s 0 0) (v.i 4 0))
def qi4 (v0 v1:LU):Option Int:=
 (bif(((v1.length:Int)==0)||(v1==v0))then(some (0:Int))else(bif((v1.length:Int)==1)then(oB (ixB v1 (0:Int)) fun c1=>(oB (qp9 v0 (c1.toNat:Int)) fun r2=>(some r2)))else(bif(decide ((v1.length:Int)>=(v0.length:Int)))then(some (-1:Int))else none)))
def qum:=hull qi4
theorem q0a:qum=qi4:=qa _
def q2h {R:Type}:EntF Tryz.prog R:=entB (nt:=143) (dec:=(decI .i64)) (enc:=(AV.int .i64)) tabOk follows Tryz.func196 [.t 4] hdeI (.s .z (.s .z (.s (.b (.s (.r [(3,.g 3)] []) (.s .z (.s .z (.s (.s (.r [(3,.c qw4.b)] []) .z) .z))))) (.s .z (.s .z (.s .z (.s .z (.s .z (.s (.b .x) .z))))))))) S62_ qi4 (fun f v=>f (v.s 0 0) (v.s 4 0))
def qmw (v0 v1:LU):Option Int:=
 (oB (qum v0 v1) fun r1=>(some r1))
def qpi:=hull qmw
theorem q72:qpi=qmw:=qa _
def qxe {R:Type}:EntF Tryz.prog R:=entB (nt:=8) (dec:=(decI .i64)) (enc:=(AV.int .i64)) tabOk follows Tryz.func187 [.t 4] hdeI (.s .z (.s (.r [(2,.c q2h.b)] []) .z)) S62_ qmw (fun f v=>f (v.s 0 0) (v.s 4 0))
def S64_:Shp:=⟨[(0,.one (.l .s)),(1,.one (.l .s)),(5,.one (.l (.i .i64)))],[]⟩
def qr4 (v0 v1:LU)(v5:Int)(next:(List UInt8)->Int->Option Int):Option Int:=
 (oB (qpi v0 v1) fun r1=>(bif(r1==(-1))then(some v5)else(oB (cutI v0 (some (IntKind.i64.wrap (r1+(v1.length:Int)))) none) fun s2=>(next s2 (IntKind.i64.wrap (v5+1))))))
def qmi (v1:LU):Nat->(List UInt8)->Int->Option Int
 |0=>(fun _ _=>none)
 |n+1=>(fun v0 v5=>qr4 v0 v1 v5 (qmi v1 n))
def q6s:=hull (qmi)
def q2i:SubB Tryz.prog (TIof Tryz.prog) 34 0 (kret [.t 4] (decI .i64)):=lpB tabOk follows Tryz.f186 79 (.b (.s (.r [(2,.c qxe.b)] []) (.s .z (.s .z (.v [.sel [0,1,5] []]))))) S64_ (qmi) (fun f v K n=>f (v.s 4 0) n) (fun v f K=>qr4 (v.s 0 0) (v.s 4 0) (v.i 20 0) f) (fun f v=>f (v.s 0 0) (v.i 20 0)) (fun k v=>(fun z0 z1=>k ((v.us 0 0 z0).ui 20 0 z1)))
def qmx (v0 v1:LU):Option Int:=
 (bif((v1.length:Int)==0)then none else(bif((v1.length:Int)==1)then(oB (ixB v1 (0:Int)) fun c1=>(oB (qu2 v0 (c1.toNat:Int)) fun r2=>(some r2)))else(q6s v1 FU v0 (0:Int))))
def qt7:=hull qmx
theorem q73:qt7=qmx:=qa _
def q9e {R:Type}:EntF Tryz.prog R:=entB (nt:=34) (dec:=(decI .i64)) (enc:=(AV.int .i64)) tabOk follows Tryz.func186 [.t 4] hdeI (.s .z (.s (.s .z (.s (.s (.r [(1,.c (eK (qblu (f:=193))))] []) .z) .z)) (.s (.s .z (.s (.s (.r [(3,.c (eK qbft))] []) .z) .z)) (.s .z (.b (.sub [.sel [0,1,5] []] q2i [])))))) S62_ qmx (fun f v=>f (v.s 0 0) (v.s 4 0))
def S65_:Shp:=⟨[(0,.one (.l .s)),(1,.one (.l .s)),(2,.one (.l (.i .i64))),(3,.one (.l (.i .i64)))],[]⟩
def S66_:Shp:=⟨[(0,.one (.l .s)),(1,.one (.l .s)),(2,.one (.l (.i .i64))),(3,.one (.l (.i .i64))),(9,.one (.own 0)),(10,.one (.l (.i .i64)))],[.arr true 1]⟩
def qw5 (v0 v1:LU)(v2:Int)(K:Ex->Env->Mem->Option (List AV)):=(fun z_v3=>K .norm (qo [(0,(.str v0)),(1,(.str v1)),(2,(.int .i64 v2)),(3,(.int .i64 z_v3))]) (qh []))
def qg2 (v0 v1:LU)(v2 v3:Int)(kn:Int->Option (List AV)):Option (List AV):=
 (bif(decide (v3<0))then(oB (qt7 v0 v1) fun r1=>(kn (IntKind.i64.wrap (r1+1))))else(kn v3))
def qra:=hull (qg2)
theorem qw6:qra=qg2:=qa _
def qyh:SubB Tryz.prog (TIof Tryz.prog) 66 0 (kret [.t 8] (decX (.one (.sl 1)) fun z=>aL z)):=jnB tabOk follows Tryz.f169 23 (.s .z (.s (.r [(2,.c q9e.b)] [.sel [0,1,2,3] []]) (.v [.sel [0,1,2,3] []]))) S65_ (qg2) (fun f v K=>f (v.s 0 0) (v.s 4 0) (v.i 8 0) (v.i 12 0) (qw5 (v.s 0 0) (v.s 4 0) (v.i 8 0) K))
def qnl (K:Ex->Env->Mem->Option (List AV)):=(fun z_v0 z_v10 z_a0=>K (.exit 0) (qo [(0,(.str z_v0)),(9,(.own 0 z_a0.length)),(10,(.int .i64 z_v10))]) (qh [(some (.arr true 1 z_a0))]))
def qet (v0 v1:LU)(v2 v3 v10:Int)(a0:LA)(next:(List UInt8)->Int->(List AV)->Option (List AV))(kx0:(List UInt8)->Int->(List AV)->Option (List AV)):Option (List AV):=
 (bif(decide (v10<v3))then(oB (qpi v0 v1) fun r1=>(bif(decide (r1<0))then(kx0 v0 v10 a0)else(oB (cutI v0 none (some (IntKind.i64.wrap (r1+v2)))) fun s2=>(bif hd a0 a0.length then(bif decide (0<=v10/\v10<a0.length)then(bif hd a0 a0.length then(oB (a0[v10.toNat]?) fun y3=>(oB (putE y3 0 1 [(.str s2)]) fun z4=>(oB (cutI v0 (some (IntKind.i64.wrap (r1+(v1.length:Int)))) none) fun s5=>(bif hd (a0.set v10.toNat z4) a0.length then(next s5 (IntKind.i64.wrap (v10+1)) (a0.set v10.toNat z4))else none))))else none)else none)else none))))else(kx0 v0 v10 a0))
def qc8 (v1:LU)(v2 v3:Int)(kx0:(List UInt8)->Int->(List AV)->Option (List AV)):Nat->(List UInt8)->Int->(List AV)->Option (List AV)
 |0=>(fun _ _ _=>none)
 |n+1=>(fun v0 v10 a0=>qet v0 v1 v2 v3 v10 a0 (qc8 v1 v2 v3 kx0 n) kx0)
def qrb:=hull (qc8)
theorem qw7:qrb=qc8:=qa _
def qyi:SubB Tryz.prog (TIof Tryz.prog) 66 0 (kret [.t 8] (decX (.one (.sl 1)) fun z=>aL z)):=lpB tabOk follows Tryz.f169 2303 (.s (.s .z (.s .z (.v [.sel [0,9,10] [0]]))) (.b (.s (.r [(2,.c qxe.b)] []) (.s (.s .z (.s (.v [.sel [0,9,10] [0]]) .z)) (.s .z (.s .z (.v [.hd 9,.sel [0,1,2,3,9,10] [0]]))))))) S66_ (qc8) (fun f v K n=>f (v.s 4 0) (v.i 8 0) (v.i 12 0) (qnl K) n) (fun v f K=>qet (v.s 0 0) (v.s 4 0) (v.i 8 0) (v.i 12 0) (v.i 40 0) (v.r 0) f (qnl K)) (fun f v=>f (v.s 0 0) (v.i 40 0) (v.r 0)) (fun k v=>(fun z0 z1 z2=>k (((v.us 0 0 z0).ui 40 0 z1).ur 0 z2)))
def qjl (v0 v1:LU)(v2 v3:Int):Option (List AV):=
 (bif(v3==0)then(some ([]:List AV))else(bif(v1==([]:List UInt8))then none else(qra v0 v1 v2 v3 (fun v3q1=>(bif decide (0<=(if(IntKind.i64.wrap ((v0.length:Int)+1))<v3q1 then(IntKind.i64.wrap ((v0.length:Int)+1))else v3q1)/\(if(IntKind.i64.wrap ((v0.length:Int)+1))<v3q1 then(IntKind.i64.wrap ((v0.length:Int)+1))else v3q1)<=(if(IntKind.i64.wrap ((v0.length:Int)+1))<v3q1 then(IntKind.i64.wrap ((v0.length:Int)+1))else v3q1)/\(if(IntKind.i64.wrap ((v0.length:Int)+1))<v3q1 then(IntKind.i64.wrap ((v0.length:Int)+1))else v3q1)*16<=281474976710656)then(bif(hd (List.replicate (if(IntKind.i64.wrap ((v0.length:Int)+1))<v3q1 then(IntKind.i64.wrap ((v0.length:Int)+1))else v3q1).toNat ((.str ([]:List UInt8)):AV)) ((List.replicate (if(IntKind.i64.wrap ((v0.length:Int)+1))<v3q1 then(IntKind.i64.wrap ((v0.length:Int)+1))else v3q1).toNat ((.str ([]:List UInt8)):AV)).length)&&true)then(qrb v1 v2 (IntKind.i64.wrap ((if(IntKind.i64.wrap ((v0.length:Int)+1))<v3q1 then(IntKind.i64.wrap ((v0.length:Int)+1))else v3q1)-1)) (fun v0q2 v10q3 a0q4=>(bif hd a0q4 a0q4.length then(bif decide (0<=v10q3/\v10q3<a0q4.length)then(bif hd a0q4 a0q4.length then(oB (a0q4[v10q3.toNat]?) fun y5=>(oB (putE y5 0 1 [(.str v0q2)]) fun z6=>(bif hd (a0q4.set v10q3.toNat z6) a0q4.length then(oB (cutI (a0q4.set v10q3.toNat z6) none (some (IntKind.i64.wrap (v10q3+1)))) fun s7=>(some s7))else none)))else none)else none)else none)) FU v0 (0:Int) (List.replicate (if(IntKind.i64.wrap ((v0.length:Int)+1))<v3q1 then(IntKind.i64.wrap ((v0.length:Int)+1))else v3q1).toNat ((.str ([]:List UInt8)):AV)))else none)else none)))))
def qvr:=hull qjl
theorem q2j:qvr=qjl:=qa _
def q3v {R:Type}:EntF Tryz.prog R:=entB (nt:=66) (dec:=(decX (.one (.sl 1)) fun z=>aL z)) (enc:=(fun r=>.sl 1 r)) tabOk follows Tryz.func169 [.t 8] (hdeX fun _=>rfl) (.s .z (.s (.s .z (.s (.s .z (.v [.eta 8 (.one (.sl 1))])) .z)) (.s (.s .z (.s (.s (.r [(2,.c (eK (qblu (f:=185))))] []) .z) .z)) (.s (.sub [.sel [0,1,2,3] []] qyh []) (.s .z (.s .z (.s .z (.s .z (.s (.b (.sub [.sel [0,1,2,3,9,10] [0]] qyi [])) .z))))))))) S65_ qjl (fun f v=>f (v.s 0 0) (v.s 4 0) (v.i 8 0) (v.i 12 0))
def qmy (v0 v1:LU):Option (List AV):=
 (oB (qvr v0 v1 (0:Int) (-1:Int)) fun r1=>(some r1))
def qpj:=hull qmy
theorem q74:qpj=qmy:=qa _
def qxf {R:Type}:EntF Tryz.prog R:=entB (nt:=8) (dec:=(decX (.one (.sl 1)) fun z=>aL z)) (enc:=(fun r=>.sl 1 r)) tabOk follows Tryz.func114 [.t 4] (hdeX fun _=>rfl) (.s .z (.s (.r [(2,.k q3v.b)] []) .z)) S62_ qmy (fun f v=>f (v.s 0 0) (v.s 4 0))
def S67_:Shp:=⟨[(0,.one (.l .s)),(4,.one (.l (.i .u8))),(13,.one (.l (.i .i64))),(14,.one (.l (.i .i64)))],[]⟩
def S68_:Shp:=⟨[(0,.one (.l .s)),(13,.one (.l (.i .i64))),(14,.one (.l (.i .i64)))],[]⟩
def S69_:Shp:=⟨[(0,.one (.l .s))],[]⟩
def qy5 (v0:LU)(v13 v14:Int)(K:Ex->Env->Mem->Option Bool):=(fun z_v41=>K .norm (qo [(0,(.str v0)),(13,(.int .i64 v13)),(14,(.int .i64 v14)),(41,(.bool z_v41))]) (qh []))
def qie (v0:LU)(v4 v13 v14:Int)(kn:Bool->Option Bool):Option Bool:=
 (bif((decide (v4<97))||(decide (v4>122)))then(bif(decide (v4<48))then(kn ((v4 != (45:Int))&&(v4 != (95:Int))))else(kn (((decide (v4>57))&&(v4 != (45:Int)))&&(v4 != (95:Int)))))else(kn false))
def qnm:=hull (qie)
theorem qy6:qnm=qie:=qa _
def q0b:SubB Tryz.prog (TIof Tryz.prog) 43 0 (kret [.t 2] decB):=jnB tabOk follows Tryz.f115 11467 (.r [(3,.g 2),(15,.g 2),(19,.g 2)] [.sel [0,13,14,41] []]) S67_ (qie) (fun f v K=>f (v.s 0 0) (v.i 16 0) (v.i 52 0) (v.i 56 0) (qy5 (v.s 0 0) (v.i 52 0) (v.i 56 0) K))
def qo4 (K:Ex->Env->Mem->Option Bool):=(fun(_:Unit)=>K (.exit 0) (qo []) (qh []))
def qfm (v0:LU)(v13 v14:Int)(next:Int->Option Bool)(kx0:Unit->Option Bool):Option Bool:=
 (bif(decide (v14<v13))then(oB (ixB v0 v14) fun c1=>(qnm v0 (c1.toNat:Int) v13 v14 (fun v41q2=>(bif v41q2 then(some false)else(next (IntKind.i64.wrap (v14+1)))))))else(kx0 ()))
def qfn (v0:LU)(v13:Int)(kx0:Unit->Option Bool):Nat->Int->Option Bool
 |0=>(fun _=>none)
 |n+1=>(fun v14=>qfm v0 v13 v14 (qfn v0 v13 kx0 n) kx0)
def qtk:=hull (qfn)
theorem qy7:qtk=qfn:=qa _
def q0c:SubB Tryz.prog (TIof Tryz.prog) 43 0 (kret [.t 2] decB):=lpB tabOk follows Tryz.f115 75 (.s .z (.s (.s .z (.v [.sel [] []])) (.s (.b (.s .z (.s .z (.s (.sub [.sel [0,4,13,14] []] q0b []) .z)))) (.v [.sel [0,13,14] []])))) S68_ (qfn) (fun f v K n=>f (v.s 0 0) (v.i 52 0) (qo4 K) n) (fun v f K=>qfm (v.s 0 0) (v.i 52 0) (v.i 56 0) f (qo4 K)) (fun f v=>f (v.i 56 0)) (fun k v=>(fun z0=>k (v.ui 56 0 z0)))
def qle (v0:LU):Option Bool:=
 (bif((v0==([]:List UInt8))||(decide ((v0.length:Int)>63)))then(some false)else(qtk v0 (v0.length:Int) (fun(_:Unit)=>(some true)) FU (0:Int)))
def qsb:=hull qle
theorem q6t:qsb=qle:=qa _
def q75 {R:Type}:EntF Tryz.prog R:=entB (nt:=43) (dec:=decB) (enc:=AV.bool) tabOk follows Tryz.func115 [.t 2] hdeB (.s .z (.s (.s (.r [(3,.g 3)] []) .z) (.s (.s .z (.b (.sub [.sel [0,13,14] []] q0c []))) .z))) S69_ qle (fun f v=>f (v.s 0 0))
def S70_:Shp:=⟨[(3,.one (.l (.i .i64))),(4,.one (.l .s)),(20,.one (.l (.sl 1))),(21,.one (.l (.i .i64))),(22,.one (.l (.i .i64)))],[]⟩
def S71_:Shp:=⟨[(20,.one (.l (.sl 1))),(21,.one (.l (.i .i64))),(22,.one (.l (.i .i64)))],[]⟩
def q3w (v0:LU)(K:Ex->Env->Mem->Option Bool):=(fun z_v14=>K .norm (qo [(0,(.str v0)),(14,(.bool z_v14))]) (qh []))
def qkg (v0:LU)(kn:Bool->Option Bool):Option Bool:=
 (bif(decide ((v0.length:Int)>=255))then(kn true)else(oB (qkf v0 ([46]:List UInt8)) fun r1=>(kn (!r1))))
def qxg:=hull (qkg)
theorem q3x:qxg=qkg:=qa _
def q6u:SubB Tryz.prog (TIof Tryz.prog) 39 0 (kret [.t 2] decB):=jnB tabOk follows Tryz.f59 19 (.r [(5,.c qr3.b)] [.sel [0,14] []]) S69_ (qkg) (fun f v K=>f (v.s 0 0) (q3w (v.s 0 0) K))
def q3y (v20:LA)(v21 v22:Int)(K:Ex->Env->Mem->Option Bool):=(fun z_v37=>K .norm (qo [(20,(.sl 1 v20)),(21,(.int .i64 v21)),(22,(.int .i64 v22)),(37,(.bool z_v37))]) (qh []))
def qkh (v3:Int)(v4:LU)(v20:LA)(v21 v22:Int)(kn:Bool->Option Bool):Option Bool:=
 (oB (qsb v4) fun r1=>(bif(!r1)then(bif(decide (v3>0))then(kn true)else(kn (!(v4==([42]:List UInt8)))))else(kn false)))
def qxh:=hull (qkh)
theorem q3z:qxh=qkh:=qa _
def q6v:SubB Tryz.prog (TIof Tryz.prog) 39 0 (kret [.t 2] decB):=jnB tabOk follows Tryz.f59 10647 (.r [(1,.c q75.b)] [.sel [20,21,22,37] []]) S70_ (qkh) (fun f v K=>f (v.i 12 0) (v.s 16 0) (v.l 80 0) (v.i 84 0) (v.i 88 0) (q3y (v.l 80 0) (v.i 84 0) (v.i 88 0) K))
def qr5 (K:Ex->Env->Mem->Option Bool):=(fun(_:Unit)=>K (.exit 0) (qo []) (qh []))
def qh8 (v20:LA)(v21 v22:Int)(next:Int->Option Bool)(kx0:Unit->Option Bool):Option Bool:=
 (bif(decide (v22<v21))then(oB (ixB v20 v22) fun y1=>(bif fitC [.s] y1.cells then(qxh v22 (gS y1.cells 0) v20 v21 v22 (fun v37q2=>(bif v37q2 then(some false)else(next (IntKind.i64.wrap (v22+1))))))else none))else(kx0 ()))
def qh9 (v20:LA)(v21:Int)(kx0:Unit->Option Bool):Nat->Int->Option Bool
 |0=>(fun _=>none)
 |n+1=>(fun v22=>qh8 v20 v21 v22 (qh9 v20 v21 kx0 n) kx0)
def qrc:=hull (qh9)
theorem q30:qrc=qh9:=qa _
def q6w:SubB Tryz.prog (TIof Tryz.prog) 39 0 (kret [.t 2] decB):=lpB tabOk follows Tryz.f59 151 (.s .z (.s (.s .z (.v [.sel [] []])) (.s (.b (.s (.r [(1,.p (.etac 25 [.s]))] []) (.s (.sub [.sel [3,4,20,21,22] []] q6v []) .z))) (.v [.sel [20,21,22] []])))) S71_ (qh9) (fun f v K n=>f (v.l 80 0) (v.i 84 0) (qr5 K) n) (fun v f K=>qh8 (v.l 80 0) (v.i 84 0) (v.i 88 0) f (qr5 K)) (fun f v=>f (v.i 88 0)) (fun k v=>(fun z0=>k (v.ui 88 0 z0)))
def qpk (v0:LU):Option Bool:=
 (bif(v0==([46]:List UInt8))then(some true)else(qxg v0 (fun v14q1=>(bif v14q1 then(some false)else(oB (cutI v0 none (some (IntKind.i64.wrap ((v0.length:Int)-1)))) fun s2=>(oB (qpj s2 ([46]:List UInt8)) fun r3=>(qrc r3 (r3.length:Int) (fun(_:Unit)=>(some true)) FU (0:Int))))))))
def qeu:=hull qpk
theorem qbb3:qeu=qpk:=qa _
def qf1 {R:Type}:EntF Tryz.prog R:=entB (nt:=39) (dec:=decB) (enc:=AV.bool) tabOk follows Tryz.func59 [.t 2] hdeB (.s .z (.s .z (.s (.s (.sub [.sel [0] []] q6u []) .z) (.s (.s (.r [(5,.k qxf.b)] []) (.b (.sub [.sel [20,21,22] []] q6w []))) .z)))) S69_ qpk (fun f v=>f (v.s 0 0))
def qpl (x0:LU)(x1:Bool)(x2 x3 x4:Int):List AV:=[.str x0,.bool x1,.int .u64 x2,.int .u64 x3,.int .i64 x4]
def S72_:Shp:=⟨[(1,.one (.ptr 0 0))],[.box true (lk qm)]⟩
def S73_:Shp:=⟨[(0,.st (lk qm))],[]⟩
def q2k (Av:LU)(Aw:Bool)(Ax Ay Az:Int)(K:Ex->Env->Mem->Option Int):=(fun z_v3=>K .norm (qo [(1,(.ptr 0 0)),(3,(.bool z_v3))]) (qh [(some (.box true (qpl Av Aw Ax Ay Az)))]))
def qjm (Av:LU)(Aw:Bool)(Ax Ay Az:Int)(kn:Bool->Option Int):Option Int:=
 (oB (qeu Av) fun r1=>(bif(!r1)then(kn true)else(oB (ixB Av (0:Int)) fun c2=>(kn ((c2.toNat:Int)==42)))))
def qvs:=hull (qjm)
theorem q2l:qvs=qjm:=qa _
def q31:SubB Tryz.prog (TIof Tryz.prog) 28 0 (kret [.t 2] (decI .i64)):=jnB tabOk follows Tryz.f111 17 (.r [(2,.c qf1.b)] [.sel [1,3] [0]]) S72_ (qjm) (fun f v K=>f (v.s 3 0) (v.b 3 1) (v.i 3 2) (v.i 3 3) (v.i 3 4) (q2k (v.s 3 0) (v.b 3 1) (v.i 3 2) (v.i 3 3) (v.i 3 4) K))
def qmz (Aa:LU)(Ab:Bool)(Ac Bt Bu:Int):Option Int:=
 (qvs Aa Ab Ac Bt Bu (fun v3q1=>(bif v3q1 then(some (2:Int))else(oB (qq1 Ab Ac Bt) fun r2=>(bif(!r2)then(some (3:Int))else(bif((decide (Bu<0))||(decide (Bu>2147483647)))then(some (1:Int))else(some (0:Int))))))))
def qt8:=hull qmz
theorem q76:qt8=qmz:=qa _
def q9f {R:Type}:EntF Tryz.prog R:=entB (nt:=28) (dec:=(decI .i64)) (enc:=(AV.int .i64)) tabOk follows Tryz.func111 [.t 2] hdeI (.s .z (.s (.b (.s (.sub [.sel [1] [0]] q31 []) (.s .z (.s (.r [(2,.c qvg.b)] []) (.s .z (.s (.r [(4,.g 3)] []) .z)))))) .z)) S73_ qmz (fun f v=>f (v.s 1 0) (v.b 1 1) (v.i 1 2) (v.i 1 3) (v.i 1 4))
theorem qbfv {R:Type}:qii Tryz.prog 188 (qst (R':=R)):=qbij Tryz.func188 (by kernel_rfl) (by kernel_rfl) (by kernel_rfl) (by kernel_rfl)
def qi9 (v0 v1:LU):Option Int:=
 (oB (q1d v0 v1) fun r1=>(some r1))
def qqa:=hull qi9
theorem qvt:qqa=qi9:=qa _
def qw8 {R:Type}:EntF Tryz.prog R:=entB (nt:=8) (dec:=(decI .i64)) (enc:=(AV.int .i64)) tabOk follows Tryz.func170 [.t 4] hdeI (.s .z (.s (.r [(2,.c (eK qbfv))] []) .z)) S62_ qi9 (fun f v=>f (v.s 0 0) (v.s 4 0))
def qki (v0 v1:LU):Option Int:=
 (oB (qqa v0 v1) fun r1=>(some r1))
def qm0:=hull qki
theorem q32:qm0=qki:=qa _
def qun {R:Type}:EntF Tryz.prog R:=entB (nt:=8) (dec:=(decI .i64)) (enc:=(AV.int .i64)) tabOk follows Tryz.func116 [.t 4] hdeI (.s .z (.s (.r [(2,.c qw8.b)] []) .z)) S62_ qki (fun f v=>f (v.s 0 0) (v.s 4 0))
def q33 (v0:LU)(K:Ex->Env->Mem->Option (List AV)):=(fun z_v9=>K .norm (qo [(0,(.str v0)),(9,(.bool z_v9))]) (qh []))
def qkj (v0:LU)(kn:Bool->Option (List AV)):Option (List AV):=
 (bif(v0==([46]:List UInt8))then(kn true)else(oB (qeu v0) fun r1=>(kn (!r1))))
def qxi:=hull (qkj)
theorem q34:qxi=qkj:=qa _
def q6x:SubB Tryz.prog (TIof Tryz.prog) 16 0 (kret [.t 2] (decX (.one (.sl 1)) fun z=>aL z)):=jnB tabOk follows Tryz.f117 9 (.r [(4,.c qf1.b)] [.sel [0,9] []]) S69_ (qkj) (fun f v K=>f (v.s 0 0) (q33 (v.s 0 0) K))
def qob (v0:LU):Option (List AV):=
 (qxi v0 (fun v9q1=>(bif v9q1 then(some ([]:List AV))else(oB (cutI v0 none (some (IntKind.i64.wrap ((v0.length:Int)-1)))) fun s2=>(oB (qpj s2 ([46]:List UInt8)) fun r3=>(some r3))))))
def qnn:=hull qob
theorem q9g:qnn=qob:=qa _
def qsc {R:Type}:EntF Tryz.prog R:=entB (nt:=16) (dec:=(decX (.one (.sl 1)) fun z=>aL z)) (enc:=(fun r=>.sl 1 r)) tabOk follows Tryz.func117 [.t 2] (hdeX fun _=>rfl) (.s .z (.s (.s (.sub [.sel [0] []] q6x []) (.s (.s .z (.v [.eta 2 (.one (.sl 1))])) .z)) (.s (.r [(5,.k qxf.b)] []) .z))) S69_ qob (fun f v=>f (v.s 0 0))
def S74_:Shp:=⟨[(7,.one (.l (.sl 1))),(8,.one (.l (.sl 1))),(9,.one (.l (.i .i64)))],[]⟩
def qqb (v7 v8:LA)(K:Ex->Env->Mem->Option Int):=(fun(_:Unit)=>K (.exit 1) (qo [(7,(.sl 1 v7)),(8,(.sl 1 v8))]) (qh []))
def qmj (v7 v8:LA)(v9:Int)(next:Int->Option Int)(kx1:Unit->Option Int):Option Int:=
 (bif((decide (v9<=(v7.length:Int)))&&(decide (v9<=(v8.length:Int))))then(oB (ixB v7 (IntKind.i64.wrap ((v7.length:Int)-v9))) fun y1=>(bif fitC [.s] y1.cells then(oB (ixB v8 (IntKind.i64.wrap ((v8.length:Int)-v9))) fun y2=>(bif fitC [.s] y2.cells then(oB (qm0 (gS y1.cells 0) (gS y2.cells 0)) fun r3=>(bif(r3 != (0:Int))then(some r3)else(next (IntKind.i64.wrap (v9+1)))))else none))else none))else(kx1 ()))
def qeq (v7 v8:LA)(kx1:Unit->Option Int):Nat->Int->Option Int
 |0=>(fun _=>none)
 |n+1=>(fun v9=>qmj v7 v8 v9 (qeq v7 v8 kx1 n) kx1)
def qup:=hull (qeq)
theorem q0d:qup=qeq:=qa _
def q2m:SubB Tryz.prog (TIof Tryz.prog) 79 0 (kret [.t 4] (decI .i64)):=lpB tabOk follows Tryz.f60 303 (.s (.s (.r [(5,.g 4)] []) (.s .z (.v [.sel [7,8] []]))) (.s (.b (.s (.d [] [(5,.e 54 [.s]),(12,.e 61 [.s])] [(0,.c qun.b)] []) .z)) (.v [.sel [7,8,9] []]))) S74_ (qeq) (fun f v K n=>f (v.l 28 0) (v.l 32 0) (qqb (v.l 28 0) (v.l 32 0) K) n) (fun v f K=>qmj (v.l 28 0) (v.l 32 0) (v.i 36 0) f (qqb (v.l 28 0) (v.l 32 0) K)) (fun f v=>f (v.i 36 0)) (fun k v=>(fun z0=>k (v.ui 36 0 z0)))
def qm1 (v0 v1:LU):Option Int:=
 (oB (qeu v0) fun r1=>(oB (qeu v1) fun r2=>(bif(r1&&(!r2))then(some (-1:Int))else(bif(r2&&(!r1))then(some (1:Int))else(bif(!r1)then(oB (qm0 v0 v1) fun r3=>(some r3))else(oB (qnn v0) fun r4=>(oB (qnn v1) fun r5=>(qup r4 r5 (fun(_:Unit)=>(bif(decide ((r4.length:Int)<(r5.length:Int)))then(some (-1:Int))else(bif(decide ((r4.length:Int)>(r5.length:Int)))then(some (1:Int))else(some (0:Int))))) FU (1:Int)))))))))
def qlz:=hull qm1
theorem q77:qlz=qm1:=qa _
def qrd {R:Type}:EntF Tryz.prog R:=entB (nt:=79) (dec:=(decI .i64)) (enc:=(AV.int .i64)) tabOk follows Tryz.func60 [.t 4] hdeI (.s .z (.s (.r [(1,.c qf1.b),(3,.c qf1.b)] []) (.s (.b (.s (.r [(2,.g 2)] []) (.s .z (.s (.r [(2,.g 2)] []) (.s .z (.s .z (.s (.s (.r [(2,.c qun.b)] []) .z) .z))))))) (.s (.r [(1,.k qsc.b),(3,.k qsc.b)] []) (.s (.s .z (.b (.sub [.sel [7,8,9] []] q2m []))) .z))))) S62_ qm1 (fun f v=>f (v.s 0 0) (v.s 4 0))
def S75_:Shp:=⟨[(0,.st (lk qm)),(1,.st (lk qm))],[]⟩
def qm2 (Aa:LU)(Ab:Bool)(Ac Bt Bu:Int)(B7:LU)(B8:Bool)(B9 Ca Cb:Int):Option Int:=
 (oB (qnk Ab Ac Bt B8 B9 Ca) fun r1=>(bif(r1 != (0:Int))then(some r1)else(oB (qlz Aa B7) fun r2=>(some r2))))
def qt9:=hull qm2
theorem q78:qt9=qm2:=qa _
def q9h {R:Type}:EntF Tryz.prog R:=entB (nt:=19) (dec:=(decI .i64)) (enc:=(AV.int .i64)) tabOk follows Tryz.func112 [.t 4] hdeI (.s .z (.s (.s (.r [(4,.c qr8.b)] []) .z) (.s (.r [(4,.c qrd.b)] []) .z))) S75_ qm2 (fun f v=>f (v.s 1 0) (v.b 1 1) (v.i 1 2) (v.i 1 3) (v.i 1 4) (v.s 5 0) (v.b 5 1) (v.i 5 2) (v.i 5 3) (v.i 5 4))
def S76_:Shp:=⟨[(0,.one (.l (.sl 5))),(10,.one (.l (.sl 5))),(11,.one (.l (.i .i64))),(12,.one (.l (.i .i64)))],[]⟩
def S77_:Shp:=⟨[(0,.one (.l (.sl 5)))],[]⟩
def qqc (K:Ex->Env->Mem->Option Int):=(fun(_:Unit)=>K (.exit 0) (qo []) (qh []))
def qgf (v0 v10:LA)(v11 v12:Int)(next:Int->Option Int)(kx0:Unit->Option Int):Option Int:=
 (bif(decide (v12<v11))then(oB (ixB v10 v12) fun y1=>(bif fitC qm y1.cells then(oB (qt8 (gS y1.cells 0) (gB y1.cells 1) (gI y1.cells 2) (gI y1.cells 3) (gI y1.cells 4)) fun r2=>(bif(r2 != (0:Int))then(some r2)else(bif(v12==0)then(next (IntKind.i64.wrap (v12+1)))else(oB (ixB v0 (IntKind.i64.wrap (v12-1))) fun y3=>(bif fitC qm y3.cells then(oB (qt9 (gS y1.cells 0) (gB y1.cells 1) (gI y1.cells 2) (gI y1.cells 3) (gI y1.cells 4) (gS y3.cells 0) (gB y3.cells 1) (gI y3.cells 2) (gI y3.cells 3) (gI y3.cells 4)) fun r4=>(bif(decide (r4<0))then(some (7:Int))else(bif(r4==0)then(some (12:Int))else(next (IntKind.i64.wrap (v12+1))))))else none)))))else none))else(kx0 ()))
def qgg (v0 v10:LA)(v11:Int)(kx0:Unit->Option Int):Nat->Int->Option Int
 |0=>(fun _=>none)
 |n+1=>(fun v12=>qgf v0 v10 v11 v12 (qgg v0 v10 v11 kx0 n) kx0)
def quq:=hull (qgg)
theorem q0e:quq=qgg:=qa _
def q2n:SubB Tryz.prog (TIof Tryz.prog) 38 0 (kret [.t 2] (decI .i64)):=lpB tabOk follows Tryz.f58 75 (.s .z (.s (.s .z (.v [.sel [] []])) (.s (.b (.s (.r [(1,.p (.etac 15 qm))] []) (.s (.s (.r [(1,.c q9f.b)] []) .z) (.s .z (.s (.d [] [(4,.e 28 qm)] [(0,.c q9h.b)] []) .z))))) (.v [.sel [0,10,11,12] []])))) S76_ (qgg) (fun f v K n=>f (v.l 0 0) (v.l 40 0) (v.i 44 0) (qqc K) n) (fun v f K=>qgf (v.l 0 0) (v.l 40 0) (v.i 44 0) (v.i 48 0) f (qqc K)) (fun f v=>f (v.i 48 0)) (fun k v=>(fun z0=>k (v.ui 48 0 z0)))
def qm3 (v0:LA):Option Int:=
 (bif(decide ((v0.length:Int)>256))then(some (9:Int))else(quq v0 v0 (v0.length:Int) (fun(_:Unit)=>(some (0:Int))) FU (0:Int)))
def qpm:=hull qm3
theorem q79:qpm=qm3:=qa _
def qxj {R:Type}:EntF Tryz.prog R:=entB (nt:=38) (dec:=(decI .i64)) (enc:=(AV.int .i64)) tabOk follows Tryz.func58 [.t 2] hdeI (.s .z (.s .z (.s (.s .z (.b (.sub [.sel [0,10,11,12] []] q2n []))) .z))) S77_ qm3 (fun f v=>f (v.l 0 0))
def qoc (Aa:LU)(Ab:Bool)(Ac Bt Bu:Int)(B7:LU)(B8:Bool)(B9 Ca Cb:Int):Option Int:=
 (oB (qnk Ab Ac Bt B8 B9 Ca) fun r1=>(bif(r1 != (0:Int))then(some r1)else(oB (qlz Aa B7) fun r2=>(some r2))))
def qno:=hull qoc
theorem q9i:qno=qoc:=qa _
def qy8 {R:Type}:EntF Tryz.prog R:=entB (nt:=19) (dec:=(decI .i64)) (enc:=(AV.int .i64)) tabOk follows Tryz.func158 [.t 4] hdeI (.s .z (.s (.s (.r [(4,.c qr8.b)] []) .z) (.s (.r [(4,.c qrd.b)] []) .z))) S75_ qoc (fun f v=>f (v.s 1 0) (v.b 1 1) (v.i 1 2) (v.i 1 3) (v.i 1 4) (v.s 5 0) (v.b 5 1) (v.i 5 2) (v.i 5 3) (v.i 5 4))
def S78_:Shp:=⟨[(0,.one (.l (.sl 5))),(2,.one (.fn 158 [])),(4,.one (.ptr 0 0)),(8,.one (.l (.i .i64))),(9,.one (.l (.i .i64))),(10,.one (.l (.i .i64)))],[.box true (lk qm)]⟩
def S79_:Shp:=⟨[(0,.one (.l (.sl 5))),(1,.st (lk qm)),(2,.one (.fn 158 []))],[]⟩
def qci:AV->Option (Int×Bool):=decN [(.one (.i .i64)),(.one .b)] fun z=>(aI (gC (tpL z) 0),aB (gC (tpL z) 1))
def qcd (v0:LA)(v8:Int)(Av:LU)(Aw:Bool)(Ax Ay Az:Int)(K:Ex->Env->Mem->Option (Int×Bool)):=(fun z_v9=>K (.exit 0) (qo [(0,(.sl 5 v0)),(2,(.func 158 [])),(4,(.ptr 0 0)),(8,(.int .i64 v8)),(9,(.int .i64 z_v9))]) (qh [(some (.box true (qpl Av Aw Ax Ay Az)))]))
def qbn (v0:LA)(v8 v9 v10:Int)(Av:LU)(Aw:Bool)(Ax Ay Az:Int)(next:Int->Int->Option (Int×Bool))(kx0:Int->Option (Int×Bool)):Option (Int×Bool):=
 (bif(decide (v9<v10))then(oB (ixB v0 (IntKind.i64.wrap ((IntKind.u64.wrap (IntKind.i64.wrap (v9+v10))).fdiv (2^min (1:Int).toNat IntKind.u64.bits)))) fun y1=>(bif fitC qm y1.cells then(oB (qno (gS y1.cells 0) (gB y1.cells 1) (gI y1.cells 2) (gI y1.cells 3) (gI y1.cells 4) Av Aw Ax Ay Az) fun r2=>(bif(decide (r2<0))then(next (IntKind.i64.wrap ((IntKind.i64.wrap ((IntKind.u64.wrap (IntKind.i64.wrap (v9+v10))).fdiv (2^min (1:Int).toNat IntKind.u64.bits)))+1)) v10)else(next v9 (IntKind.i64.wrap ((IntKind.u64.wrap (IntKind.i64.wrap (v9+v10))).fdiv (2^min (1:Int).toNat IntKind.u64.bits))))))else none))else(kx0 v9))
def qi (v0:LA)(v8:Int)(Av:LU)(Aw:Bool)(Ax Ay Az:Int)(kx0:Int->Option (Int×Bool)):Nat->Int->Int->Option (Int×Bool)
 |0=>(fun _ _=>none)
 |n+1=>(fun v9 v10=>qbn v0 v8 v9 v10 Av Aw Ax Ay Az (qi v0 v8 Av Aw Ax Ay Az kx0 n) kx0)
def qck:=hull (qi)
theorem qei:qck=qi:=qa _
def qej:SubB Tryz.prog (TIof Tryz.prog) 49 0 (kret [.t 6,.t 7] qci):=lpB tabOk follows Tryz.f157 71 (.s (.s .z (.s .z (.v [.sel [0,2,4,8,9] [0]]))) (.b (.s .z (.s (.d [] [(3,.e 27 qm)] [(0,.c qy8.b)] []) (.s (.v [.sel [0,2,4,8,9,10] [0]]) (.v [.sel [0,2,4,8,9,10] [0]])))))) S78_ (qi) (fun f v K n=>f (v.l 0 0) (v.i 32 0) (v.s 3 0) (v.b 3 1) (v.i 3 2) (v.i 3 3) (v.i 3 4) (qcd (v.l 0 0) (v.i 32 0) (v.s 3 0) (v.b 3 1) (v.i 3 2) (v.i 3 3) (v.i 3 4) K) n) (fun v f K=>qbn (v.l 0 0) (v.i 32 0) (v.i 36 0) (v.i 40 0) (v.s 3 0) (v.b 3 1) (v.i 3 2) (v.i 3 3) (v.i 3 4) f (qcd (v.l 0 0) (v.i 32 0) (v.s 3 0) (v.b 3 1) (v.i 3 2) (v.i 3 3) (v.i 3 4) K)) (fun f v=>f (v.i 36 0) (v.i 40 0)) (fun k v=>(fun z0 z1=>k ((v.ui 36 0 z0).ui 40 0 z1)))
def qba (v0:LA)(B7:LU)(B8:Bool)(B9 Ca Cb:Int):Option (Int×Bool):=
 (qck v0 (v0.length:Int) B7 B8 B9 Ca Cb (fun v9q1=>(bif(decide (v9q1<(v0.length:Int)))then(oB (ixB v0 v9q1) fun y2=>(bif fitC qm y2.cells then(oB (qno (gS y2.cells 0) (gB y2.cells 1) (gI y2.cells 2) (gI y2.cells 3) (gI y2.cells 4) B7 B8 B9 Ca Cb) fun r3=>(some (v9q1,(r3==0))))else none))else(some (v9q1,false)))) FU (0:Int) (v0.length:Int))
def qcp:=hull qba
theorem qep:qcp=qba:=qa _
def qev {R:Type}:EntF Tryz.prog R:=entB (nt:=49) (dec:=qci) (enc:=(fun r=>.tup [.int .i64 r.1,.bool r.2])) tabOk follows Tryz.func157 [.t 6,.t 7] (hdeN fun _=>rfl) (.s .z (.s .z (.s .z (.s (.b (.sub [.sel [0,2,4,8,9,10] [0]] qej [])) (.s (.d [] [(8,.e 43 qm),(11,.c qy8.b)] [] []) .z))))) S79_ qba (fun f v=>f (v.l 0 0) (v.s 5 0) (v.b 5 1) (v.i 5 2) (v.i 5 3) (v.i 5 4))
def S80_:Shp:=⟨[(0,.one (.l (.sl 5))),(1,.st (lk qm))],[]⟩
def q9j:AV->Option (Int×Bool):=decN [(.one (.i .i64)),(.one .b)] fun z=>(aI (gC (tpL z) 0),aB (gC (tpL z) 1))
def qpn (v0:LA)(B7:LU)(B8:Bool)(B9 Ca Cb:Int):Option (Int×Bool):=
 (oB (qcp v0 B7 B8 B9 Ca Cb) fun r1=>(some (r1.1,r1.2)))
def qo5:=hull qpn
theorem qbb4:qo5=qpn:=qa _
def qua {R:Type}:EntF Tryz.prog R:=entB (nt:=11) (dec:=q9j) (enc:=(fun r=>.tup [.int .i64 r.1,.bool r.2])) tabOk follows Tryz.func99 [.t 4,.t 5] (hdeN fun _=>rfl) (.s .z (.s (.r [(2,.c qev.b)] []) .z)) S80_ qpn (fun f v=>f (v.l 0 0) (v.s 5 0) (v.b 5 1) (v.i 5 2) (v.i 5 3) (v.i 5 4))
def qre (v0 v1:LU):Option Bool:=
 (bif((v1==([46]:List UInt8))||(v0==v1))then(some true)else(bif decide (([46]:List UInt8).length+v1.length<=9223372036854775807)then(oB (qkf v0 (([46]:List UInt8)++v1)) fun r1=>(some r1))else none))
def q9k:=hull qre
theorem qbe6:q9k=qre:=qa _
def qbfw {R:Type}:EntF Tryz.prog R:=entB (nt:=18) (dec:=decB) (enc:=AV.bool) tabOk follows Tryz.func172 [.t 4] hdeB (.s .z (.s (.r [(3,.g 3),(11,.c qr3.b)] []) .z)) S62_ qre (fun f v=>f (v.s 0 0) (v.s 4 0))
def qpo (v0 v1:LU):Option Bool:=
 (oB (qeu v0) fun r1=>(bif r1 then(oB (qeu v1) fun r2=>(bif r2 then(oB (q9k v0 v1) fun r3=>(some r3))else(some false)))else(some false)))
def qyj:=hull qpo
theorem qbb5:qyj=qpo:=qa _
def qbe7 {R:Type}:EntF Tryz.prog R:=entB (nt:=16) (dec:=decB) (enc:=AV.bool) tabOk follows Tryz.func120 [.t 4] hdeB (.s .z (.s (.r [(1,.c qf1.b),(4,.c qf1.b),(9,.c qbfw.b)] []) .z)) S62_ qpo (fun f v=>f (v.s 0 0) (v.s 4 0))
def S81_:Shp:=⟨[(0,.one (.l .s)),(1,.one (.ptr 0 0))],[.box true [(.l .s)]]⟩
def q2o {R:Type}(KK:AV->Mem->Option R):=(fun v3 Av=>KK (.bool v3) (qh [(some (.box true [(.str Av)]))]))
def qjn {R:Type}(v0 Av:LU)(kr:Bool->(List UInt8)->Option R):Option R:=
 (oB (qyj Av v0) fun r1=>(kr r1 Av))
def qvu {R:Type}:=hull (qjn (R:=R))
theorem q2p {R:Type}:qvu (R:=R)=qjn:=qa _
def q35 {R:Type}:RefB Tryz.prog R:=refB (nt:=7) (nb:=1) tabOk follows Tryz.func119 [.t 3] (fun KK=>.s .z (.s (.r [(2,.c qbe7.b)] []) (.v [.sel [3] [0]]))) S81_ (qjn (R:=R)) (fun f v KK=>f (v.s 0 0) (v.s 3 0) (q2o KK)) (by kernel_rfl) (by kernel_rfl) (fun _=>(by kernel_rfl)) rfl
def S82_:Shp:=⟨[(0,.one (.l (.sl 1))),(1,.one (.fn 119 [(0,0)])),(7,.one (.l (.i .i64))),(8,.one (.l (.i .i64)))],[.box true [(.l .s)]]⟩
def S83_:Shp:=⟨[(0,.one (.l (.sl 1))),(1,.one (.fn 119 [(0,0)]))],[.box true [(.l .s)]]⟩
def qdp {R:Type}(K:Ex->Env->Mem->Option R):=(fun z_b0_0=>K (.exit 0) (qo []) (qh [(some (.box true [(.str z_b0_0)]))]))
def qdq {R:Type}(KK:AV->Mem->Option R):=(fun v4 Av=>KK (.int .i64 v4) (qh [(some (.box true [(.str Av)]))]))
def qbc {R:Type}(v0:LA)(v7 v8:Int)(Av:LU)(next:Int->(List UInt8)->Option R)(kx0:(List UInt8)->Option R)(kr:Int->(List UInt8)->Option R):Option R:=
 (bif(decide (v8<v7))then(oB (ixB v0 v8) fun y1=>(bif fitC [.s] y1.cells then(qvu (gS y1.cells 0) Av fun v3q2 b0_0q3=>(bif v3q2 then(kr v8 b0_0q3)else(next (IntKind.i64.wrap (v8+1)) b0_0q3)))else none))else(kx0 Av))
def qbd {R:Type}(v0:LA)(v7:Int)(kx0:(List UInt8)->Option R)(kr:Int->(List UInt8)->Option R):Nat->Int->(List UInt8)->Option R
 |0=>(fun _ _=>none)
 |n+1=>(fun v8 Av=>qbc v0 v7 v8 Av (qbd v0 v7 kx0 kr n) kx0 kr)
def qdz {R:Type}:=hull (qbd (R:=R))
theorem qhb {R:Type}:qdz (R:=R)=qbd:=qa _
def qhn {R:Type}(KK:AV->Mem->Option R):SubB Tryz.prog (TIof Tryz.prog) 19 1 (qdj [.t 4] KK):=lpB tabOk follows Tryz.f171 37 (.s .z (.s (.s .z (.v [.sel [] [0]])) (.s (.b (.s .z (.s (.r [(3,.p (.etac 14 [.s])),(5,.s (.sel [0,1,5,7,8,11,15] [0])),(5,.r q35)] []) (.s (.s .z (.v [.sel [4] [0]])) .z)))) (.v [.sel [0,1,7,8] [0]])))) S82_ (qbd (R:=R)) (fun f v K n=>f (v.l 0 0) (v.i 28 0) (qdp K) (qdq KK) n) (fun v f K=>qbc (v.l 0 0) (v.i 28 0) (v.i 32 0) (v.s 3 0) f (qdp K) (qdq KK)) (fun f v=>f (v.i 32 0) (v.s 3 0)) (fun k v=>(fun z0 z1=>k ((v.ui 32 0 z0).us 3 0 z1)))
def qia {R:Type}(KK:AV->Mem->Option R):=(fun v4 Av=>KK (.int .i64 v4) (qh [(some (.box true [(.str Av)]))]))
def qbw {R:Type}(v0:LA)(Av:LU)(kr:Int->(List UInt8)->Option R):Option R:=
 (qdz v0 (v0.length:Int) (fun b0_0q1=>(kr (-1:Int) b0_0q1)) kr FU (0:Int) Av)
def qeb {R:Type}:=hull (qbw (R:=R))
theorem qib {R:Type}:qeb (R:=R)=qbw:=qa _
def qif {R:Type}:RefB Tryz.prog R:=refB (nt:=19) (nb:=1) tabOk follows Tryz.func171 [.t 4] (fun KK=>.s .z (.s (.s .z (.b (.sub [.sel [0,1,7,8] [0]] (qhn KK) []))) (.s .z (.v [.sel [4] [0]])))) S83_ (qbw (R:=R)) (fun f v KK=>f (v.l 0 0) (v.s 3 0) (qia KK)) (by kernel_rfl) (by kernel_rfl) (fun _=>(by kernel_rfl)) rfl
def qhc {R:Type}(KK:AV->Mem->Option R):=(fun v4 Av=>KK (.bool v4) (qh [(some (.box true [(.str Av)]))]))
def qbs {R:Type}(v0:LA)(Av:LU)(kr:Bool->(List UInt8)->Option R):Option R:=
 (qeb v0 Av fun v4q1 b0_0q2=>(kr (decide (v4q1>=0)) b0_0q2))
def qd0 {R:Type}:=hull (qbs (R:=R))
theorem qhd {R:Type}:qd0 (R:=R)=qbs:=qa _
def qho {R:Type}:RefB Tryz.prog R:=refB (nt:=9) (nb:=1) tabOk follows Tryz.func118 [.t 4] (fun KK=>.s .z (.s (.r [(2,.s (.sel [5,6] [0])),(2,.r qif)] []) (.v [.sel [4] [0]]))) S83_ (qbs (R:=R)) (fun f v KK=>f (v.l 0 0) (v.s 3 0) (qhc KK)) (by kernel_rfl) (by kernel_rfl) (fun _=>(by kernel_rfl)) rfl
def S84_:Shp:=⟨[(0,.one (.l (.sl 1))),(1,.one (.l .s))],[]⟩
def qlf (v0:LA)(v1:LU):Option Bool:=
 (qd0 v0 v1 fun v4q1 b0_0q2=>(some v4q1))
def qkq:=hull qlf
theorem q6y:qkq=qlf:=qa _
def qpz {R:Type}:EntF Tryz.prog R:=entB (nt:=8) (dec:=decB) (enc:=AV.bool) tabOk follows Tryz.func61 [.t 4] hdeB (.s .z (.s (.r [(2,.s (.sel [5,6] [0])),(2,.r qho)] []) .z)) S84_ qlf (fun f v=>f (v.l 0 0) (v.s 4 0))
def qbe8 {R:Type}(vs:LA)(m:Mem)(K:AV->Mem->Option R):Option R:=qtt 5 48 vs m K
theorem q1x {R:Type}:qjw Tryz.prog 100 (qbe8 (R:=R)):=qbd3 (ρ:=qx2 100 159 160 0 3 4 23 35) tabOk (qba2 follows "slices.Insert[[]ddi/api.Host,ddi/api.Host]" (by kernel_rfl) (by kernel_rfl) Tryz.func159 (by kernel_rfl) (by kernel_rfl) (by kernel_rfl) (by kernel_rfl) (by kernel_rfl) (by kernel_rfl) (by kernel_rfl) (by kernel_rfl) (by kernel_rfl) (by kernel_rfl) (by kernel_rfl) (by kernel_rfl) (by kernel_rfl) (by kernel_rfl) (by kernel_rfl) (by kernel_rfl) (by kernel_rfl)) (by kernel_rfl) (by kernel_rfl) (by decide) (by decide)
def S85_:Shp:=⟨[(0,.st [(.own 0),(.own 1),(.own 2)]),(1,.st (lk qm))],[.arr true 8,.arr true 5,.arr true 1]⟩
def q36:AV->Option (AV×Int):=decN [(.st [(.fr true 8),(.fr true 5),(.fr true 1)]),(.one (.i .i64))] fun z=>((gC (tpL z) 0),aI (gC (tpL z) 1))
def qlg (B7:LU)(B8:Bool)(B9 Ca Cb:Int)(a0 a1 a2:LA):Option (AV×Int):=
 (bif hd ([(.agg [(.str B7),(.bool B8),(.int .u64 B9),(.int .u64 Ca),(.int .i64 Cb)])]:List AV) (([(.agg [(.str B7),(.bool B8),(.int .u64 B9),(.int .u64 Ca),(.int .i64 Cb)])]:List AV).length)then(oB (qpm ([(.agg [(.str B7),(.bool B8),(.int .u64 B9),(.int .u64 Ca),(.int .i64 Cb)])]:List AV)) fun r1=>(bif(r1 != (0:Int))then(bif hd ([]:List AV) (([]:List AV).length)then(bif hd ([]:List AV) (([]:List AV).length)then(bif hd ([]:List AV) (([]:List AV).length)then(some ((.agg [(.fr true 8 ([]:List AV)),(.fr true 5 ([]:List AV)),(.fr true 1 ([]:List AV))]),r1))else none)else none)else none)else(bif hd a1 a1.length then(oB (qo5 a1 B7 B8 B9 Ca Cb) fun r2=>(bif r2.2 then(bif hd ([]:List AV) (([]:List AV).length)then(bif hd ([]:List AV) (([]:List AV).length)then(bif hd ([]:List AV) (([]:List AV).length)then(some ((.agg [(.fr true 8 ([]:List AV)),(.fr true 5 ([]:List AV)),(.fr true 1 ([]:List AV))]),(12:Int)))else none)else none)else none)else(bif(decide ((a1.length:Int)>=256))then(bif hd ([]:List AV) (([]:List AV).length)then(bif hd ([]:List AV) (([]:List AV).length)then(bif hd ([]:List AV) (([]:List AV).length)then(some ((.agg [(.fr true 8 ([]:List AV)),(.fr true 5 ([]:List AV)),(.fr true 1 ([]:List AV))]),(9:Int)))else none)else none)else none)else(bif hd a0 a0.length then(oB (qjh a0 B7 B8 B9 Ca Cb) fun r3=>(bif(!r3)then(bif hd ([]:List AV) (([]:List AV).length)then(bif hd ([]:List AV) (([]:List AV).length)then(bif hd ([]:List AV) (([]:List AV).length)then(some ((.agg [(.fr true 8 ([]:List AV)),(.fr true 5 ([]:List AV)),(.fr true 1 ([]:List AV))]),(25:Int)))else none)else none)else none)else(bif hd a2 a2.length then(oB (qkq a2 B7) fun r4=>(bif(!r4)then(bif hd ([]:List AV) (([]:List AV).length)then(bif hd ([]:List AV) (([]:List AV).length)then(bif hd ([]:List AV) (([]:List AV).length)then(some ((.agg [(.fr true 8 ([]:List AV)),(.fr true 5 ([]:List AV)),(.fr true 1 ([]:List AV))]),(13:Int)))else none)else none)else none)else(bif hd a1 a1.length then(bif hd ([(.agg [(.str B7),(.bool B8),(.int .u64 B9),(.int .u64 Ca),(.int .i64 Cb)])]:List AV) (([(.agg [(.str B7),(.bool B8),(.int .u64 B9),(.int .u64 Ca),(.int .i64 Cb)])]:List AV).length)then(oB (qkw 48 a1 r2.1 ([(.agg [(.str B7),(.bool B8),(.int .u64 B9),(.int .u64 Ca),(.int .i64 Cb)])]:List AV)) fun r5=>(bif hd a0 a0.length then(bif hd r5 r5.length then(bif hd a2 a2.length then(some ((.agg [(.fr true 8 a0),(.fr true 5 r5),(.fr true 1 a2)]),(0:Int)))else none)else none)else none))else none)else none)))else none)))else none))))else none)))else none)
def qsd:=hull qlg
theorem q6z:qsd=qlg:=qa _
def q8a {R:Type}:EatB Tryz.prog R:=eatB (nt:=55) (nb:=3) (dec:=q36) (enc:=(fun r=>.tup [qem (.st [(.fr true 8),(.fr true 5),(.fr true 1)]) r.1,.int .i64 r.2])) tabOk follows Tryz.func43 [(.cell 4 true 3),.t 5] (hdeN fun _=>rfl) (.s .z (.s (.s (.r [(2,.c qxj.b)] []) (.s .z (.s (.s .z (.v [.ownc 5 0 8,.ownc 5 1 5,.ownc 5 2 1])) .z))) (.s (.r [(3,.c qua.b)] []) (.s (.b (.s .z (.s (.s .z (.v [.ownc 5 0 8,.ownc 5 1 5,.ownc 5 2 1])) (.s .z (.s (.s .z (.v [.ownc 5 0 8,.ownc 5 1 5,.ownc 5 2 1])) (.s (.r [(3,.c qov.b)] []) (.s (.s .z (.v [.ownc 5 0 8,.ownc 5 1 5,.ownc 5 2 1])) (.s (.r [(4,.c qpz.b)] []) (.s (.s .z (.v [.ownc 5 0 8,.ownc 5 1 5,.ownc 5 2 1])) .z))))))))) (.s (.r [(5,.r (rB q1x))] []) .z))))) S85_ qlg (fun f v=>f (v.s 5 0) (v.b 5 1) (v.i 5 2) (v.i 5 3) (v.i 5 4) (v.r 0) (v.r 1) (v.r 2)) (by kernel_rfl) (by kernel_rfl) (by kernel_rfl) rfl
def qbe9 {R:Type}(vs:LA)(m:Mem)(K:AV->Mem->Option R):Option R:=qts 5 vs m K
theorem qbfa {R:Type}:qjw Tryz.prog 101 (qbe9 (R:=R)):=qbd2 (ρ:=qx1 101 0 3 4 23 35) tabOk (qba1 follows "slices.Delete[[]ddi/api.Host,ddi/api.Host]" (by kernel_rfl) (by kernel_rfl) (by kernel_rfl) (by kernel_rfl) (by kernel_rfl) (by kernel_rfl) (by kernel_rfl) (by kernel_rfl) (by kernel_rfl) (by kernel_rfl) (by kernel_rfl) (by kernel_rfl) (by kernel_rfl) (by kernel_rfl)) (by kernel_rfl) (by decide)
def qy9:AV->Option (AV×AV×Int):=decN [(.st [(.fr true 8),(.fr true 5),(.fr true 1)]),(.st [.s,.b,(.i .u64),(.i .u64),(.i .i64)]),(.one (.i .i64))] fun z=>((gC (tpL z) 0),(gC (tpL z) 1),aI (gC (tpL z) 2))
def qi5 (B7:LU)(B8:Bool)(B9 Ca Cb:Int)(a0 a1 a2:LA):Option (AV×AV×Int):=
 (bif hd a1 a1.length then(oB (qo5 a1 B7 B8 B9 Ca Cb) fun r1=>(bif(!r1.2)then(bif hd ([]:List AV) (([]:List AV).length)then(bif hd ([]:List AV) (([]:List AV).length)then(bif hd ([]:List AV) (([]:List AV).length)then(some ((.agg [(.fr true 8 ([]:List AV)),(.fr true 5 ([]:List AV)),(.fr true 1 ([]:List AV))]),(.agg [(.str ([]:List UInt8)),(.bool false),(.int .u64 (0:Int)),(.int .u64 (0:Int)),(.int .i64 (0:Int))]),(11:Int)))else none)else none)else none)else(bif hd a1 a1.length then(bif decide (0<=r1.1/\r1.1<a1.length)then(bif hd a1 a1.length then(oB (a1[r1.1.toNat]?) fun y2=>(oB (rdE y2 0 true 5) fun z3=>(bif fitV (.st qm) z3 then(bif hd a1 a1.length then(oB (qqr a1 r1.1 (IntKind.i64.wrap (r1.1+1))) fun r4=>(bif hd a0 a0.length then(bif hd r4 r4.length then(bif hd a2 a2.length then(some ((.agg [(.fr true 8 a0),(.fr true 5 r4),(.fr true 1 a2)]),(.agg [(.str (gS z3.cells 0)),(.bool (gB z3.cells 1)),(.int .u64 (gI z3.cells 2)),(.int .u64 (gI z3.cells 3)),(.int .i64 (gI z3.cells 4))]),(0:Int)))else none)else none)else none))else none)else none)))else none)else none)else none)))else none)
def qic:=hull qi5
theorem q0f:qic=qi5:=qa _
def qmk {R:Type}:EatB Tryz.prog R:=eatB (nt:=35) (nb:=3) (dec:=qy9) (enc:=(fun r=>.tup [qem (.st [(.fr true 8),(.fr true 5),(.fr true 1)]) r.1,qem (.st [.s,.b,(.i .u64),(.i .u64),(.i .i64)]) r.2.1,.int .i64 r.2.2])) tabOk follows Tryz.func44 [(.cell 4 true 3),(.cell 5 true 5),.t 6] (hdeN fun _=>rfl) (.s .z (.s (.r [(3,.c qua.b)] []) (.s (.s .z (.s (.s .z (.v [.ownc 5 0 8,.ownc 5 1 5,.ownc 5 2 1])) .z)) (.s (.r [(4,.p (.eta 25 (.st qm)))] []) (.s (.r [(5,.r (rB qbfa))] []) .z))))) S85_ qi5 (fun f v=>f (v.s 5 0) (v.b 5 1) (v.i 5 2) (v.i 5 3) (v.i 5 4) (v.r 0) (v.r 1) (v.r 2)) (by kernel_rfl) (by kernel_rfl) (by kernel_rfl) rfl
def qm4 (v0:LU):Option Bool:=
 (oB (qnn v0) fun r1=>(bif(decide ((r1.length:Int)>0))then(oB (ixB r1 (0:Int)) fun y2=>(bif fitC [.s] y2.cells then(some ((gS y2.cells 0)==([42]:List UInt8)))else none))else(some false)))
def qub:=hull qm4
theorem q8b:qub=qm4:=qa _
def q9l {R:Type}:EntF Tryz.prog R:=entB (nt:=15) (dec:=decB) (enc:=AV.bool) tabOk follows Tryz.func102 [.t 2] hdeB (.s .z (.s (.r [(1,.k qsc.b)] []) (.s (.r [(5,.p (.etac 11 [.s]))] []) .z))) S69_ qm4 (fun f v=>f (v.s 0 0))
def S86_:Shp:=⟨[(2,.one (.l .s)),(3,.one (.ptr 0 0)),(4,.one (.ptr 1 0)),(6,.one (.ptr 2 0)),(8,.one (.ptr 3 0))],[.box true [(.own 4),(.own 5),(.own 6)],.box true (lk qm),.box true [(.l .nil),(.l .nil),(.l .nil)],.box true (lk qm),.arr true 8,.arr true 5,.arr true 1]⟩
def S87_:Shp:=⟨[(0,.st (lk qby)),(1,.st (lk qm)),(2,.one (.l .s))],[]⟩
def qur:AV->Option (AV×Int):=decN [(.st [(.fr true 8),(.fr true 5),(.fr true 1)]),(.one (.i .i64))] fun z=>((gC (tpL z) 0),aI (gC (tpL z) 1))
def q0g (v2 Ad:LU)(Ae:Bool)(Af Ag Ah:Int)(Cf:LU)(Cg:Bool)(Ch Ci Cj:Int)(a4 a5 a6:LA)(K:Ex->Env->Mem->Option (AV×Int)):=(fun z_v30=>K .norm (qo [(2,(.str v2)),(3,(.ptr 0 0)),(4,(.ptr 1 0)),(6,(.ptr 2 0)),(8,(.ptr 3 0)),(30,(.bool z_v30))]) (qh [(some (.box true [(.own 4 a4.length),(.own 5 a5.length),(.own 6 a6.length)])),(some (.box true (qpl Ad Ae Af Ag Ah))),(some (.box true [.nils,.nils,.nils])),(some (.box true (qpl Cf Cg Ch Ci Cj))),(some (.arr true 8 a4)),(some (.arr true 5 a5)),(some (.arr true 1 a6))]))
def qi6 (v2 Ad:LU)(Ae:Bool)(Af Ag Ah:Int)(Cf:LU)(Cg:Bool)(Ch Ci Cj:Int)(a4 a5 a6:LA)(kn:Bool->Option (AV×Int)):Option (AV×Int):=
 (oB (qeu v2) fun r1=>(bif(!r1)then(kn true)else(oB (qub v2) fun r2=>(kn r2))))
def qus:=hull (qi6)
theorem q0h:qus=qi6:=qa _
def q2q:SubB Tryz.prog (TIof Tryz.prog) 63 0 (kret [(.cell 6 true 3),.t 7] qur):=jnB tabOk follows Tryz.f45 39 (.r [(1,.c qf1.b),(5,.c q9l.b)] [.sel [2,3,4,6,8,30] [0,1,2,3,4,5,6]]) S86_ (qi6) (fun f v K=>f (v.s 8 0) (v.s 7 0) (v.b 7 1) (v.i 7 2) (v.i 7 3) (v.i 7 4) (v.s 15 0) (v.b 15 1) (v.i 15 2) (v.i 15 3) (v.i 15 4) (v.r 4) (v.r 5) (v.r 6) (q0g (v.s 8 0) (v.s 7 0) (v.b 7 1) (v.i 7 2) (v.i 7 3) (v.i 7 4) (v.s 15 0) (v.b 15 1) (v.i 15 2) (v.i 15 3) (v.i 15 4) (v.r 4) (v.r 5) (v.r 6) K))
def qm5 (Aa Ab Ac:LA)(B7:LU)(B8:Bool)(B9 Ca Cb:Int)(v2:LU):Option (AV×Int):=
 (oB (qqz Aa Ab Ac) fun r1=>(bif hd (gL r1.cells 0) ((gL r1.cells 0).length)then(bif hd (gL r1.cells 1) ((gL r1.cells 1).length)then(bif hd (gL r1.cells 2) ((gL r1.cells 2).length)then(bif(hd (gL r1.cells 0) ((gL r1.cells 0).length)&&(hd (gL r1.cells 1) ((gL r1.cells 1).length)&&(hd (gL r1.cells 2) ((gL r1.cells 2).length)&&true)))then(oB (qic B7 B8 B9 Ca Cb (gL r1.cells 0) (gL r1.cells 1) (gL r1.cells 2)) fun r2=>(bif(r2.2.2 != (0:Int))then(bif hd ([]:List AV) (([]:List AV).length)then(bif hd ([]:List AV) (([]:List AV).length)then(bif hd ([]:List AV) (([]:List AV).length)then(some ((.agg [(.fr true 8 ([]:List AV)),(.fr true 5 ([]:List AV)),(.fr true 1 ([]:List AV))]),r2.2.2))else none)else none)else none)else(bif(hd (gL r2.1.cells 0) ((gL r2.1.cells 0).length)&&(hd (gL r2.1.cells 1) ((gL r2.1.cells 1).length)&&(hd (gL r2.1.cells 2) ((gL r2.1.cells 2).length)&&true)))then(qus v2 B7 B8 B9 Ca Cb (gS r2.2.1.cells 0) (gB r2.2.1.cells 1) (gI r2.2.1.cells 2) (gI r2.2.1.cells 3) (gI r2.2.1.cells 4) (gL r2.1.cells 0) (gL r2.1.cells 1) (gL r2.1.cells 2) (fun v30q3=>(bif v30q3 then(bif hd ([]:List AV) (([]:List AV).length)then(bif hd ([]:List AV) (([]:List AV).length)then(bif hd ([]:List AV) (([]:List AV).length)then(some ((.agg [(.fr true 8 ([]:List AV)),(.fr true 5 ([]:List AV)),(.fr true 1 ([]:List AV))]),(2:Int)))else none)else none)else none)else(bif hd (gL r2.1.cells 1) ((gL r2.1.cells 1).length)then(oB (qo5 (gL r2.1.cells 1) v2 (gB r2.2.1.cells 1) (gI r2.2.1.cells 2) (gI r2.2.1.cells 3) (gI r2.2.1.cells 4)) fun r4=>(bif(r4.2||(v2==B7))then(bif hd ([]:List AV) (([]:List AV).length)then(bif hd ([]:List AV) (([]:List AV).length)then(bif hd ([]:List AV) (([]:List AV).length)then(some ((.agg [(.fr true 8 ([]:List AV)),(.fr true 5 ([]:List AV)),(.fr true 1 ([]:List AV))]),(12:Int)))else none)else none)else none)else(bif hd (gL r2.1.cells 2) ((gL r2.1.cells 2).length)then(oB (qkq (gL r2.1.cells 2) v2) fun r5=>(bif(!r5)then(bif hd ([]:List AV) (([]:List AV).length)then(bif hd ([]:List AV) (([]:List AV).length)then(bif hd ([]:List AV) (([]:List AV).length)then(some ((.agg [(.fr true 8 ([]:List AV)),(.fr true 5 ([]:List AV)),(.fr true 1 ([]:List AV))]),(13:Int)))else none)else none)else none)else(bif hd (gL r2.1.cells 1) ((gL r2.1.cells 1).length)then(bif hd ([(.agg [(.str v2),(.bool (gB r2.2.1.cells 1)),(.int .u64 (gI r2.2.1.cells 2)),(.int .u64 (gI r2.2.1.cells 3)),(.int .i64 (gI r2.2.1.cells 4))])]:List AV) (([(.agg [(.str v2),(.bool (gB r2.2.1.cells 1)),(.int .u64 (gI r2.2.1.cells 2)),(.int .u64 (gI r2.2.1.cells 3)),(.int .i64 (gI r2.2.1.cells 4))])]:List AV).length)then(oB (qkw 48 (gL r2.1.cells 1) r4.1 ([(.agg [(.str v2),(.bool (gB r2.2.1.cells 1)),(.int .u64 (gI r2.2.1.cells 2)),(.int .u64 (gI r2.2.1.cells 3)),(.int .i64 (gI r2.2.1.cells 4))])]:List AV)) fun r6=>(bif hd (gL r2.1.cells 0) ((gL r2.1.cells 0).length)then(bif hd r6 r6.length then(bif hd (gL r2.1.cells 2) ((gL r2.1.cells 2).length)then(some ((.agg [(.fr true 8 (gL r2.1.cells 0)),(.fr true 5 r6),(.fr true 1 (gL r2.1.cells 2))]),(0:Int)))else none)else none)else none))else none)else none)))else none)))else none))))else none)))else none)else none)else none)else none))
def quc:=hull qm5
theorem q8c:quc=qm5:=qa _
def q9m {R:Type}:EntF Tryz.prog R:=entB (nt:=63) (dec:=qur) (enc:=(fun r=>.tup [qem (.st [(.fr true 8),(.fr true 5),(.fr true 1)]) r.1,.int .i64 r.2])) tabOk follows Tryz.func45 [(.cell 6 true 3),.t 7] (hdeN fun _=>rfl) (.s .z (.s (.d5 [] [(1,qvf.eat),(3,qmk)] [] []) (.s (.s .z (.s (.s .z (.v [.ownc 2 0 8,.ownc 2 1 5,.ownc 2 2 1])) .z)) (.s (.s (.sub [.sel [2,3,4,6,8] [0,1,2,9,6,7,8]] q2q []) (.s (.s .z (.v [.ownc 2 0 8,.ownc 2 1 5,.ownc 2 2 1])) .z)) (.s .z (.s (.s (.r [(3,.c qua.b)] []) (.s (.r [(2,.g 4)] []) (.s (.s .z (.v [.ownc 2 0 8,.ownc 2 1 5,.ownc 2 2 1])) (.s (.r [(3,.c qpz.b)] []) (.s (.s .z (.v [.ownc 2 0 8,.ownc 2 1 5,.ownc 2 2 1])) (.r [(5,.r (rB q1x))] [])))))) .z)))))) S87_ qm5 (fun f v=>f (v.l 1 0) (v.l 1 1) (v.l 1 2) (v.s 5 0) (v.b 5 1) (v.i 5 2) (v.i 5 3) (v.i 5 4) (v.s 8 0))
def S88_:Shp:=⟨[(2,.one (.ptr 0 0)),(4,.one (.ptr 1 0)),(8,.one (.l (.i .i64)))],[.box true (lk qby),.box true [(.l .nil),(.l .nil),(.l .nil)]]⟩
def S89_:Shp:=⟨[(2,.one (.ptr 0 0)),(3,.one (.ptr 1 0)),(4,.one (.ptr 2 0)),(8,.one (.l (.i .i64)))],[.box true [(.own 3),(.own 4),(.own 5)],.box true (lk qg5),.box true [(.l .nil),(.l .nil),(.l .nil)],.arr true 8,.arr true 5,.arr true 1]⟩
def S90_:Shp:=⟨[(0,.st (lk qby)),(1,.st (lk qg5))],[]⟩
def qp0:AV->Option (AV×Int):=decN [(.st [(.sl 8),(.sl 5),(.sl 1)]),(.one (.i .i64))] fun z=>((gC (tpL z) 0),aI (gC (tpL z) 1))
def q2r (v8:Int)(K:Ex->Env->Mem->Option (AV×Int)):=(fun z_v56 z_b0_0 z_b0_1 z_b0_2=>K .norm (qo [(2,(.ptr 0 0)),(4,(.ptr 1 0)),(8,(.int .i64 v8)),(56,(.bool z_v56))]) (qh [(some (.box true (qcg z_b0_0 z_b0_1 z_b0_2))),(some (.box true [.nils,.nils,.nils]))]))
def qjo (v8:Int)(Av Aw Ax:LA)(kn:Bool->(List AV)->(List AV)->(List AV)->Option (AV×Int)):Option (AV×Int):=
 (bif(v8==0)then(qcf Aw Av Aw Ax fun v4q1 b0_0q2 b0_1q3 b0_2q4=>(kn v4q1 b0_0q2 b0_1q3 b0_2q4))else(kn false Av Aw Ax))
def qvv:=hull (qjo)
theorem q2s:qvv=qjo:=qa _
def q37:SubB Tryz.prog (TIof Tryz.prog) 115 0 (kret [(.cell 4 true 3),.t 5] qp0):=jnB tabOk follows Tryz.f14 11183 (.r [(6,.s (.sel [2,4,8,51,53,54] [0,1])),(6,.r qg1)] [.sel [2,4,8,56] [0,1]]) S88_ (qjo) (fun f v K=>f (v.i 32 0) (v.l 3 0) (v.l 3 1) (v.l 3 2) (q2r (v.i 32 0) K))
def q2t (K:Ex->Env->Mem->Option (AV×Int)):=(fun z_v8 z_b0_0 z_b0_1 z_b0_2=>K .norm (qo [(2,(.ptr 0 0)),(4,(.ptr 1 0)),(8,(.int .i64 z_v8))]) (qh [(some (.box true (qcg z_b0_0 z_b0_1 z_b0_2))),(some (.box true [.nils,.nils,.nils]))]))
def qjp (v8 Ad:Int)(Ae:Bool)(Af Ag Ah Ai:Int)(Aj Ak:LU)(Al Am An:Int)(Ao:LU)(Ap:Bool)(Aq Ar As:Int)(At:LU)(a3 a4 a5:LA)(kn:Int->(List AV)->(List AV)->(List AV)->Option (AV×Int)):Option (AV×Int):=
 (bif(Ad==1)then(bif hd a3 a3.length then(oB (quu a3 Ae Af Ag Ah Ai Aj Ak Al) fun r1=>(bif hd a4 a4.length then(bif hd a5 a5.length then(kn r1.2 r1.1 a4 a5)else none)else none))else none)else(bif(Ad==2)then(bif hd a3 a3.length then(oB (qt4 a3 Ae Af Ag Ah) fun r2=>(bif hd a4 a4.length then(bif hd a5 a5.length then(qvv r2.2 r2.1 a4 a5 (fun v56q3 b0_0q4 b0_1q5 b0_2q6=>(bif v56q3 then(kn (25:Int) b0_0q4 b0_1q5 b0_2q6)else(kn r2.2 b0_0q4 b0_1q5 b0_2q6))))else none)else none))else none)else(bif(Ad==3)then(bif hd a3 a3.length then(oB (qke a3 Ae Af Ag Ah Am An Aj Ak) fun r7=>(bif hd a4 a4.length then(bif hd a5 a5.length then(kn r7.2.2 r7.1 a4 a5)else none)else none))else none)else(bif(Ad==4)then(bif hd a3 a3.length then(bif hd a4 a4.length then(bif hd a5 a5.length then(bif(hd a3 (a3.length)&&(hd a4 (a4.length)&&(hd a5 (a5.length)&&true)))then(oB (qsd Ao Ap Aq Ar As a3 a4 a5) fun r8=>(bif hd (gL r8.1.cells 0) ((gL r8.1.cells 0).length)then(bif hd (gL r8.1.cells 1) ((gL r8.1.cells 1).length)then(bif hd (gL r8.1.cells 2) ((gL r8.1.cells 2).length)then(kn r8.2 (gL r8.1.cells 0) (gL r8.1.cells 1) (gL r8.1.cells 2))else none)else none)else none))else none)else none)else none)else none)else(bif(Ad==5)then(bif hd a3 a3.length then(bif hd a4 a4.length then(bif hd a5 a5.length then(bif(hd a3 (a3.length)&&(hd a4 (a4.length)&&(hd a5 (a5.length)&&true)))then(oB (qic Ao Ap Aq Ar As a3 a4 a5) fun r9=>(bif hd (gL r9.1.cells 0) ((gL r9.1.cells 0).length)then(bif hd (gL r9.1.cells 1) ((gL r9.1.cells 1).length)then(bif hd (gL r9.1.cells 2) ((gL r9.1.cells 2).length)then(kn r9.2.2 (gL r9.1.cells 0) (gL r9.1.cells 1) (gL r9.1.cells 2))else none)else none)else none))else none)else none)else none)else none)else(bif(Ad==6)then(bif hd a3 a3.length then(bif hd a4 a4.length then(bif hd a5 a5.length then(oB (quc a3 a4 a5 Ao Ap Aq Ar As At) fun r10=>(kn r10.2 (gL r10.1.cells 0) (gL r10.1.cells 1) (gL r10.1.cells 2)))else none)else none)else none)else(bif hd a3 a3.length then(bif hd a4 a4.length then(bif hd a5 a5.length then(kn v8 a3 a4 a5)else none)else none)else none)))))))
def qvw:=hull (qjp)
theorem q2u:qvw=qjp:=qa _
def q38:SubB Tryz.prog (TIof Tryz.prog) 115 0 (kret [(.cell 4 true 3),.t 5] qp0):=jnB tabOk follows Tryz.f14 47 (.s .z (.b (.s .z (.s (.r [(4,.k q3j.b)] [.snapb 0,.sel [2,4,8] [0,2]]) (.s .z (.s (.s (.r [(5,.k q9a.b)] []) (.s (.sub [.snapb 0,.sel [2,4,8] [0,2]] q37 []) (.s (.v [.sel [2,4,8] [0,1]]) (.v [.sel [2,4,8] [0,1]])))) (.s .z (.s (.r [(15,.k qr2.b)] [.snapb 0,.sel [2,4,8] [0,2]]) (.s .z (.s (.r [(3,.r q8a.r)] [.snapb 0,.sel [2,4,8] [0,2]]) (.s .z (.s (.r [(3,.r qmk.r)] [.snapb 0,.sel [2,4,8] [0,2]]) (.s .z (.s (.r [(5,.k q9m.b)] [.sel [2,4,8] [0,2]]) (.v [.snapb 0,.sel [2,4,8] [0,2]]))))))))))))))) S89_ (qjp) (fun f v K=>f (v.i 32 0) (v.i 7 0) (v.b 7 1) (v.i 7 2) (v.i 7 3) (v.i 7 4) (v.i 7 5) (v.s 7 6) (v.s 7 7) (v.i 7 8) (v.i 7 9) (v.i 7 10) (v.s 7 11) (v.b 7 12) (v.i 7 13) (v.i 7 14) (v.i 7 15) (v.s 7 16) (v.r 3) (v.r 4) (v.r 5) (q2t K))
def qod (Aa Ab Ac:LA)(B7:Int)(B8:Bool)(B9 Ca Cb Cc:Int)(Cd Ce:LU)(C0 C1 C2:Int)(C3:LU)(C4:Bool)(C5 C6 C7:Int)(C8:LU):Option (AV×Int):=
 (oB (qye B7 B8 B9 Ca Cb Cc Cd Ce C0 C1 C2 C3 C4 C5 C6 C7 C8) fun r1=>(bif((!r1.2)||(!(((gI r1.1.cells 0)==B7)&&(((gB r1.1.cells 1)==B8)&&(((gI r1.1.cells 2)==B9)&&(((gI r1.1.cells 3)==Ca)&&(((gI r1.1.cells 4)==Cb)&&(((gI r1.1.cells 5)==Cc)&&(((gS r1.1.cells 6)==Cd)&&(((gS r1.1.cells 7)==Ce)&&(((gI r1.1.cells 8)==C0)&&(((gI r1.1.cells 9)==C1)&&(((gI r1.1.cells 10)==C2)&&(((gS r1.1.cells 11)==C3)&&(((gB r1.1.cells 12)==C4)&&(((gI r1.1.cells 13)==C5)&&(((gI r1.1.cells 14)==C6)&&(((gI r1.1.cells 15)==C7)&&(((gS r1.1.cells 16)==C8)&&true)))))))))))))))))))then(some ((.agg [(.sl 8 ([]:List AV)),(.sl 5 ([]:List AV)),(.sl 1 ([]:List AV))]),(1:Int)))else(oB (qqz Aa Ab Ac) fun r2=>(bif(hd (gL r2.cells 0) ((gL r2.cells 0).length)&&(hd (gL r2.cells 1) ((gL r2.cells 1).length)&&(hd (gL r2.cells 2) ((gL r2.cells 2).length)&&true)))then(qvw (0:Int) B7 B8 B9 Ca Cb Cc Cd Ce C0 C1 C2 C3 C4 C5 C6 C7 C8 (gL r2.cells 0) (gL r2.cells 1) (gL r2.cells 2) (fun v8q3 b0_0q4 b0_1q5 b0_2q6=>(bif(v8q3 != (0:Int))then(some ((.agg [(.sl 8 ([]:List AV)),(.sl 5 ([]:List AV)),(.sl 1 ([]:List AV))]),v8q3))else(some ((.agg [(.sl 8 b0_0q4),(.sl 5 b0_1q5),(.sl 1 b0_2q6)]),(0:Int))))))else none))))
def qdv:=hull qod
theorem q9n:qdv=qod:=qa _
def qkr {R:Type}:EntF Tryz.prog R:=entB (nt:=115) (dec:=qp0) (enc:=(fun r=>.tup [qem (.st [(.sl 8),(.sl 5),(.sl 1)]) r.1,.int .i64 r.2])) tabOk follows Tryz.func14 [(.cell 4 true 3),.t 5] (hdeN fun _=>rfl) (.s .z (.s (.s (.r [(1,.c qbet.b)] []) (.s (.r [(3,.g 3)] []) (.s (.s .z (.v [.nilc 2 0 8,.nilc 2 1 5,.nilc 2 2 1])) .z))) (.s (.r [(1,.c qvf.b)] []) (.s .z (.s (.sub [.sel [2,3,4,8] [0,1,2,4,5,6]] q38 []) (.s (.s .z (.s (.s .z (.v [.nilc 1 0 8,.nilc 1 1 5,.nilc 1 2 1])) .z)) .z)))))) S90_ qod (fun f v=>f (v.l 1 0) (v.l 1 1) (v.l 1 2) (v.i 5 0) (v.b 5 1) (v.i 5 2) (v.i 5 3) (v.i 5 4) (v.i 5 5) (v.s 5 6) (v.s 5 7) (v.i 5 8) (v.i 5 9) (v.i 5 10) (v.s 5 11) (v.b 5 12) (v.i 5 13) (v.i 5 14) (v.i 5 15) (v.s 5 16))
def qjq (Aa Ab Ac:LA)(B7:Int)(B8:Bool)(B9 Ca Cb Cc:Int)(Cd Ce:LU)(C0 C1 C2:Int)(C3:LU)(C4:Bool)(C5 C6 C7:Int)(C8:LU):Option AV:=
 (oB (qke Aa B8 B9 Ca Cb C1 C2 Cd Ce) fun r1=>(oB (ql2 r1.1 (gB r1.2.1.cells 0) (gI r1.2.1.cells 1) (gI r1.2.1.cells 2) (gI r1.2.1.cells 3)) fun r2=>(some (.agg [(.bool (gB r2.1.cells 0)),(.int .u64 (gI r2.1.cells 1)),(.int .u64 (gI r2.1.cells 2)),(.int .i64 (gI r2.1.cells 3)),(.int .i64 (gI r2.1.cells 4)),(.str (gS r2.1.cells 5)),(.str (gS r2.1.cells 6)),(.int .i64 (gI r2.1.cells 7))]))))
def qp1:=hull qjq
theorem q2v:qp1=qjq:=qa _
def q39 {R:Type}:EntF Tryz.prog R:=entB (nt:=37) (dec:=(decT [.b,(.i .u64),(.i .u64),(.i .i64),(.i .i64),.s,.s,(.i .i64)])) (enc:=(qem (.st [.b,(.i .u64),(.i .u64),(.i .i64),(.i .i64),.s,.s,(.i .i64)]))) tabOk follows Tryz.func52 [(.cell 4 true 8)] hdeT (.s .z (.s (.r [(15,.k qr2.b)] []) (.s (.r [(2,.c qpf.b)] []) .z))) S90_ qjq (fun f v=>f (v.l 1 0) (v.l 1 1) (v.l 1 2) (v.i 5 0) (v.b 5 1) (v.i 5 2) (v.i 5 3) (v.i 5 4) (v.i 5 5) (v.s 5 6) (v.s 5 7) (v.i 5 8) (v.i 5 9) (v.i 5 10) (v.s 5 11) (v.b 5 12) (v.i 5 13) (v.i 5 14) (v.i 5 15) (v.s 5 16))
def q4a:AV->Option (AV×Int):=decN [(.st [(.i .i64),.b,(.i .u64),(.i .u64),(.i .i64),(.i .i64),.s,.s,(.i .i64),(.i .i64),(.i .i64),.s,.b,(.i .u64),(.i .u64),(.i .i64),.s]),(.one (.i .i64))] fun z=>((gC (tpL z) 0),aI (gC (tpL z) 1))
def qiw (Aa Ab Ac:LA)(B7:Int)(B8:Bool)(B9 Ca Cb Cc:Int)(Cd Ce:LU)(C0 C1 C2:Int)(C3:LU)(C4:Bool)(C5 C6 C7:Int)(C8:LU):Option (AV×Int):=
 (oB (qdv Aa Ab Ac B7 B8 B9 Ca Cb Cc Cd Ce C0 C1 C2 C3 C4 C5 C6 C7 C8) fun r1=>(bif(r1.2 != (0:Int))then(some ((.agg [(.int .i64 (0:Int)),(.bool false),(.int .u64 (0:Int)),(.int .u64 (0:Int)),(.int .i64 (0:Int)),(.int .i64 (0:Int)),(.str ([]:List UInt8)),(.str ([]:List UInt8)),(.int .i64 (0:Int)),(.int .i64 (0:Int)),(.int .i64 (0:Int)),(.str ([]:List UInt8)),(.bool false),(.int .u64 (0:Int)),(.int .u64 (0:Int)),(.int .i64 (0:Int)),(.str ([]:List UInt8))]),r1.2))else(bif(B7==1)then(some ((.agg [(.int .i64 (2:Int)),(.bool B8),(.int .u64 B9),(.int .u64 Ca),(.int .i64 Cb),(.int .i64 (0:Int)),(.str ([]:List UInt8)),(.str ([]:List UInt8)),(.int .i64 (0:Int)),(.int .i64 (0:Int)),(.int .i64 (0:Int)),(.str ([]:List UInt8)),(.bool false),(.int .u64 (0:Int)),(.int .u64 (0:Int)),(.int .i64 (0:Int)),(.str ([]:List UInt8))]),(0:Int)))else(bif(B7==2)then(oB (ql2 Aa B8 B9 Ca Cb) fun r2=>(some ((.agg [(.int .i64 (1:Int)),(.bool (gB r2.1.cells 0)),(.int .u64 (gI r2.1.cells 1)),(.int .u64 (gI r2.1.cells 2)),(.int .i64 (gI r2.1.cells 3)),(.int .i64 (gI r2.1.cells 4)),(.str (gS r2.1.cells 5)),(.str (gS r2.1.cells 6)),(.int .i64 (gI r2.1.cells 7)),(.int .i64 (0:Int)),(.int .i64 (0:Int)),(.str ([]:List UInt8)),(.bool false),(.int .u64 (0:Int)),(.int .u64 (0:Int)),(.int .i64 (0:Int)),(.str ([]:List UInt8))]),(0:Int))))else(bif(B7==3)then(oB (qp1 Aa Ab Ac B7 B8 B9 Ca Cb Cc Cd Ce C0 C1 C2 C3 C4 C5 C6 C7 C8) fun r3=>(some ((.agg [(.int .i64 (2:Int)),(.bool (gB r3.cells 0)),(.int .u64 (gI r3.cells 1)),(.int .u64 (gI r3.cells 2)),(.int .i64 (gI r3.cells 3)),(.int .i64 (0:Int)),(.str ([]:List UInt8)),(.str ([]:List UInt8)),(.int .i64 (0:Int)),(.int .i64 (0:Int)),(.int .i64 (0:Int)),(.str ([]:List UInt8)),(.bool false),(.int .u64 (0:Int)),(.int .u64 (0:Int)),(.int .i64 (0:Int)),(.str ([]:List UInt8))]),(0:Int))))else(bif(B7==4)then(some ((.agg [(.int .i64 (5:Int)),(.bool false),(.int .u64 (0:Int)),(.int .u64 (0:Int)),(.int .i64 (0:Int)),(.int .i64 (0:Int)),(.str ([]:List UInt8)),(.str ([]:List UInt8)),(.int .i64 (0:Int)),(.int .i64 (0:Int)),(.int .i64 (0:Int)),(.str C3),(.bool C4),(.int .u64 C5),(.int .u64 C6),(.int .i64 (0:Int)),(.str ([]:List UInt8))]),(0:Int)))else(bif(B7==5)then(oB (qqz Aa Ab Ac) fun r4=>(bif hd (gL r4.cells 0) ((gL r4.cells 0).length)then(bif hd (gL r4.cells 1) ((gL r4.cells 1).length)then(bif hd (gL r4.cells 2) ((gL r4.cells 2).length)then(bif(hd (gL r4.cells 0) ((gL r4.cells 0).length)&&(hd (gL r4.cells 1) ((gL r4.cells 1).length)&&(hd (gL r4.cells 2) ((gL r4.cells 2).length)&&true)))then(oB (qic C3 C4 C5 C6 C7 (gL r4.cells 0) (gL r4.cells 1) (gL r4.cells 2)) fun r5=>(some ((.agg [(.int .i64 (4:Int)),(.bool false),(.int .u64 (0:Int)),(.int .u64 (0:Int)),(.int .i64 (0:Int)),(.int .i64 (0:Int)),(.str ([]:List UInt8)),(.str ([]:List UInt8)),(.int .i64 (0:Int)),(.int .i64 (0:Int)),(.int .i64 (0:Int)),(.str (gS r5.2.1.cells 0)),(.bool (gB r5.2.1.cells 1)),(.int .u64 (gI r5.2.1.cells 2)),(.int .u64 (gI r5.2.1.cells 3)),(.int .i64 (gI r5.2.1.cells 4)),(.str ([]:List UInt8))]),(0:Int))))else none)else none)else none)else none))else(some ((.agg [(.int .i64 (6:Int)),(.bool false),(.int .u64 (0:Int)),(.int .u64 (0:Int)),(.int .i64 (0:Int)),(.int .i64 (0:Int)),(.str ([]:List UInt8)),(.str ([]:List UInt8)),(.int .i64 (0:Int)),(.int .i64 (0:Int)),(.int .i64 (0:Int)),(.str C8),(.bool C4),(.int .u64 C5),(.int .u64 C6),(.int .i64 (0:Int)),(.str C3)]),(0:Int))))))))))
def qir:=hull qiw
theorem qut:qir=qiw:=qa _
def qvx {R:Type}:EntF Tryz.prog R:=entB (nt:=86) (dec:=q4a) (enc:=(fun r=>.tup [qem (.st [(.i .i64),.b,(.i .u64),(.i .u64),(.i .i64),(.i .i64),.s,.s,(.i .i64),(.i .i64),(.i .i64),.s,.b,(.i .u64),(.i .u64),(.i .i64),.s]) r.1,.int .i64 r.2])) tabOk follows Tryz.func17 [(.cell 4 true 17),.t 5] (hdeN fun _=>rfl) (.s .z (.s (.s (.r [(2,.k qkr.b)] []) .z) (.s (.s .z (.b (.s .z (.s .z (.s .z (.s (.s (.r [(5,.c qpf.b)] []) .z) (.s .z (.s (.s (.r [(2,.c q39.b)] []) .z) (.s .z (.s .z (.s .z (.s (.s (.d5 [] [(1,qvf.eat),(4,qmk)] [] []) .z) .z)))))))))))) .z))) S90_ qiw (fun f v=>f (v.l 1 0) (v.l 1 1) (v.l 1 2) (v.i 5 0) (v.b 5 1) (v.i 5 2) (v.i 5 3) (v.i 5 4) (v.i 5 5) (v.s 5 6) (v.s 5 7) (v.i 5 8) (v.i 5 9) (v.i 5 10) (v.s 5 11) (v.b 5 12) (v.i 5 13) (v.i 5 14) (v.i 5 15) (v.s 5 16))
end
end Go.Proofs.YtoaaphlopbabeaaGreatDoor.Dn
