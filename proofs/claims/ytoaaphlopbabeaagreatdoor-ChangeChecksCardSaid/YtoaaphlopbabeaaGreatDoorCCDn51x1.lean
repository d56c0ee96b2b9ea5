import Derived.Test.YtoaaphlopbabeaaGreatDoorProg
import Derived.Test.YtoaaphlopbabeaaGreatDoorCCLibD
set_option linter.all false
namespace Go.Proofs.YtoaaphlopbabeaaGreatDoor.Dn
open Go Go.Pev
set_option maxRecDepth 100000
set_option maxHeartbeats 4000000
theorem zT:True:=True.intro
theorem zA {a b:Prop}(x:a)(y:b):a/\b:=⟨x,y⟩
theorem tabOk:Tab.ok (TIof Tryz.prog) Tryz.prog:=fun _ _ h=>h
theorem follows:Tryz.prog.follows .mixedOrders=true:=by kernel_rfl
def qdu:List LT:=[(.sl 8),(.sl 5),(.sl 1)]
def S0_:Shp:=⟨[(0,.st (lk qdu)),(1,.one (.l (.sl 17)))],[]⟩
noncomputable section
def qqm (Aa Ab Ac v1:LA):Option Bool:=
 (some ((((decide ((Aa.length:Int)>40))||(decide ((Ab.length:Int)>40)))||(decide ((Ac.length:Int)>40)))||(decide ((v1.length:Int)>68))))
def qsx:=hull qqm
theorem q7i:qsx=qqm:=qa _
def qbas {R:Type}:EntF Tryz.prog R:=entB (nt:=26) (dec:=decB) (enc:=AV.bool) tabOk follows Tryz.func11 [.t 4] hdeB (.s .z (.s (.r [(5,.g 4),(11,.g 4),(17,.g 3)] []) .z)) S0_ qqm (fun f v=>f (v.l 1 0) (v.l 1 1) (v.l 1 2) (v.l 4 0))
def S1_:Shp:=⟨[(0,.one (.l (.i .i64)))],[]⟩
def quh (v0:Int):Option AV:=
 (some (.agg [(.bool false),(.int .u64 (0:Int)),(.int .u64 (167772160:Int)),(.int .i64 v0)]))
def qsy:=hull quh
theorem qbel:qsy=quh:=qa _
def q1r {R:Type}:EntF Tryz.prog R:=entB (nt:=6) (dec:=(decT [.b,(.i .u64),(.i .u64),(.i .i64)])) (enc:=(qd4 (.st [.b,(.i .u64),(.i .u64),(.i .i64)]))) tabOk follows Tryz.func34 [(.cell 2 true 4)] hdeT (.z) S1_ quh (fun f v=>f (v.i 0 0))
def qlp:List LT:=[(.i .i64),.b,(.i .u64),(.i .u64),(.i .i64),(.i .i64),.s,.s,(.i .i64),(.i .i64),(.i .i64),.s,.b,(.i .u64),(.i .u64),(.i .i64),.s]
def qz3 (x0:Int)(x1:Bool)(x2 x3 x4 x5:Int)(x6 x7:LU)(x8 x9 x10:Int)(x11:LU)(x12:Bool)(x13 x14 x15:Int)(x16:LU):List AV:=[.int .i64 x0,.bool x1,.int .u64 x2,.int .u64 x3,.int .i64 x4,.int .i64 x5,.str x6,.str x7,.int .i64 x8,.int .i64 x9,.int .i64 x10,.str x11,.bool x12,.int .u64 x13,.int .u64 x14,.int .i64 x15,.str x16]
def S2_:Shp:=⟨[(1,.one (.ptr 0 0)),(2,.one (.ptr 1 0)),(4,.one (.ptr 2 0))],[.box true (lk qlp),.box true (lk qlp),.box true (lk qlp)]⟩
def S3_:Shp:=⟨[(0,.st (lk qlp))],[]⟩
def qz4:AV->Option (AV×Bool):=decN [(.st [(.i .i64),.b,(.i .u64),(.i .u64),(.i .i64),(.i .i64),.s,.s,(.i .i64),(.i .i64),(.i .i64),.s,.b,(.i .u64),(.i .u64),(.i .i64),.s]),(.one .b)] fun z=>((gC (tpL z) 0),aB (gC (tpL z) 1))
def qbat (Ad:Int)(Ae:Bool)(Af Ag Ah Ai:Int)(Aj Ak:LU)(Al Am An:Int)(Ao:LU)(Ap:Bool)(Aq Ar As:Int)(At:LU)(Au:Int)(K:Ex->Env->Mem->Option (AV×Bool)):=(fun z_b1_1 z_b1_2 z_b1_3 z_b1_4 z_b1_5 z_b1_6 z_b1_7 z_b1_8 z_b1_9 z_b1_10 z_b1_11 z_b1_12 z_b1_13 z_b1_14 z_b1_15 z_b1_16=>K .norm (qk [(2,(.ptr 0 0)),(4,(.ptr 1 0))]) (qh [(some (.box true (qz3 Ad Ae Af Ag Ah Ai Aj Ak Al Am An Ao Ap Aq Ar As At))),(some (.box true (qz3 Au z_b1_1 z_b1_2 z_b1_3 z_b1_4 z_b1_5 z_b1_6 z_b1_7 z_b1_8 z_b1_9 z_b1_10 z_b1_11 z_b1_12 z_b1_13 z_b1_14 z_b1_15 z_b1_16)))]))
def ql5 (Av:Int)(Aw:Bool)(Ax Ay Az A0:Int)(A1 A2:LU)(A3 A4 A5:Int)(A6:LU)(A7:Bool)(A8 A9 Ba:Int)(Bb:LU)(Ad:Int)(Ae:Bool)(Af Ag Ah Ai:Int)(Aj Ak:LU)(Al Am An:Int)(Ao:LU)(Ap:Bool)(Aq Ar As:Int)(At:LU)(Au:Int)(Bc:Bool)(Bd Be Bf Bg:Int)(Bh Bi:LU)(Bj Bl Bm:Int)(Bn:LU)(Bo:Bool)(Bp Bq Br:Int)(Bs:LU)(kn:Bool->Int->Int->Int->Int->(List UInt8)->(List UInt8)->Int->Int->Int->(List UInt8)->Bool->Int->Int->Int->(List UInt8)->Option (AV×Bool)):Option (AV×Bool):=
 (bif(Av==1)then(kn Aw Ax Ay Az A0 A1 A2 A3 Bl Bm Bn Bo Bp Bq Br Bs)else(bif(Av==2)then(kn Aw Ax Ay Az Bg Bh Bi Bj Bl Bm Bn Bo Bp Bq Br Bs)else(bif(Av==3)then(kn Aw Ax Ay Az (0:Int) A1 A2 (0:Int) A4 A5 Bn Bo Bp Bq Br Bs)else(bif(Av==4)then(kn Bc Bd Be Bf Bg Bh Bi Bj Bl Bm A6 A7 A8 A9 Ba Bs)else(bif(Av==5)then(kn Bc Bd Be Bf Bg Bh Bi Bj Bl Bm A6 A7 A8 A9 (0:Int) Bs)else(bif(Av==6)then(kn Bc Bd Be Bf Bg Bh Bi Bj Bl Bm A6 A7 A8 A9 (0:Int) Bb)else(some ((.agg [(.int .i64 Au),(.bool Bc),(.int .u64 Bd),(.int .u64 Be),(.int .i64 Bf),(.int .i64 Bg),(.str Bh),(.str Bi),(.int .i64 Bj),(.int .i64 Bl),(.int .i64 Bm),(.str Bn),(.bool Bo),(.int .u64 Bp),(.int .u64 Bq),(.int .i64 Br),(.str Bs)]),false))))))))
def q1s:=hull (ql5)
theorem qbau:q1s=ql5:=qa _
def qbcy:SubB Tryz.prog (TIof Tryz.prog) 71 0 (kret [(.cell 2 true 17),.t 3] qz4):=jnB tabOk follows Tryz.f35 11 (.s .z (.b (.s .z (.s (.v [.sel [2,4] [1,2]]) (.s .z (.s (.v [.sel [2,4] [1,2]]) (.s .z (.s (.s .z (.d [] [] [] [.sel [2,4] [1,2]])) (.s .z (.s (.v [.sel [2,4] [1,2]]) (.s .z (.s (.v [.sel [2,4] [1,2]]) (.s .z (.s (.s .z (.v [.sel [2,4] [1,2]])) .z)))))))))))))) S2_ (ql5) (fun f v K=>f (v.i 3 0) (v.b 3 1) (v.i 3 2) (v.i 3 3) (v.i 3 4) (v.i 3 5) (v.s 3 6) (v.s 3 7) (v.i 3 8) (v.i 3 9) (v.i 3 10) (v.s 3 11) (v.b 3 12) (v.i 3 13) (v.i 3 14) (v.i 3 15) (v.s 3 16) (v.i 7 0) (v.b 7 1) (v.i 7 2) (v.i 7 3) (v.i 7 4) (v.i 7 5) (v.s 7 6) (v.s 7 7) (v.i 7 8) (v.i 7 9) (v.i 7 10) (v.s 7 11) (v.b 7 12) (v.i 7 13) (v.i 7 14) (v.i 7 15) (v.s 7 16) (v.i 11 0) (v.b 11 1) (v.i 11 2) (v.i 11 3) (v.i 11 4) (v.i 11 5) (v.s 11 6) (v.s 11 7) (v.i 11 8) (v.i 11 9) (v.i 11 10) (v.s 11 11) (v.b 11 12) (v.i 11 13) (v.i 11 14) (v.i 11 15) (v.s 11 16) (qbat (v.i 7 0) (v.b 7 1) (v.i 7 2) (v.i 7 3) (v.i 7 4) (v.i 7 5) (v.s 7 6) (v.s 7 7) (v.i 7 8) (v.i 7 9) (v.i 7 10) (v.s 7 11) (v.b 7 12) (v.i 7 13) (v.i 7 14) (v.i 7 15) (v.s 7 16) (v.i 11 0) K))
def qrb (Aa:Int)(Ab:Bool)(Ac Bt Bu Bv:Int)(Bw Bx:LU)(By Bz B0:Int)(B1:LU)(B2:Bool)(B3 B4 B5:Int)(B6:LU):Option (AV×Bool):=
 (q1s Aa Ab Ac Bt Bu Bv Bw Bx By Bz B0 B1 B2 B3 B4 B5 B6 (0:Int) false (0:Int) (0:Int) (0:Int) (0:Int) ([]:List UInt8) ([]:List UInt8) (0:Int) (0:Int) (0:Int) ([]:List UInt8) false (0:Int) (0:Int) (0:Int) ([]:List UInt8) Aa false (0:Int) (0:Int) (0:Int) (0:Int) ([]:List UInt8) ([]:List UInt8) (0:Int) (0:Int) (0:Int) ([]:List UInt8) false (0:Int) (0:Int) (0:Int) ([]:List UInt8) (fun b1_1q1 b1_2q2 b1_3q3 b1_4q4 b1_5q5 b1_6q6 b1_7q7 b1_8q8 b1_9q9 b1_10q10 b1_11q11 b1_12q12 b1_13q13 b1_14q14 b1_15q15 b1_16q16=>(some ((.agg [(.int .i64 Aa),(.bool b1_1q1),(.int .u64 b1_2q2),(.int .u64 b1_3q3),(.int .i64 b1_4q4),(.int .i64 b1_5q5),(.str b1_6q6),(.str b1_7q7),(.int .i64 b1_8q8),(.int .i64 b1_9q9),(.int .i64 b1_10q10),(.str b1_11q11),(.bool b1_12q12),(.int .u64 b1_13q13),(.int .u64 b1_14q14),(.int .i64 b1_15q15),(.str b1_16q16)]),true))))
def q1b:=hull qrb
theorem qbhd:q1b=qrb:=qa _
def qbj2 {R:Type}:EntF Tryz.prog R:=entB (nt:=71) (dec:=qz4) (enc:=(fun r=>.tup [qd4 (.st [(.i .i64),.b,(.i .u64),(.i .u64),(.i .i64),(.i .i64),.s,.s,(.i .i64),(.i .i64),(.i .i64),.s,.b,(.i .u64),(.i .u64),(.i .i64),.s]) r.1,.bool r.2])) tabOk follows Tryz.func35 [(.cell 2 true 17),.t 3] (hdeN fun _=>rfl) (.s .z (.s .z (.s (.sub [.sel [1,2,4] [0,1,2]] qbcy []) .z))) S3_ qrb (fun f v=>f (v.i 1 0) (v.b 1 1) (v.i 1 2) (v.i 1 3) (v.i 1 4) (v.i 1 5) (v.s 1 6) (v.s 1 7) (v.i 1 8) (v.i 1 9) (v.i 1 10) (v.s 1 11) (v.b 1 12) (v.i 1 13) (v.i 1 14) (v.i 1 15) (v.s 1 16))
def qr (l:LA):Option (List AV):=qwd 80 l
def qno {R:Type}(xs:LA)(K:AV->Option R):Option R:=qt6 8 80 xs K
theorem qd6 {R:Type}:qg1 Tryz.prog 87 (qno (R:=R)):=qbh6 (ρ:=qzf 87 4 22 33) tabOk (q90 follows "slices.Clone[[]ddi/api.Block,ddi/api.Block]" (by kernel_rfl) (by kernel_rfl) (by kernel_rfl) (by kernel_rfl) (by kernel_rfl) (by kernel_rfl) (by kernel_rfl) (by kernel_rfl)) (by kernel_rfl) (by decide) (by decide)
def qjg (l:LA):Option (List AV):=qwd 48 l
def qo1 {R:Type}(xs:LA)(K:AV->Option R):Option R:=qt6 5 48 xs K
theorem qqn {R:Type}:qg1 Tryz.prog 88 (qo1 (R:=R)):=qbh6 (ρ:=qzf 88 4 23 35) tabOk (q90 follows "slices.Clone[[]ddi/api.Host,ddi/api.Host]" (by kernel_rfl) (by kernel_rfl) (by kernel_rfl) (by kernel_rfl) (by kernel_rfl) (by kernel_rfl) (by kernel_rfl) (by kernel_rfl)) (by kernel_rfl) (by decide) (by decide)
def qlq (l:LA):Option (List AV):=qwd 16 l
def qr0 {R:Type}(xs:LA)(K:AV->Option R):Option R:=qt6 1 16 xs K
theorem qsz {R:Type}:qg1 Tryz.prog 89 (qr0 (R:=R)):=qbh6 (ρ:=qzf 89 4 24 9) tabOk (q90 follows "slices.Clone[[]string,string]" (by kernel_rfl) (by kernel_rfl) (by kernel_rfl) (by kernel_rfl) (by kernel_rfl) (by kernel_rfl) (by kernel_rfl) (by kernel_rfl)) (by kernel_rfl) (by decide) (by decide)
def S4_:Shp:=⟨[(0,.st (lk qdu))],[]⟩
def qs0 (Aa Ab Ac:LA):Option AV:=
 (oB (qr Aa) fun r1=>(oB (qjg Ab) fun r2=>(oB (qlq Ac) fun r3=>(bif hd r1 r1.length then(bif hd r2 r2.length then(bif hd r3 r3.length then(some (.agg [(.fr true 8 r1),(.fr true 5 r2),(.fr true 1 r3)]))else none)else none)else none))))
def qs1:=hull qs0
theorem qbj3:qs1=qs0:=qa _
def qx4 {R:Type}:EntF Tryz.prog R:=entB (nt:=13) (dec:=(decT [(.fr true 8),(.fr true 5),(.fr true 1)])) (enc:=(qd4 (.st [(.fr true 8),(.fr true 5),(.fr true 1)]))) tabOk follows Tryz.func36 [(.cell 2 true 3)] hdeT (.s .z (.s (.d3 [] [5,8] [(2,.c (eB qd6)),(5,.c (eB qqn))] [(0,.c (eB qsz))] []) .z)) S4_ qs0 (fun f v=>f (v.l 1 0) (v.l 1 1) (v.l 1 2))
def qee:List LT:=[.b,(.i .u64),(.i .u64)]
def S5_:Shp:=⟨[(0,.st (lk qee))],[]⟩
def qs2 (Aa:Bool)(Ab Ac:Int):Option Bool:=
 (bif Aa then(some true)else(bif(Ab==0)then(some (decide (Ac<=4294967295)))else(some false)))
def qs3:=hull qs2
theorem qbj4:qs3=qs2:=qa _
def qx5 {R:Type}:EntF Tryz.prog R:=entB (nt:=15) (dec:=decB) (enc:=AV.bool) tabOk follows Tryz.func167 [.t 2] hdeB (.z) S5_ qs2 (fun f v=>f (v.b 1 0) (v.i 1 1) (v.i 1 2))
def qn2 (Aa:Bool)(Ab Ac:Int):Option Int:=
 (bif Aa then(some (128:Int))else(some (32:Int)))
def qjy:=hull qn2
theorem qbcz:qjy=qn2:=qa _
def qn3 {R:Type}:EntF Tryz.prog R:=entB (nt:=5) (dec:=(decI .i64)) (enc:=(AV.int .i64)) tabOk follows Tryz.func174 [.t 2] hdeI (.z) S5_ qn2 (fun f v=>f (v.b 1 0) (v.i 1 1) (v.i 1 2))
def S6_:Shp:=⟨[(0,.one (.l .b)),(1,.one (.l (.i .i64)))],[]⟩
def qbc0:AV->Option (Int×Int):=decN [(.one (.i .u64)),(.one (.i .u64))] fun z=>(aI (gC (tpL z) 0),aI (gC (tpL z) 1))
def qlr (v0:Bool)(v1:Int):Option (Int×Int):=
 (bif(!v0)then(bif decide ((IntKind.u64.wrap (IntKind.i64.wrap ((32:Int)-v1)))<0)then none else(some ((0:Int),(IntKind.u64.wrap ((IntKind.u64.wrap ((1:Int)*2^min (IntKind.u64.wrap (IntKind.i64.wrap ((32:Int)-v1))).toNat IntKind.u64.bits))-1)))))else(bif(decide (v1>=64))then(bif decide ((IntKind.u64.wrap (IntKind.i64.wrap ((128:Int)-v1)))<0)then none else(some ((0:Int),(IntKind.u64.wrap ((IntKind.u64.wrap ((1:Int)*2^min (IntKind.u64.wrap (IntKind.i64.wrap ((128:Int)-v1))).toNat IntKind.u64.bits))-1)))))else(bif decide ((IntKind.u64.wrap (IntKind.i64.wrap ((64:Int)-v1)))<0)then none else(some ((IntKind.u64.wrap ((IntKind.u64.wrap ((1:Int)*2^min (IntKind.u64.wrap (IntKind.i64.wrap ((64:Int)-v1))).toNat IntKind.u64.bits))-1)),(18446744073709551615:Int))))))
def qs4:=hull qlr
theorem qbem:qs4=qlr:=qa _
def q1t {R:Type}:EntF Tryz.prog R:=entB (nt:=25) (dec:=qbc0) (enc:=(fun r=>.tup [.int .u64 r.1,.int .u64 r.2])) tabOk follows Tryz.func175 [.t 4,.t 5] (hdeN fun _=>rfl) (.z) S6_ qlr (fun f v=>f (v.b 0 0) (v.i 4 0))
def qe:List LT:=[.b,(.i .u64),(.i .u64),(.i .i64)]
def qd (x0:Bool)(x1 x2 x3:Int):List AV:=[.bool x0,.int .u64 x1,.int .u64 x2,.int .i64 x3]
def S7_:Shp:=⟨[(1,.one (.ptr 0 0))],[.box true (lk qe)]⟩
def S8_:Shp:=⟨[(0,.st (lk qe))],[]⟩
def q7j (Av:Bool)(Aw Ax Ay:Int)(K:Ex->Env->Mem->Option Bool):=(fun z_v21=>K .norm (qk [(1,(.ptr 0 0)),(21,(.bool z_v21))]) (qh [(some (.box true (qd Av Aw Ax Ay)))]))
def qk2 (Av:Bool)(Aw Ax Ay:Int)(kn:Bool->Option Bool):Option Bool:=
 (oB (qs3 Av Aw Ax) fun r1=>(bif(!r1)then(kn true)else(bif(decide (Ay<0))then(kn true)else(oB (qjy Av Aw Ax) fun r2=>(kn (decide (Ay>r2)))))))
def qz5:=hull (qk2)
theorem q7k:qz5=qk2:=qa _
def qbav:SubB Tryz.prog (TIof Tryz.prog) 45 0 (kret [.t 2] decB):=jnB tabOk follows Tryz.f126 9 (.d [] [(2,.c qx5.b),(14,.c qn3.b)] [] [.sel [1,21] [0]]) S7_ (qk2) (fun f v K=>f (v.b 3 0) (v.i 3 1) (v.i 3 2) (v.i 3 3) (q7j (v.b 3 0) (v.i 3 1) (v.i 3 2) (v.i 3 3) K))
def qpq (Aa:Bool)(Ab Ac Bt:Int):Option Bool:=
 (qz5 Aa Ab Ac Bt (fun v21q1=>(bif v21q1 then(some false)else(oB (qs4 Aa Bt) fun r2=>(some (((qbh .and .u64 Ab r2.1)==0)&&((qbh .and .u64 Ac r2.2)==0)))))))
def qhn:=hull qpq
theorem qben:qhn=qpq:=qa _
def qjd {R:Type}:EntF Tryz.prog R:=entB (nt:=45) (dec:=decB) (enc:=AV.bool) tabOk follows Tryz.func126 [.t 2] hdeB (.s .z (.s (.s (.sub [.sel [1] [0]] qbav []) .z) (.s (.r [(5,.c q1t.b)] []) (.s (.r [(7,.g 6)] []) .z)))) S8_ qpq (fun f v=>f (v.b 1 0) (v.i 1 1) (v.i 1 2) (v.i 1 3))
def qpr (Aa:Bool)(Ab Ac Bt:Int):Option Int:=
 (bif Aa then(some (128:Int))else(some (32:Int)))
def qx6:=hull qpr
theorem qbeo:qx6=qpr:=qa _
def qbhe {R:Type}:EntF Tryz.prog R:=entB (nt:=6) (dec:=(decI .i64)) (enc:=(AV.int .i64)) tabOk follows Tryz.func137 [.t 2] hdeI (.z) S8_ qpr (fun f v=>f (v.b 1 0) (v.i 1 1) (v.i 1 2) (v.i 1 3))
def S9_:Shp:=⟨[(0,.one (.l .s)),(19,.one (.l (.i .i64))),(20,.one (.l (.i .i64)))],[]⟩
def S10_:Shp:=⟨[(0,.one (.l .s)),(1,.one (.l (.i .i64))),(2,.one (.l (.i .i64)))],[]⟩
def qqu (K:Ex->Env->Mem->Option Bool):=(fun(_:Unit)=>K (.exit 0) (qk []) (qh []))
def qfk (v0:LU)(v19 v20:Int)(next:Int->Option Bool)(kx0:Unit->Option Bool):Option Bool:=
 (bif(decide (v20<v19))then(oB (ixB v0 v20) fun c1=>(bif(decide ((c1.toNat:Int)<33))then(some false)else(oB (ixB v0 v20) fun c2=>(bif(decide ((c2.toNat:Int)>126))then(some false)else(next (IntKind.i64.wrap (v20+1)))))))else(kx0 ()))
def qfl (v0:LU)(v19:Int)(kx0:Unit->Option Bool):Nat->Int->Option Bool
 |0=>(fun _=>none)
 |n+1=>(fun v20=>qfk v0 v19 v20 (qfl v0 v19 kx0 n) kx0)
def qo2:=hull (qfl)
theorem q1u:qo2=qfl:=qa _
def q3s:SubB Tryz.prog (TIof Tryz.prog) 34 0 (kret [.t 6] decB):=lpB tabOk follows Tryz.f138 75 (.s .z (.s (.s .z (.v [.sel [] []])) (.s .z (.v [.sel [0,19,20] []])))) S9_ (qfl) (fun f v K n=>f (v.s 0 0) (v.i 76 0) (qqu K) n) (fun v f K=>qfk (v.s 0 0) (v.i 76 0) (v.i 80 0) f (qqu K)) (fun f v=>f (v.i 80 0)) (fun k v=>(fun z0=>k (v.ui 80 0 z0)))
def ql6 (v0:LU)(v1 v2:Int):Option Bool:=
 (bif((decide ((v0.length:Int)<v1))||(decide ((v0.length:Int)>v2)))then(some false)else(qo2 v0 (v0.length:Int) (fun(_:Unit)=>(some true)) FU (0:Int)))
def qps:=hull ql6
theorem qbaw:qps=ql6:=qa _
def qx7 {R:Type}:EntF Tryz.prog R:=entB (nt:=34) (dec:=decB) (enc:=AV.bool) tabOk follows Tryz.func138 [.t 6] hdeB (.s .z (.s (.s (.r [(5,.g 4)] []) .z) (.s (.s .z (.b (.sub [.sel [0,19,20] []] q3s []))) .z))) S10_ ql6 (fun f v=>f (v.s 0 0) (v.i 4 0) (v.i 8 0))
def qb:List LT:=[.b,(.i .u64),(.i .u64),(.i .i64),(.i .i64),.s,.s,(.i .i64)]
def qp (x0:Bool)(x1 x2 x3 x4:Int)(x5 x6:LU)(x7:Int):List AV:=[.bool x0,.int .u64 x1,.int .u64 x2,.int .i64 x3,.int .i64 x4,.str x5,.str x6,.int .i64 x7]
def S11_:Shp:=⟨[(1,.one (.ptr 0 0))],[.box true (lk qb)]⟩
def S12_:Shp:=⟨[(0,.st (lk qb))],[]⟩
def q58 (Av:Bool)(Aw Ax Ay Az:Int)(A0 A1:LU)(A2:Int)(K:Ex->Env->Mem->Option Int):=(fun z_v28=>K .norm (qk [(1,(.ptr 0 0)),(28,(.bool z_v28))]) (qh [(some (.box true (qp Av Aw Ax Ay Az A0 A1 A2)))]))
def qj3 (Av:Bool)(Aw Ax Ay Az:Int)(A0 A1:LU)(A2:Int)(kn:Bool->Option Int):Option Int:=
 (bif(decide (Az<1))then(kn true)else(bif(decide (Az>3))then(kn true)else(bif(Az==3)then(oB (qx6 Av Aw Ax Ay) fun r1=>(kn (Ay != r1)))else(kn false))))
def qx8:=hull (qj3)
theorem q59:qx8=qj3:=qa _
def q7l:SubB Tryz.prog (TIof Tryz.prog) 49 0 (kret [.t 2] (decI .i64)):=jnB tabOk follows Tryz.f90 19 (.d [] [(18,.c qbhe.b)] [] [.sel [1,28] [0]]) S11_ (qj3) (fun f v K=>f (v.b 3 0) (v.i 3 1) (v.i 3 2) (v.i 3 3) (v.i 3 4) (v.s 3 5) (v.s 3 6) (v.i 3 7) (q58 (v.b 3 0) (v.i 3 1) (v.i 3 2) (v.i 3 3) (v.i 3 4) (v.s 3 5) (v.s 3 6) (v.i 3 7) K))
def qpt (Aa:Bool)(Ab Ac Bt Bu:Int)(Bv Bw:LU)(Bx:Int):Option Int:=
 (oB (qhn Aa Ab Ac Bt) fun r1=>(bif(!r1)then(some (3:Int))else(qx8 Aa Ab Ac Bt Bu Bv Bw Bx (fun v28q2=>(bif v28q2 then(some (1:Int))else(oB (qps Bv (1:Int) (63:Int)) fun r3=>(bif(!r3)then(some (1:Int))else(oB (qps Bw (0:Int) (32:Int)) fun r4=>(bif(((!r4)||(decide (Bx<0)))||(decide (Bx>4294967295)))then(some (1:Int))else(some (0:Int)))))))))))
def qo3:=hull qpt
theorem qbep:qo3=qpt:=qa _
def q1v {R:Type}:EntF Tryz.prog R:=entB (nt:=49) (dec:=(decI .i64)) (enc:=(AV.int .i64)) tabOk follows Tryz.func90 [.t 2] hdeI (.s .z (.s (.s (.r [(2,.c qjd.b)] []) .z) (.s (.s (.sub [.sel [1] [0]] q7l []) .z) (.s (.s (.r [(2,.c qx7.b),(7,.c qx7.b),(11,.g 3),(16,.g 3)] []) .z) .z)))) S12_ qpt (fun f v=>f (v.b 1 0) (v.i 1 1) (v.i 1 2) (v.i 1 3) (v.i 1 4) (v.s 1 5) (v.s 1 6) (v.i 1 7))
def S13_:Shp:=⟨[(0,.st (lk qb)),(1,.one (.ptr 0 0))],[.box true (lk qe)]⟩
def qbax {R:Type}(KK:AV->Mem->Option R):=(fun v3 Av Aw Ax Ay=>KK (.bool v3) (qh [(some (.box true (qd Av Aw Ax Ay)))]))
def ql7 {R:Type}(Aa:Bool)(Ab Ac Bt Bu:Int)(Bv Bw:LU)(Bx:Int)(Av:Bool)(Aw Ax Ay:Int)(kr:Bool->Bool->Int->Int->Int->Option R):Option R:=
 (kr ((Aa==Av)&&((Ab==Aw)&&((Ac==Ax)&&((Bt==Ay)&&true)))) Av Aw Ax Ay)
def q1w {R:Type}:=hull (ql7 (R:=R))
theorem qbay {R:Type}:q1w (R:=R)=ql7:=qa _
def qbc1 {R:Type}:RefB Tryz.prog R:=refB (nt:=8) (nb:=1) tabOk follows Tryz.func139 [.t 3] (fun KK=>.s .z (.s .z (.v [.sel [3] [0]]))) S13_ (ql7 (R:=R)) (fun f v KK=>f (v.b 1 0) (v.i 1 1) (v.i 1 2) (v.i 1 3) (v.i 1 4) (v.s 1 5) (v.s 1 6) (v.i 1 7) (v.b 3 0) (v.i 3 1) (v.i 3 2) (v.i 3 3) (qbax KK)) (by kernel_rfl) (by kernel_rfl) (fun _=>(by kernel_rfl)) rfl
def S14_:Shp:=⟨[(0,.one (.l (.sl 8))),(1,.one (.fn 139 [(0,0)])),(7,.one (.l (.i .i64))),(8,.one (.l (.i .i64)))],[.box true (lk qe)]⟩
def S15_:Shp:=⟨[(0,.one (.l (.sl 8))),(1,.one (.fn 139 [(0,0)]))],[.box true (lk qe)]⟩
def qcz {R:Type}(K:Ex->Env->Mem->Option R):=(fun z_b0_0 z_b0_1 z_b0_2 z_b0_3=>K (.exit 0) (qk []) (qh [(some (.box true (qd z_b0_0 z_b0_1 z_b0_2 z_b0_3)))]))
def qc5 {R:Type}(KK:AV->Mem->Option R):=(fun v4 Av Aw Ax Ay=>KK (.int .i64 v4) (qh [(some (.box true (qd Av Aw Ax Ay)))]))
def qz {R:Type}(v0:LA)(v7 v8:Int)(Av:Bool)(Aw Ax Ay:Int)(next:Int->Bool->Int->Int->Int->Option R)(kx0:Bool->Int->Int->Int->Option R)(kr:Int->Bool->Int->Int->Int->Option R):Option R:=
 (bif(decide (v8<v7))then(oB (ixB v0 v8) fun y1=>(bif fitC qb y1.cells then(q1w (gB y1.cells 0) (gI y1.cells 1) (gI y1.cells 2) (gI y1.cells 3) (gI y1.cells 4) (gS y1.cells 5) (gS y1.cells 6) (gI y1.cells 7) Av Aw Ax Ay fun v3q2 b0_0q3 b0_1q4 b0_2q5 b0_3q6=>(bif v3q2 then(kr v8 b0_0q3 b0_1q4 b0_2q5 b0_3q6)else(next (IntKind.i64.wrap (v8+1)) b0_0q3 b0_1q4 b0_2q5 b0_3q6)))else none))else(kx0 Av Aw Ax Ay))
def q8 {R:Type}(v0:LA)(v7:Int)(kx0:Bool->Int->Int->Int->Option R)(kr:Int->Bool->Int->Int->Int->Option R):Nat->Int->Bool->Int->Int->Int->Option R
 |0=>(fun _ _ _ _ _=>none)
 |n+1=>(fun v8 Av Aw Ax Ay=>qz v0 v7 v8 Av Aw Ax Ay (q8 v0 v7 kx0 kr n) kx0 kr)
def qdj {R:Type}:=hull (q8 (R:=R))
theorem qgm {R:Type}:qdj (R:=R)=q8:=qa _
def qgv {R:Type}(KK:AV->Mem->Option R):SubB Tryz.prog (TIof Tryz.prog) 19 1 (qdd [.t 4] KK):=lpB tabOk follows Tryz.f125 37 (.s .z (.s (.s .z (.v [.sel [] [0]])) (.s (.b (.s .z (.s (.r [(3,.p (.etac 14 qb)),(5,.s (.sel [0,1,5,7,8,11,15] [0])),(5,.r qbc1)] []) (.s (.s .z (.v [.sel [4] [0]])) .z)))) (.v [.sel [0,1,7,8] [0]])))) S14_ (q8 (R:=R)) (fun f v K n=>f (v.l 0 0) (v.i 28 0) (qcz K) (qc5 KK) n) (fun v f K=>qz (v.l 0 0) (v.i 28 0) (v.i 32 0) (v.b 3 0) (v.i 3 1) (v.i 3 2) (v.i 3 3) f (qcz K) (qc5 KK)) (fun f v=>f (v.i 32 0) (v.b 3 0) (v.i 3 1) (v.i 3 2) (v.i 3 3)) (fun k v=>(fun z0 z1 z2 z3 z4=>k (((((v.ui 32 0 z0).ub 3 0 z1).ui 3 1 z2).ui 3 2 z3).ui 3 3 z4)))
def qhb {R:Type}(KK:AV->Mem->Option R):=(fun v4 Av Aw Ax Ay=>KK (.int .i64 v4) (qh [(some (.box true (qd Av Aw Ax Ay)))]))
def qbq {R:Type}(v0:LA)(Av:Bool)(Aw Ax Ay:Int)(kr:Int->Bool->Int->Int->Int->Option R):Option R:=
 (qdj v0 (v0.length:Int) (fun b0_0q1 b0_1q2 b0_2q3 b0_3q4=>(kr (-1:Int) b0_0q1 b0_1q2 b0_2q3 b0_3q4)) kr FU (0:Int) Av Aw Ax Ay)
def qdq {R:Type}:=hull (qbq (R:=R))
theorem qhc {R:Type}:qdq (R:=R)=qbq:=qa _
def qho {R:Type}:RefB Tryz.prog R:=refB (nt:=19) (nb:=1) tabOk follows Tryz.func125 [.t 4] (fun KK=>.s .z (.s (.s .z (.b (.sub [.sel [0,1,7,8] [0]] (qgv KK) []))) (.s .z (.v [.sel [4] [0]])))) S15_ (qbq (R:=R)) (fun f v KK=>f (v.l 0 0) (v.b 3 0) (v.i 3 1) (v.i 3 2) (v.i 3 3) (qhb KK)) (by kernel_rfl) (by kernel_rfl) (fun _=>(by kernel_rfl)) rfl
def S16_:Shp:=⟨[(0,.one (.l (.sl 8))),(1,.st (lk qe))],[]⟩
def qpu (v0:LA)(B7:Bool)(B8 B9 Ca:Int):Option Int:=
 (qdq v0 B7 B8 B9 Ca fun v4q1 b0_0q2 b0_1q3 b0_2q4 b0_3q5=>(some v4q1))
def qo4:=hull qpu
theorem qbeq:qo4=qpu:=qa _
def qui {R:Type}:EntF Tryz.prog R:=entB (nt:=8) (dec:=(decI .i64)) (enc:=(AV.int .i64)) tabOk follows Tryz.func91 [.t 4] hdeI (.s .z (.s (.r [(2,.s (.sel [5,6] [0])),(2,.r qho)] []) .z)) S16_ qpu (fun f v=>f (v.l 0 0) (v.b 5 0) (v.i 5 1) (v.i 5 2) (v.i 5 3))
def qge (x0:Bool)(x1 x2:Int):List AV:=[.bool x0,.int .u64 x1,.int .u64 x2]
def S17_:Shp:=⟨[(1,.one (.l (.i .i64))),(2,.one (.ptr 0 0)),(4,.one (.ptr 1 0))],[.box true (lk qee),.box true (lk qe)]⟩
def S18_:Shp:=⟨[(0,.st (lk qee)),(1,.one (.l (.i .i64)))],[]⟩
def q5y:AV->Option (AV×Bool):=decN [(.st [.b,(.i .u64),(.i .u64),(.i .i64)]),(.one .b)] fun z=>((gC (tpL z) 0),aB (gC (tpL z) 1))
def qber (v1:Int)(Av:Bool)(Aw Ax:Int)(Ad:Bool)(Ae Af Ag:Int)(K:Ex->Env->Mem->Option (AV×Bool)):=(fun z_v20=>K .norm (qk [(1,(.int .i64 v1)),(2,(.ptr 0 0)),(4,(.ptr 1 0)),(20,(.bool z_v20))]) (qh [(some (.box true (qge Av Aw Ax))),(some (.box true (qd Ad Ae Af Ag)))]))
def qpv (v1:Int)(Av:Bool)(Aw Ax:Int)(Ad:Bool)(Ae Af Ag:Int)(kn:Bool->Option (AV×Bool)):Option (AV×Bool):=
 (oB (qs3 Av Aw Ax) fun r1=>(bif((!r1)||(decide (v1<0)))then(kn true)else(oB (qjy Av Aw Ax) fun r2=>(kn (decide (v1>r2))))))
def q7m:=hull (qpv)
theorem qbes:q7m=qpv:=qa _
def qbhf:SubB Tryz.prog (TIof Tryz.prog) 42 0 (kret [(.cell 4 true 4),.t 5] q5y):=jnB tabOk follows Tryz.f127 9 (.r [(1,.c qx5.b),(4,.g 2),(10,.c qn3.b)] [.sel [1,2,4,20] [0,1]]) S17_ (qpv) (fun f v K=>f (v.i 4 0) (v.b 3 0) (v.i 3 1) (v.i 3 2) (v.b 7 0) (v.i 7 1) (v.i 7 2) (v.i 7 3) (qber (v.i 4 0) (v.b 3 0) (v.i 3 1) (v.i 3 2) (v.b 7 0) (v.i 7 1) (v.i 7 2) (v.i 7 3) K))
def qvg (Aa:Bool)(Ab Ac v1:Int):Option (AV×Bool):=
 (q7m v1 Aa Ab Ac false (0:Int) (0:Int) (0:Int) (fun v20q1=>(bif v20q1 then(some ((.agg [(.bool false),(.int .u64 (0:Int)),(.int .u64 (0:Int)),(.int .i64 (0:Int))]),false))else(oB (qs4 Aa v1) fun r2=>(some ((.agg [(.bool Aa),(.int .u64 (qbh .andNot .u64 Ab r2.1)),(.int .u64 (qbh .andNot .u64 Ac r2.2)),(.int .i64 v1)]),true))))))
def q7n:=hull qvg
theorem qbk2:q7n=qvg:=qa _
def qbm6 {R:Type}:EntF Tryz.prog R:=entB (nt:=42) (dec:=q5y) (enc:=(fun r=>.tup [qd4 (.st [.b,(.i .u64),(.i .u64),(.i .i64)]) r.1,.bool r.2])) tabOk follows Tryz.func127 [(.cell 4 true 4),.t 5] (hdeN fun _=>rfl) (.s .z (.s (.s (.sub [.sel [1,2,4] [0,1]] qbhf []) .z) (.s (.r [(3,.c q1t.b)] []) .z))) S18_ qvg (fun f v=>f (v.b 1 0) (v.i 1 1) (v.i 1 2) (v.i 4 0))
def S19_:Shp:=⟨[(0,.st (lk qe)),(1,.st (lk qee))],[]⟩
def qk3 (Aa:Bool)(Ab Ac Bt:Int)(B7:Bool)(B8 B9:Int):Option Bool:=
 (oB (qhn Aa Ab Ac Bt) fun r1=>(bif((!r1)||(!((Aa==B7)&&true)))then(some false)else(oB (q7n B7 B8 B9 Bt) fun r2=>(some (r2.2&&(((gB r2.1.cells 0)==Aa)&&(((gI r2.1.cells 1)==Ab)&&(((gI r2.1.cells 2)==Ac)&&(((gI r2.1.cells 3)==Bt)&&true)))))))))
def qn4:=hull qk3
theorem q7o:qn4=qk3:=qa _
def qw0 {R:Type}:EntF Tryz.prog R:=entB (nt:=31) (dec:=decB) (enc:=AV.bool) tabOk follows Tryz.func67 [.t 4] hdeB (.s .z (.s (.s (.r [(1,.c qjd.b),(4,.g 6)] []) .z) (.s (.r [(3,.c qbm6.b)] []) (.s (.r [(2,.g 3)] []) .z)))) S19_ qk3 (fun f v=>f (v.b 1 0) (v.i 1 1) (v.i 1 2) (v.i 1 3) (v.b 5 0) (v.i 5 1) (v.i 5 2))
def S20_:Shp:=⟨[(0,.st (lk qe)),(1,.st (lk qe))],[]⟩
def qn5 (Aa:Bool)(Ab Ac Bt:Int)(B7:Bool)(B8 B9 Ca:Int):Option Bool:=
 (oB (qhn Aa Ab Ac Bt) fun r1=>(bif r1 then(oB (qhn B7 B8 B9 Ca) fun r2=>(bif(r2&&(decide (Bt>=Ca)))then(oB (qn4 B7 B8 B9 Ca Aa Ab Ac) fun r3=>(some r3))else(some false)))else(some false)))
def qjz:=hull qn5
theorem qbc2:qjz=qn5:=qa _
def qj4 {R:Type}:EntF Tryz.prog R:=entB (nt:=24) (dec:=decB) (enc:=AV.bool) tabOk follows Tryz.func122 [.t 4] hdeB (.s .z (.s (.r [(1,.c qjd.b),(4,.c qjd.b),(7,.g 5),(17,.c qw0.b)] []) .z)) S20_ qn5 (fun f v=>f (v.b 1 0) (v.i 1 1) (v.i 1 2) (v.i 1 3) (v.b 5 0) (v.i 5 1) (v.i 5 2) (v.i 5 3))
def qrc (Aa:Bool)(Ab Ac Bt:Int)(B7:Bool)(B8 B9 Ca:Int):Option Bool:=
 (bif(decide (Bt>Ca))then(oB (qjz Aa Ab Ac Bt B7 B8 B9 Ca) fun r1=>(some r1))else(some false))
def qqv:=hull qrc
theorem qbhg:qqv=qrc:=qa _
def qwn {R:Type}:EntF Tryz.prog R:=entB (nt:=15) (dec:=decB) (enc:=AV.bool) tabOk follows Tryz.func141 [.t 4] hdeB (.s .z (.s (.r [(8,.c qj4.b)] []) .z)) S20_ qrc (fun f v=>f (v.b 1 0) (v.i 1 1) (v.i 1 2) (v.i 1 3) (v.b 5 0) (v.i 5 1) (v.i 5 2) (v.i 5 3))
def S21_:Shp:=⟨[(0,.st (lk qb)),(1,.st (lk qb))],[]⟩
def qn6 (Aa:Bool)(Ab Ac Bt Bu:Int)(Bv Bw:LU)(Bx:Int)(B7:Bool)(B8 B9 Ca Cb:Int)(Cc Cd:LU)(Ce:Int):Option Bool:=
 (bif(Bu==1)then(some true)else(bif(Bu==2)then(some (Cb==3))else(some false)))
def qwo:=hull qn6
theorem qbc3:qwo=qn6:=qa _
def qbet {R:Type}:EntF Tryz.prog R:=entB (nt:=18) (dec:=decB) (enc:=AV.bool) tabOk follows Tryz.func142 [.t 4] hdeB (.z) S21_ qn6 (fun f v=>f (v.b 1 0) (v.i 1 1) (v.i 1 2) (v.i 1 3) (v.i 1 4) (v.s 1 5) (v.s 1 6) (v.i 1 7) (v.b 5 0) (v.i 5 1) (v.i 5 2) (v.i 5 3) (v.i 5 4) (v.s 5 5) (v.s 5 6) (v.i 5 7))
def S22_:Shp:=⟨[(0,.st (lk qb)),(1,.one (.ptr 0 0))],[.box true (lk qb)]⟩
def q1x {R:Type}(KK:AV->Mem->Option R):=(fun v3 Av Aw Ax Ay Az A0 A1 A2=>KK (.bool v3) (qh [(some (.box true (qp Av Aw Ax Ay Az A0 A1 A2)))]))
def qit {R:Type}(Aa:Bool)(Ab Ac Bt Bu:Int)(Bv Bw:LU)(Bx:Int)(Av:Bool)(Aw Ax Ay Az:Int)(A0 A1:LU)(A2:Int)(kr:Bool->Bool->Int->Int->Int->Int->(List UInt8)->(List UInt8)->Int->Option R):Option R:=
 (oB (qqv Av Aw Ax Ay Aa Ab Ac Bt) fun r1=>(bif r1 then(oB (qwo Aa Ab Ac Bt Bu Bv Bw Bx Av Aw Ax Ay Az A0 A1 A2) fun r2=>(kr (!r2) Av Aw Ax Ay Az A0 A1 A2))else(kr false Av Aw Ax Ay Az A0 A1 A2)))
def qo5 {R:Type}:=hull (qit (R:=R))
theorem q1y {R:Type}:qo5 (R:=R)=qit:=qa _
def q3t {R:Type}:RefB Tryz.prog R:=refB (nt:=15) (nb:=1) tabOk follows Tryz.func140 [.t 3] (fun KK=>.s .z (.s (.r [(4,.c qwn.b),(8,.c qbet.b)] []) (.v [.sel [3] [0]]))) S22_ (qit (R:=R)) (fun f v KK=>f (v.b 1 0) (v.i 1 1) (v.i 1 2) (v.i 1 3) (v.i 1 4) (v.s 1 5) (v.s 1 6) (v.i 1 7) (v.b 3 0) (v.i 3 1) (v.i 3 2) (v.i 3 3) (v.i 3 4) (v.s 3 5) (v.s 3 6) (v.i 3 7) (q1x KK)) (by kernel_rfl) (by kernel_rfl) (fun _=>(by kernel_rfl)) rfl
def S23_:Shp:=⟨[(0,.one (.l (.sl 8))),(1,.one (.fn 140 [(0,0)])),(7,.one (.l (.i .i64))),(8,.one (.l (.i .i64)))],[.box true (lk qb)]⟩
def S24_:Shp:=⟨[(0,.one (.l (.sl 8))),(1,.one (.fn 140 [(0,0)]))],[.box true (lk qb)]⟩
def qcp {R:Type}(K:Ex->Env->Mem->Option R):=(fun z_b0_0 z_b0_1 z_b0_2 z_b0_3 z_b0_4 z_b0_5 z_b0_6 z_b0_7=>K (.exit 0) (qk []) (qh [(some (.box true (qp z_b0_0 z_b0_1 z_b0_2 z_b0_3 z_b0_4 z_b0_5 z_b0_6 z_b0_7)))]))
def qcq {R:Type}(KK:AV->Mem->Option R):=(fun v4 Av Aw Ax Ay Az A0 A1 A2=>KK (.int .i64 v4) (qh [(some (.box true (qp Av Aw Ax Ay Az A0 A1 A2)))]))
def qt {R:Type}(v0:LA)(v7 v8:Int)(Av:Bool)(Aw Ax Ay Az:Int)(A0 A1:LU)(A2:Int)(next:Int->Bool->Int->Int->Int->Int->(List UInt8)->(List UInt8)->Int->Option R)(kx0:Bool->Int->Int->Int->Int->(List UInt8)->(List UInt8)->Int->Option R)(kr:Int->Bool->Int->Int->Int->Int->(List UInt8)->(List UInt8)->Int->Option R):Option R:=
 (bif(decide (v8<v7))then(oB (ixB v0 v8) fun y1=>(bif fitC qb y1.cells then(qo5 (gB y1.cells 0) (gI y1.cells 1) (gI y1.cells 2) (gI y1.cells 3) (gI y1.cells 4) (gS y1.cells 5) (gS y1.cells 6) (gI y1.cells 7) Av Aw Ax Ay Az A0 A1 A2 fun v3q2 b0_0q3 b0_1q4 b0_2q5 b0_3q6 b0_4q7 b0_5q8 b0_6q9 b0_7q10=>(bif v3q2 then(kr v8 b0_0q3 b0_1q4 b0_2q5 b0_3q6 b0_4q7 b0_5q8 b0_6q9 b0_7q10)else(next (IntKind.i64.wrap (v8+1)) b0_0q3 b0_1q4 b0_2q5 b0_3q6 b0_4q7 b0_5q8 b0_6q9 b0_7q10)))else none))else(kx0 Av Aw Ax Ay Az A0 A1 A2))
def qu {R:Type}(v0:LA)(v7:Int)(kx0:Bool->Int->Int->Int->Int->(List UInt8)->(List UInt8)->Int->Option R)(kr:Int->Bool->Int->Int->Int->Int->(List UInt8)->(List UInt8)->Int->Option R):Nat->Int->Bool->Int->Int->Int->Int->(List UInt8)->(List UInt8)->Int->Option R
 |0=>(fun _ _ _ _ _ _ _ _ _=>none)
 |n+1=>(fun v8 Av Aw Ax Ay Az A0 A1 A2=>qt v0 v7 v8 Av Aw Ax Ay Az A0 A1 A2 (qu v0 v7 kx0 kr n) kx0 kr)
def qc0 {R:Type}:=hull (qu (R:=R))
theorem qfc {R:Type}:qc0 (R:=R)=qu:=qa _
def qff {R:Type}(KK:AV->Mem->Option R):SubB Tryz.prog (TIof Tryz.prog) 19 1 (qdd [.t 4] KK):=lpB tabOk follows Tryz.f125 37 (.s .z (.s (.s .z (.v [.sel [] [0]])) (.s (.b (.s .z (.s (.r [(3,.p (.etac 14 qb)),(5,.s (.sel [0,1,5,7,8,11,15] [0])),(5,.r q3t)] []) (.s (.s .z (.v [.sel [4] [0]])) .z)))) (.v [.sel [0,1,7,8] [0]])))) S23_ (qu (R:=R)) (fun f v K n=>f (v.l 0 0) (v.i 28 0) (qcp K) (qcq KK) n) (fun v f K=>qt (v.l 0 0) (v.i 28 0) (v.i 32 0) (v.b 3 0) (v.i 3 1) (v.i 3 2) (v.i 3 3) (v.i 3 4) (v.s 3 5) (v.s 3 6) (v.i 3 7) f (qcp K) (qcq KK)) (fun f v=>f (v.i 32 0) (v.b 3 0) (v.i 3 1) (v.i 3 2) (v.i 3 3) (v.i 3 4) (v.s 3 5) (v.s 3 6) (v.i 3 7)) (fun k v=>(fun z0 z1 z2 z3 z4 z5 z6 z7 z8=>k (((((((((v.ui 32 0 z0).ub 3 0 z1).ui 3 1 z2).ui 3 2 z3).ui 3 3 z4).ui 3 4 z5).us 3 5 z6).us 3 6 z7).ui 3 7 z8)))
def qgb {R:Type}(KK:AV->Mem->Option R):=(fun v4 Av Aw Ax Ay Az A0 A1 A2=>KK (.int .i64 v4) (qh [(some (.box true (qp Av Aw Ax Ay Az A0 A1 A2)))]))
def qbj {R:Type}(v0:LA)(Av:Bool)(Aw Ax Ay Az:Int)(A0 A1:LU)(A2:Int)(kr:Int->Bool->Int->Int->Int->Int->(List UInt8)->(List UInt8)->Int->Option R):Option R:=
 (qc0 v0 (v0.length:Int) (fun b0_0q1 b0_1q2 b0_2q3 b0_3q4 b0_4q5 b0_5q6 b0_6q7 b0_7q8=>(kr (-1:Int) b0_0q1 b0_1q2 b0_2q3 b0_3q4 b0_4q5 b0_5q6 b0_6q7 b0_7q8)) kr FU (0:Int) Av Aw Ax Ay Az A0 A1 A2)
def qb0 {R:Type}:=hull (qbj (R:=R))
theorem qgc {R:Type}:qb0 (R:=R)=qbj:=qa _
def qgn {R:Type}:RefB Tryz.prog R:=refB (nt:=19) (nb:=1) tabOk follows Tryz.func125 [.t 4] (fun KK=>.s .z (.s (.s .z (.b (.sub [.sel [0,1,7,8] [0]] (qff KK) []))) (.s .z (.v [.sel [4] [0]])))) S24_ (qbj (R:=R)) (fun f v KK=>f (v.l 0 0) (v.b 3 0) (v.i 3 1) (v.i 3 2) (v.i 3 3) (v.i 3 4) (v.s 3 5) (v.s 3 6) (v.i 3 7) (qgb KK)) (by kernel_rfl) (by kernel_rfl) (fun _=>(by kernel_rfl)) rfl
def qfd {R:Type}(KK:AV->Mem->Option R):=(fun v4 Av Aw Ax Ay Az A0 A1 A2=>KK (.bool v4) (qh [(some (.box true (qp Av Aw Ax Ay Az A0 A1 A2)))]))
def qbf {R:Type}(v0:LA)(Av:Bool)(Aw Ax Ay Az:Int)(A0 A1:LU)(A2:Int)(kr:Bool->Bool->Int->Int->Int->Int->(List UInt8)->(List UInt8)->Int->Option R):Option R:=
 (qb0 v0 Av Aw Ax Ay Az A0 A1 A2 fun v4q1 b0_0q2 b0_1q3 b0_2q4 b0_3q5 b0_4q6 b0_5q7 b0_6q8 b0_7q9=>(kr (decide (v4q1>=0)) b0_0q2 b0_1q3 b0_2q4 b0_3q5 b0_4q6 b0_5q7 b0_6q8 b0_7q9))
def qc1 {R:Type}:=hull (qbf (R:=R))
theorem qfe {R:Type}:qc1 (R:=R)=qbf:=qa _
def qfg {R:Type}:RefB Tryz.prog R:=refB (nt:=9) (nb:=1) tabOk follows Tryz.func65 [.t 4] (fun KK=>.s .z (.s (.r [(2,.s (.sel [5,6] [0])),(2,.r qgn)] []) (.v [.sel [4] [0]]))) S24_ (qbf (R:=R)) (fun f v KK=>f (v.l 0 0) (v.b 3 0) (v.i 3 1) (v.i 3 2) (v.i 3 3) (v.i 3 4) (v.s 3 5) (v.s 3 6) (v.i 3 7) (qfd KK)) (by kernel_rfl) (by kernel_rfl) (fun _=>(by kernel_rfl)) rfl
def S25_:Shp:=⟨[(0,.one (.l (.sl 8))),(1,.st (lk qb))],[]⟩
def qj5 (v0:LA)(B7:Bool)(B8 B9 Ca Cb:Int)(Cc Cd:LU)(Ce:Int):Option Bool:=
 (qc1 v0 B7 B8 B9 Ca Cb Cc Cd Ce fun v4q1 b0_0q2 b0_1q3 b0_2q4 b0_3q5 b0_4q6 b0_5q7 b0_6q8 b0_7q9=>(some v4q1))
def qjh:=hull qj5
theorem q6a:qjh=qj5:=qa _
def qvv {R:Type}:EntF Tryz.prog R:=entB (nt:=8) (dec:=decB) (enc:=AV.bool) tabOk follows Tryz.func92 [.t 4] hdeB (.s .z (.s (.r [(2,.s (.sel [5,6] [0])),(2,.r qfg)] []) .z)) S25_ qj5 (fun f v=>f (v.l 0 0) (v.b 5 0) (v.i 5 1) (v.i 5 2) (v.i 5 3) (v.i 5 4) (v.s 5 5) (v.s 5 6) (v.i 5 7))
def q3u {R:Type}(KK:AV->Mem->Option R):=(fun v3 Av Aw Ax Ay=>KK (.bool v3) (qh [(some (.box true (qd Av Aw Ax Ay)))]))
def qjj {R:Type}(Aa:Bool)(Ab Ac Bt Bu:Int)(Bv Bw:LU)(Bx:Int)(Av:Bool)(Aw Ax Ay:Int)(kr:Bool->Bool->Int->Int->Int->Option R):Option R:=
 (oB (qqv Aa Ab Ac Bt Av Aw Ax Ay) fun r1=>(kr r1 Av Aw Ax Ay))
def qqo {R:Type}:=hull (qjj (R:=R))
theorem q3v {R:Type}:qqo (R:=R)=qjj:=qa _
def q6b {R:Type}:RefB Tryz.prog R:=refB (nt:=8) (nb:=1) tabOk follows Tryz.func143 [.t 3] (fun KK=>.s .z (.s (.r [(3,.c qwn.b)] []) (.v [.sel [3] [0]]))) S13_ (qjj (R:=R)) (fun f v KK=>f (v.b 1 0) (v.i 1 1) (v.i 1 2) (v.i 1 3) (v.i 1 4) (v.s 1 5) (v.s 1 6) (v.i 1 7) (v.b 3 0) (v.i 3 1) (v.i 3 2) (v.i 3 3) (q3u KK)) (by kernel_rfl) (by kernel_rfl) (fun _=>(by kernel_rfl)) rfl
def S26_:Shp:=⟨[(0,.one (.l (.sl 8))),(1,.one (.fn 143 [(0,0)])),(7,.one (.l (.i .i64))),(8,.one (.l (.i .i64)))],[.box true (lk qe)]⟩
def S27_:Shp:=⟨[(0,.one (.l (.sl 8))),(1,.one (.fn 143 [(0,0)]))],[.box true (lk qe)]⟩
def qcr {R:Type}(K:Ex->Env->Mem->Option R):=(fun z_b0_0 z_b0_1 z_b0_2 z_b0_3=>K (.exit 0) (qk []) (qh [(some (.box true (qd z_b0_0 z_b0_1 z_b0_2 z_b0_3)))]))
def qcw {R:Type}(KK:AV->Mem->Option R):=(fun v4 Av Aw Ax Ay=>KK (.int .i64 v4) (qh [(some (.box true (qd Av Aw Ax Ay)))]))
def qv {R:Type}(v0:LA)(v7 v8:Int)(Av:Bool)(Aw Ax Ay:Int)(next:Int->Bool->Int->Int->Int->Option R)(kx0:Bool->Int->Int->Int->Option R)(kr:Int->Bool->Int->Int->Int->Option R):Option R:=
 (bif(decide (v8<v7))then(oB (ixB v0 v8) fun y1=>(bif fitC qb y1.cells then(qqo (gB y1.cells 0) (gI y1.cells 1) (gI y1.cells 2) (gI y1.cells 3) (gI y1.cells 4) (gS y1.cells 5) (gS y1.cells 6) (gI y1.cells 7) Av Aw Ax Ay fun v3q2 b0_0q3 b0_1q4 b0_2q5 b0_3q6=>(bif v3q2 then(kr v8 b0_0q3 b0_1q4 b0_2q5 b0_3q6)else(next (IntKind.i64.wrap (v8+1)) b0_0q3 b0_1q4 b0_2q5 b0_3q6)))else none))else(kx0 Av Aw Ax Ay))
def qw {R:Type}(v0:LA)(v7:Int)(kx0:Bool->Int->Int->Int->Option R)(kr:Int->Bool->Int->Int->Int->Option R):Nat->Int->Bool->Int->Int->Int->Option R
 |0=>(fun _ _ _ _ _=>none)
 |n+1=>(fun v8 Av Aw Ax Ay=>qv v0 v7 v8 Av Aw Ax Ay (qw v0 v7 kx0 kr n) kx0 kr)
def qc6 {R:Type}:=hull (qw (R:=R))
theorem qfh {R:Type}:qc6 (R:=R)=qw:=qa _
def qfm {R:Type}(KK:AV->Mem->Option R):SubB Tryz.prog (TIof Tryz.prog) 19 1 (qdd [.t 4] KK):=lpB tabOk follows Tryz.f125 37 (.s .z (.s (.s .z (.v [.sel [] [0]])) (.s (.b (.s .z (.s (.r [(3,.p (.etac 14 qb)),(5,.s (.sel [0,1,5,7,8,11,15] [0])),(5,.r q6b)] []) (.s (.s .z (.v [.sel [4] [0]])) .z)))) (.v [.sel [0,1,7,8] [0]])))) S26_ (qw (R:=R)) (fun f v K n=>f (v.l 0 0) (v.i 28 0) (qcr K) (qcw KK) n) (fun v f K=>qv (v.l 0 0) (v.i 28 0) (v.i 32 0) (v.b 3 0) (v.i 3 1) (v.i 3 2) (v.i 3 3) f (qcr K) (qcw KK)) (fun f v=>f (v.i 32 0) (v.b 3 0) (v.i 3 1) (v.i 3 2) (v.i 3 3)) (fun k v=>(fun z0 z1 z2 z3 z4=>k (((((v.ui 32 0 z0).ub 3 0 z1).ui 3 1 z2).ui 3 2 z3).ui 3 3 z4)))
def qgo {R:Type}(KK:AV->Mem->Option R):=(fun v4 Av Aw Ax Ay=>KK (.int .i64 v4) (qh [(some (.box true (qd Av Aw Ax Ay)))]))
def qbl {R:Type}(v0:LA)(Av:Bool)(Aw Ax Ay:Int)(kr:Int->Bool->Int->Int->Int->Option R):Option R:=
 (qc6 v0 (v0.length:Int) (fun b0_0q1 b0_1q2 b0_2q3 b0_3q4=>(kr (-1:Int) b0_0q1 b0_1q2 b0_2q3 b0_3q4)) kr FU (0:Int) Av Aw Ax Ay)
def qb9 {R:Type}:=hull (qbl (R:=R))
theorem qgp {R:Type}:qb9 (R:=R)=qbl:=qa _
def qgw {R:Type}:RefB Tryz.prog R:=refB (nt:=19) (nb:=1) tabOk follows Tryz.func125 [.t 4] (fun KK=>.s .z (.s (.s .z (.b (.sub [.sel [0,1,7,8] [0]] (qfm KK) []))) (.s .z (.v [.sel [4] [0]])))) S27_ (qbl (R:=R)) (fun f v KK=>f (v.l 0 0) (v.b 3 0) (v.i 3 1) (v.i 3 2) (v.i 3 3) (qgo KK)) (by kernel_rfl) (by kernel_rfl) (fun _=>(by kernel_rfl)) rfl
def qfi {R:Type}(KK:AV->Mem->Option R):=(fun v4 Av Aw Ax Ay=>KK (.bool v4) (qh [(some (.box true (qd Av Aw Ax Ay)))]))
def qbg {R:Type}(v0:LA)(Av:Bool)(Aw Ax Ay:Int)(kr:Bool->Bool->Int->Int->Int->Option R):Option R:=
 (qb9 v0 Av Aw Ax Ay fun v4q1 b0_0q2 b0_1q3 b0_2q4 b0_3q5=>(kr (decide (v4q1>=0)) b0_0q2 b0_1q3 b0_2q4 b0_3q5))
def qc7 {R:Type}:=hull (qbg (R:=R))
theorem qfj {R:Type}:qc7 (R:=R)=qbg:=qa _
def qfn {R:Type}:RefB Tryz.prog R:=refB (nt:=9) (nb:=1) tabOk follows Tryz.func65 [.t 4] (fun KK=>.s .z (.s (.r [(2,.s (.sel [5,6] [0])),(2,.r qgw)] []) (.v [.sel [4] [0]]))) S27_ (qbg (R:=R)) (fun f v KK=>f (v.l 0 0) (v.b 3 0) (v.i 3 1) (v.i 3 2) (v.i 3 3) (qfi KK)) (by kernel_rfl) (by kernel_rfl) (fun _=>(by kernel_rfl)) rfl
def qk4 (v0:LA)(B7:Bool)(B8 B9 Ca:Int):Option Bool:=
 (qc7 v0 B7 B8 B9 Ca fun v4q1 b0_0q2 b0_1q3 b0_2q4 b0_3q5=>(some v4q1))
def qn7:=hull qk4
theorem q7p:qn7=qk4:=qa _
def qw1 {R:Type}:EntF Tryz.prog R:=entB (nt:=8) (dec:=decB) (enc:=AV.bool) tabOk follows Tryz.func93 [.t 4] hdeB (.s .z (.s (.r [(2,.s (.sel [5,6] [0])),(2,.r qfn)] []) .z)) S16_ qk4 (fun f v=>f (v.l 0 0) (v.b 5 0) (v.i 5 1) (v.i 5 2) (v.i 5 3))
def S28_:Shp:=⟨[(0,.one (.l (.i .u64))),(1,.one (.l (.i .u64)))],[]⟩
def qrd (v0 v1:Int):Option Int:=
 (bif(decide (v0<v1))then(some (-1:Int))else(bif(decide (v0>v1))then(some (1:Int))else(some (0:Int))))
def q1c:=hull qrd
theorem qbhh:q1c=qrd:=qa _
def q5z {R:Type}:EntF Tryz.prog R:=entB (nt:=13) (dec:=(decI .i64)) (enc:=(AV.int .i64)) tabOk follows Tryz.func184 [.t 4] hdeI (.z) S28_ qrd (fun f v=>f (v.i 0 0) (v.i 4 0))
def S29_:Shp:=⟨[(0,.st (lk qee)),(1,.st (lk qee))],[]⟩
def qpw (Aa:Bool)(Ab Ac:Int)(B7:Bool)(B8 B9:Int):Option Int:=
 (bif((!((Aa==B7)&&true))&&B7)then(some (-1:Int))else(bif(!((Aa==B7)&&true))then(some (1:Int))else(bif(Ab != B8)then(oB (q1c Ab B8) fun r1=>(some r1))else(oB (q1c Ac B9) fun r2=>(some r2)))))
def qo6:=hull qpw
theorem qbeu:qo6=qpw:=qa _
def quj {R:Type}:EntF Tryz.prog R:=entB (nt:=37) (dec:=(decI .i64)) (enc:=(AV.int .i64)) tabOk follows Tryz.func166 [.t 4] hdeI (.s .z (.s (.b (.s (.r [(6,.g 2)] []) (.s .z (.s .z (.s .z (.s .z (.s (.s (.r [(4,.c q5z.b)] []) .z) .z))))))) (.s (.r [(4,.c q5z.b)] []) .z))) S29_ qpw (fun f v=>f (v.b 1 0) (v.i 1 1) (v.i 1 2) (v.b 5 0) (v.i 5 1) (v.i 5 2))
def ql8 (Aa:Bool)(Ab Ac Bt:Int)(B7:Bool)(B8 B9 Ca:Int):Option Int:=
 (oB (qo6 Aa Ab Ac B7 B8 B9) fun r1=>(bif(r1 != (0:Int))then(some r1)else(bif(decide (Bt<Ca))then(some (-1:Int))else(bif(decide (Bt>Ca))then(some (1:Int))else(some (0:Int))))))
def qpx:=hull ql8
theorem qbaz:qpx=ql8:=qa _
def qx9 {R:Type}:EntF Tryz.prog R:=entB (nt:=26) (dec:=(decI .i64)) (enc:=(AV.int .i64)) tabOk follows Tryz.func110 [.t 4] hdeI (.s .z (.s (.s (.r [(4,.c quj.b)] []) .z) .z)) S20_ ql8 (fun f v=>f (v.b 1 0) (v.i 1 1) (v.i 1 2) (v.i 1 3) (v.b 5 0) (v.i 5 1) (v.i 5 2) (v.i 5 3))
def q7q {R:Type}(KK:AV->Mem->Option R):=(fun v3 Av Aw Ax Ay Az A0 A1 A2=>KK (.bool v3) (qh [(some (.box true (qp Av Aw Ax Ay Az A0 A1 A2)))]))
def qk5 {R:Type}(Aa:Bool)(Ab Ac Bt Bu:Int)(Bv Bw:LU)(Bx:Int)(Av:Bool)(Aw Ax Ay Az:Int)(A0 A1:LU)(A2:Int)(kr:Bool->Bool->Int->Int->Int->Int->(List UInt8)->(List UInt8)->Int->Option R):Option R:=
 (oB (qpx Aa Ab Ac Bt Av Aw Ax Ay) fun r1=>(kr (decide (r1>0)) Av Aw Ax Ay Az A0 A1 A2))
def qs5 {R:Type}:=hull (qk5 (R:=R))
theorem q7r {R:Type}:qs5 (R:=R)=qk5:=qa _
def qba0 {R:Type}:RefB Tryz.prog R:=refB (nt:=10) (nb:=1) tabOk follows Tryz.func144 [.t 3] (fun KK=>.s .z (.s (.r [(4,.c qx9.b)] []) (.v [.sel [3] [0]]))) S22_ (qk5 (R:=R)) (fun f v KK=>f (v.b 1 0) (v.i 1 1) (v.i 1 2) (v.i 1 3) (v.i 1 4) (v.s 1 5) (v.s 1 6) (v.i 1 7) (v.b 3 0) (v.i 3 1) (v.i 3 2) (v.i 3 3) (v.i 3 4) (v.s 3 5) (v.s 3 6) (v.i 3 7) (q7q KK)) (by kernel_rfl) (by kernel_rfl) (fun _=>(by kernel_rfl)) rfl
def S30_:Shp:=⟨[(0,.one (.l (.sl 8))),(1,.one (.fn 144 [(0,0)])),(7,.one (.l (.i .i64))),(8,.one (.l (.i .i64)))],[.box true (lk qb)]⟩
def S31_:Shp:=⟨[(0,.one (.l (.sl 8))),(1,.one (.fn 144 [(0,0)]))],[.box true (lk qb)]⟩
def qcx {R:Type}(K:Ex->Env->Mem->Option R):=(fun z_b0_0 z_b0_1 z_b0_2 z_b0_3 z_b0_4 z_b0_5 z_b0_6 z_b0_7=>K (.exit 0) (qk []) (qh [(some (.box true (qp z_b0_0 z_b0_1 z_b0_2 z_b0_3 z_b0_4 z_b0_5 z_b0_6 z_b0_7)))]))
def qc2 {R:Type}(KK:AV->Mem->Option R):=(fun v4 Av Aw Ax Ay Az A0 A1 A2=>KK (.int .i64 v4) (qh [(some (.box true (qp Av Aw Ax Ay Az A0 A1 A2)))]))
def qx {R:Type}(v0:LA)(v7 v8:Int)(Av:Bool)(Aw Ax Ay Az:Int)(A0 A1:LU)(A2:Int)(next:Int->Bool->Int->Int->Int->Int->(List UInt8)->(List UInt8)->Int->Option R)(kx0:Bool->Int->Int->Int->Int->(List UInt8)->(List UInt8)->Int->Option R)(kr:Int->Bool->Int->Int->Int->Int->(List UInt8)->(List UInt8)->Int->Option R):Option R:=
 (bif(decide (v8<v7))then(oB (ixB v0 v8) fun y1=>(bif fitC qb y1.cells then(qs5 (gB y1.cells 0) (gI y1.cells 1) (gI y1.cells 2) (gI y1.cells 3) (gI y1.cells 4) (gS y1.cells 5) (gS y1.cells 6) (gI y1.cells 7) Av Aw Ax Ay Az A0 A1 A2 fun v3q2 b0_0q3 b0_1q4 b0_2q5 b0_3q6 b0_4q7 b0_5q8 b0_6q9 b0_7q10=>(bif v3q2 then(kr v8 b0_0q3 b0_1q4 b0_2q5 b0_3q6 b0_4q7 b0_5q8 b0_6q9 b0_7q10)else(next (IntKind.i64.wrap (v8+1)) b0_0q3 b0_1q4 b0_2q5 b0_3q6 b0_4q7 b0_5q8 b0_6q9 b0_7q10)))else none))else(kx0 Av Aw Ax Ay Az A0 A1 A2))
def qy {R:Type}(v0:LA)(v7:Int)(kx0:Bool->Int->Int->Int->Int->(List UInt8)->(List UInt8)->Int->Option R)(kr:Int->Bool->Int->Int->Int->Int->(List UInt8)->(List UInt8)->Int->Option R):Nat->Int->Bool->Int->Int->Int->Int->(List UInt8)->(List UInt8)->Int->Option R
 |0=>(fun _ _ _ _ _ _ _ _ _=>none)
 |n+1=>(fun v8 Av Aw Ax Ay Az A0 A1 A2=>qx v0 v7 v8 Av Aw Ax Ay Az A0 A1 A2 (qy v0 v7 kx0 kr n) kx0 kr)
def qde {R:Type}:=hull (qy (R:=R))
theorem qgd {R:Type}:qde (R:=R)=qy:=qa _
def qgq {R:Type}(KK:AV->Mem->Option R):SubB Tryz.prog (TIof Tryz.prog) 19 1 (qdd [.t 4] KK):=lpB tabOk follows Tryz.f125 37 (.s .z (.s (.s .z (.v [.sel [] [0]])) (.s (.b (.s .z (.s (.r [(3,.p (.etac 14 qb)),(5,.s (.sel [0,1,5,7,8,11,15] [0])),(5,.r qba0)] []) (.s (.s .z (.v [.sel [4] [0]])) .z)))) (.v [.sel [0,1,7,8] [0]])))) S30_ (qy (R:=R)) (fun f v K n=>f (v.l 0 0) (v.i 28 0) (qcx K) (qc2 KK) n) (fun v f K=>qx (v.l 0 0) (v.i 28 0) (v.i 32 0) (v.b 3 0) (v.i 3 1) (v.i 3 2) (v.i 3 3) (v.i 3 4) (v.s 3 5) (v.s 3 6) (v.i 3 7) f (qcx K) (qc2 KK)) (fun f v=>f (v.i 32 0) (v.b 3 0) (v.i 3 1) (v.i 3 2) (v.i 3 3) (v.i 3 4) (v.s 3 5) (v.s 3 6) (v.i 3 7)) (fun k v=>(fun z0 z1 z2 z3 z4 z5 z6 z7 z8=>k (((((((((v.ui 32 0 z0).ub 3 0 z1).ui 3 1 z2).ui 3 2 z3).ui 3 3 z4).ui 3 4 z5).us 3 5 z6).us 3 6 z7).ui 3 7 z8)))
def qg2 {R:Type}(KK:AV->Mem->Option R):=(fun v4 Av Aw Ax Ay Az A0 A1 A2=>KK (.int .i64 v4) (qh [(some (.box true (qp Av Aw Ax Ay Az A0 A1 A2)))]))
def qbo {R:Type}(v0:LA)(Av:Bool)(Aw Ax Ay Az:Int)(A0 A1:LU)(A2:Int)(kr:Int->Bool->Int->Int->Int->Int->(List UInt8)->(List UInt8)->Int->Option R):Option R:=
 (qde v0 (v0.length:Int) (fun b0_0q1 b0_1q2 b0_2q3 b0_3q4 b0_4q5 b0_5q6 b0_6q7 b0_7q8=>(kr (-1:Int) b0_0q1 b0_1q2 b0_2q3 b0_3q4 b0_4q5 b0_5q6 b0_6q7 b0_7q8)) kr FU (0:Int) Av Aw Ax Ay Az A0 A1 A2)
def qcb {R:Type}:=hull (qbo (R:=R))
theorem qg3 {R:Type}:qcb (R:=R)=qbo:=qa _
def qhd {R:Type}:RefB Tryz.prog R:=refB (nt:=19) (nb:=1) tabOk follows Tryz.func125 [.t 4] (fun KK=>.s .z (.s (.s .z (.b (.sub [.sel [0,1,7,8] [0]] (qgq KK) []))) (.s .z (.v [.sel [4] [0]])))) S31_ (qbo (R:=R)) (fun f v KK=>f (v.l 0 0) (v.b 3 0) (v.i 3 1) (v.i 3 2) (v.i 3 3) (v.i 3 4) (v.s 3 5) (v.s 3 6) (v.i 3 7) (qg2 KK)) (by kernel_rfl) (by kernel_rfl) (fun _=>(by kernel_rfl)) rfl
def qbj5 {R:Type}(vs:LA)(m:Mem)(K:AV->Mem->Option R):Option R:=qwf 8 80 vs m K
theorem qbj6 {R:Type}:qkw Tryz.prog 145 (qbj5 (R:=R)):=qbjj (ρ:=q01 145 177 178 0 3 4 22 33) tabOk (qbgn follows "slices.Insert[[]ddi/api.Block,ddi/api.Block]" (by kernel_rfl) (by kernel_rfl) Tryz.func177 (by kernel_rfl) (by kernel_rfl) (by kernel_rfl) (by kernel_rfl) (by kernel_rfl) (by kernel_rfl) (by kernel_rfl) (by kernel_rfl) (by kernel_rfl) (by kernel_rfl) (by kernel_rfl) (by kernel_rfl) (by kernel_rfl) (by kernel_rfl) (by kernel_rfl) (by kernel_rfl) (by kernel_rfl)) (by kernel_rfl) (by kernel_rfl) (by decide) (by decide)
def S32_:Shp:=⟨[(0,.one (.l (.sl 8))),(3,.one (.ptr 0 0)),(5,.one (.l (.i .i64)))],[.box true (lk qb)]⟩
def q6c (v0:LA)(Av:Bool)(Aw Ax Ay Az:Int)(A0 A1:LU)(A2:Int)(K:Ex->Env->Mem->Option (List AV)):=(fun z_v5=>K .norm (qk [(0,(.sl 8 v0)),(3,(.ptr 0 0)),(5,(.int .i64 z_v5))]) (qh [(some (.box true (qp Av Aw Ax Ay Az A0 A1 A2)))]))
def qj6 (v0:LA)(v5:Int)(Av:Bool)(Aw Ax Ay Az:Int)(A0 A1:LU)(A2:Int)(kn:Int->Option (List AV)):Option (List AV):=
 (bif(decide (v5<0))then(kn (v0.length:Int))else(kn v5))
def qya:=hull (qj6)
theorem q6d:qya=qj6:=qa _
def q7s:SubB Tryz.prog (TIof Tryz.prog) 19 0 (kret [.t 4] (decF true 8)):=jnB tabOk follows Tryz.f94 11 (.s .z (.s (.v [.sel [0,3,5] [0]]) (.v [.sel [0,3,5] [0]]))) S32_ (qj6) (fun f v K=>f (v.l 0 0) (v.i 20 0) (v.b 3 0) (v.i 3 1) (v.i 3 2) (v.i 3 3) (v.i 3 4) (v.s 3 5) (v.s 3 6) (v.i 3 7) (q6c (v.l 0 0) (v.b 3 0) (v.i 3 1) (v.i 3 2) (v.i 3 3) (v.i 3 4) (v.s 3 5) (v.s 3 6) (v.i 3 7) K))
def qn8 (v0:LA)(B7:Bool)(B8 B9 Ca Cb:Int)(Cc Cd:LU)(Ce:Int):Option (List AV):=
 (qcb v0 B7 B8 B9 Ca Cb Cc Cd Ce fun v4q1 b0_0q2 b0_1q3 b0_2q4 b0_3q5 b0_4q6 b0_5q7 b0_6q8 b0_7q9=>(qya v0 v4q1 b0_0q2 b0_1q3 b0_2q4 b0_3q5 b0_4q6 b0_5q7 b0_6q8 b0_7q9 (fun v5q10=>(oB (qr v0) fun r11=>(bif hd r11 r11.length then(bif hd ([(.agg [(.bool b0_0q2),(.int .u64 b0_1q3),(.int .u64 b0_2q4),(.int .i64 b0_3q5),(.int .i64 b0_4q6),(.str b0_5q7),(.str b0_6q8),(.int .i64 b0_7q9)])]:List AV) (([(.agg [(.bool b0_0q2),(.int .u64 b0_1q3),(.int .u64 b0_2q4),(.int .i64 b0_3q5),(.int .i64 b0_4q6),(.str b0_5q7),(.str b0_6q8),(.int .i64 b0_7q9)])]:List AV).length)then(oB (qly 80 r11 v5q10 ([(.agg [(.bool b0_0q2),(.int .u64 b0_1q3),(.int .u64 b0_2q4),(.int .i64 b0_3q5),(.int .i64 b0_4q6),(.str b0_5q7),(.str b0_6q8),(.int .i64 b0_7q9)])]:List AV)) fun r12=>(bif hd r12 r12.length then(some r12)else none))else none)else none)))))
def qwp:=hull qn8
theorem qbc4:qwp=qn8:=qa _
def qbev {R:Type}:EntF Tryz.prog R:=entB (nt:=19) (dec:=(decF true 8)) (enc:=(AV.fr true 8)) tabOk follows Tryz.func94 [.t 4] hdeF (.s .z (.s (.r [(2,.s (.sel [0,3,6,7] [0])),(2,.r qhd)] []) (.s (.sub [.sel [0,3,5] [0]] q7s []) (.s (.d3 [] [14,17] [(1,.c (eB qd6))] [(0,.r (rB qbj6))] []) .z)))) S25_ qn8 (fun f v=>f (v.l 0 0) (v.b 5 0) (v.i 5 1) (v.i 5 2) (v.i 5 3) (v.i 5 4) (v.s 5 5) (v.s 5 6) (v.i 5 7))
def S33_:Shp:=⟨[(0,.one (.l (.sl 8))),(3,.one (.ptr 0 0))],[.box true (lk qb)]⟩
def q1z:AV->Option ((List AV)×Int):=decN [(.one (.sl 8)),(.one (.i .i64))] fun z=>(aL (gC (tpL z) 0),aI (gC (tpL z) 1))
def qba1 (v0:LA)(Av:Bool)(Aw Ax Ay Az:Int)(A0 A1:LU)(A2:Int)(K:Ex->Env->Mem->Option ((List AV)×Int)):=(fun z_v25=>K .norm (qk [(0,(.sl 8 v0)),(3,(.ptr 0 0)),(25,(.bool z_v25))]) (qh [(some (.box true (qp Av Aw Ax Ay Az A0 A1 A2)))]))
def ql9 (v0:LA)(Av:Bool)(Aw Ax Ay Az:Int)(A0 A1:LU)(A2:Int)(kn:Bool->Option ((List AV)×Int)):Option ((List AV)×Int):=
 (oB (qjh v0 Av Aw Ax Ay Az A0 A1 A2) fun r1=>(bif r1 then(kn true)else(oB (qn7 v0 Av Aw Ax Ay) fun r2=>(kn r2))))
def q10:=hull (ql9)
theorem qba2:q10=ql9:=qa _
def qbc5:SubB Tryz.prog (TIof Tryz.prog) 32 0 (kret [.t 4,.t 5] q1z):=jnB tabOk follows Tryz.f37 39 (.r [(2,.c qvv.b),(7,.c qw1.b)] [.sel [0,3,25] [0]]) S33_ (ql9) (fun f v K=>f (v.l 0 0) (v.b 3 0) (v.i 3 1) (v.i 3 2) (v.i 3 3) (v.i 3 4) (v.s 3 5) (v.s 3 6) (v.i 3 7) (qba1 (v.l 0 0) (v.b 3 0) (v.i 3 1) (v.i 3 2) (v.i 3 3) (v.i 3 4) (v.s 3 5) (v.s 3 6) (v.i 3 7) K))
def qs6 (v0:LA)(B7:Bool)(B8 B9 Ca Cb:Int)(Cc Cd:LU)(Ce:Int):Option ((List AV)×Int):=
 (oB (qo3 B7 B8 B9 Ca Cb Cc Cd Ce) fun r1=>(bif(r1 != (0:Int))then(some (([]:List AV),r1))else(oB (qo4 v0 B7 B8 B9 Ca) fun r2=>(bif(decide (r2>=0))then(some (([]:List AV),(12:Int)))else(q10 v0 B7 B8 B9 Ca Cb Cc Cd Ce (fun v25q3=>(bif v25q3 then(some (([]:List AV),(24:Int)))else(bif(decide ((v0.length:Int)>=512))then(some (([]:List AV),(9:Int)))else(oB (qwp v0 B7 B8 B9 Ca Cb Cc Cd Ce) fun r4=>(some (r4,(0:Int))))))))))))
def qxg:=hull qs6
theorem qbj7:qxg=qs6:=qa _
def q7t {R:Type}:EntF Tryz.prog R:=entB (nt:=32) (dec:=q1z) (enc:=(fun r=>.tup [.sl 8 r.1,.int .i64 r.2])) tabOk follows Tryz.func37 [.t 4,.t 5] (hdeN fun _=>rfl) (.s .z (.s (.s (.r [(1,.c q1v.b)] []) (.s .z (.s (.s .z (.v [.eta 4 (.one (.sl 8))])) .z))) (.s (.s (.r [(3,.c qui.b)] []) (.s (.s .z (.v [.eta 4 (.one (.sl 8))])) .z)) (.s (.s (.sub [.sel [0,3] [0]] qbc5 []) (.s (.s .z (.v [.eta 4 (.one (.sl 8))])) .z)) (.s (.s .z (.s (.s .z (.v [.eta 4 (.one (.sl 8))])) .z)) (.s (.r [(2,.k qbev.b)] []) .z)))))) S25_ qs6 (fun f v=>f (v.l 0 0) (v.b 5 0) (v.i 5 1) (v.i 5 2) (v.i 5 3) (v.i 5 4) (v.s 5 5) (v.s 5 6) (v.i 5 7))
def qbj8 {R:Type}(vs:LA)(m:Mem)(K:AV->Mem->Option R):Option R:=qwe 8 vs m K
theorem qbj9 {R:Type}:qkw Tryz.prog 146 (qbj8 (R:=R)):=qbji (ρ:=q00 146 0 3 4 22 33) tabOk (qbgm follows "slices.Delete[[]ddi/api.Block,ddi/api.Block]" (by kernel_rfl) (by kernel_rfl) (by kernel_rfl) (by kernel_rfl) (by kernel_rfl) (by kernel_rfl) (by kernel_rfl) (by kernel_rfl) (by kernel_rfl) (by kernel_rfl) (by kernel_rfl) (by kernel_rfl) (by kernel_rfl) (by kernel_rfl)) (by kernel_rfl) (by decide)
def S34_:Shp:=⟨[(0,.one (.l (.sl 8))),(1,.one (.l (.i .i64)))],[]⟩
def qma (v0:LA)(v1:Int):Option (List AV):=
 (oB (qr v0) fun r1=>(bif hd r1 r1.length then(oB (qsw r1 v1 (IntKind.i64.wrap (v1+1))) fun r2=>(bif hd r2 r2.length then(some r2)else none))else none))
def qpy:=hull qma
theorem qba3:qpy=qma:=qa _
def qbc6 {R:Type}:EntF Tryz.prog R:=entB (nt:=11) (dec:=(decF true 8)) (enc:=(AV.fr true 8)) tabOk follows Tryz.func95 [.t 4] hdeF (.s .z (.s (.r [(1,.c (eB qd6)),(5,.r (rB qbj9))] []) .z)) S34_ qma (fun f v=>f (v.l 0 0) (v.i 4 0))
def qba4:AV->Option ((List AV)×Int):=decN [(.one (.sl 8)),(.one (.i .i64))] fun z=>(aL (gC (tpL z) 0),aI (gC (tpL z) 1))
def qn9 (v0:LA)(B7:Bool)(B8 B9 Ca:Int):Option ((List AV)×Int):=
 (oB (qo4 v0 B7 B8 B9 Ca) fun r1=>(bif(decide (r1<0))then(some (([]:List AV),(11:Int)))else(oB (qn7 v0 B7 B8 B9 Ca) fun r2=>(bif r2 then(some (([]:List AV),(25:Int)))else(oB (qpy v0 r1) fun r3=>(some (r3,(0:Int))))))))
def qwq:=hull qn9
theorem qbc7:qwq=qn9:=qa _
def qbew {R:Type}:EntF Tryz.prog R:=entB (nt:=18) (dec:=qba4) (enc:=(fun r=>.tup [.sl 8 r.1,.int .i64 r.2])) tabOk follows Tryz.func38 [.t 4,.t 5] (hdeN fun _=>rfl) (.s .z (.s (.r [(2,.c qui.b)] []) (.s (.s .z (.s (.s .z (.v [.eta 4 (.one (.sl 8))])) .z)) (.s (.s (.r [(2,.c qw1.b)] []) (.s (.s .z (.v [.eta 4 (.one (.sl 8))])) .z)) (.s (.r [(2,.k qbc6.b)] []) .z))))) S16_ qn9 (fun f v=>f (v.l 0 0) (v.b 5 0) (v.i 5 1) (v.i 5 2) (v.i 5 3))
def qj:List LT:=[.s,.b,(.i .u64),(.i .u64),(.i .i64)]
def S35_:Shp:=⟨[(0,.st (lk qb)),(1,.one (.ptr 1 0))],[.box true (lk qb),.box true (lk qee),.box true (lk qb),.box true (lk qb),.box true (lk qb)]⟩
def q7u {R:Type}(KK:AV->Mem->Option R):=(fun v3 Av Aw Ax Ay Az A0 A1 A2 Ad Ae Af Au Bc Bd Be Bf Bg Bh Bi Cf Cg Ch Ci Cj Ck Cl Cm Cn Co Cp Cq Cr Cs Ct Cu=>KK (.bool v3) (qh [(some (.box true (qp Av Aw Ax Ay Az A0 A1 A2))),(some (.box true (qge Ad Ae Af))),(some (.box true (qp Au Bc Bd Be Bf Bg Bh Bi))),(some (.box true (qp Cf Cg Ch Ci Cj Ck Cl Cm))),(some (.box true (qp Cn Co Cp Cq Cr Cs Ct Cu)))]))
def qk6 {R:Type}(Aa:Bool)(Ab Ac Bt Bu:Int)(Bv Bw:LU)(Bx:Int)(Av:Bool)(Aw Ax Ay Az:Int)(A0 A1:LU)(A2:Int)(Ad:Bool)(Ae Af:Int)(Au:Bool)(Bc Bd Be Bf:Int)(Bg Bh:LU)(Bi:Int)(Cf:Bool)(Cg Ch Ci Cj:Int)(Ck Cl:LU)(Cm:Int)(Cn:Bool)(Co Cp Cq Cr:Int)(Cs Ct:LU)(Cu:Int)(kr:Bool->Bool->Int->Int->Int->Int->(List UInt8)->(List UInt8)->Int->Bool->Int->Int->Bool->Int->Int->Int->Int->(List UInt8)->(List UInt8)->Int->Bool->Int->Int->Int->Int->(List UInt8)->(List UInt8)->Int->Bool->Int->Int->Int->Int->(List UInt8)->(List UInt8)->Int->Option R):Option R:=
 (oB (qn4 Aa Ab Ac Bt Ad Ae Af) fun r1=>(kr r1 Av Aw Ax Ay Az A0 A1 A2 Ad Ae Af Au Bc Bd Be Bf Bg Bh Bi Cf Cg Ch Ci Cj Ck Cl Cm Cn Co Cp Cq Cr Cs Ct Cu))
def qz6 {R:Type}:=hull (qk6 (R:=R))
theorem q7v {R:Type}:qz6 (R:=R)=qk6:=qa _
def qba5 {R:Type}:RefB Tryz.prog R:=refB (nt:=8) (nb:=5) tabOk follows Tryz.func148 [.t 3] (fun KK=>.s .z (.s (.r [(3,.c qw0.b)] []) (.v [.sel [3] [0,1,2,3,4]]))) S35_ (qk6 (R:=R)) (fun f v KK=>f (v.b 1 0) (v.i 1 1) (v.i 1 2) (v.i 1 3) (v.i 1 4) (v.s 1 5) (v.s 1 6) (v.i 1 7) (v.b 3 0) (v.i 3 1) (v.i 3 2) (v.i 3 3) (v.i 3 4) (v.s 3 5) (v.s 3 6) (v.i 3 7) (v.b 7 0) (v.i 7 1) (v.i 7 2) (v.b 11 0) (v.i 11 1) (v.i 11 2) (v.i 11 3) (v.i 11 4) (v.s 11 5) (v.s 11 6) (v.i 11 7) (v.b 15 0) (v.i 15 1) (v.i 15 2) (v.i 15 3) (v.i 15 4) (v.s 15 5) (v.s 15 6) (v.i 15 7) (v.b 19 0) (v.i 19 1) (v.i 19 2) (v.i 19 3) (v.i 19 4) (v.s 19 5) (v.s 19 6) (v.i 19 7) (q7u KK)) (by kernel_rfl) (by kernel_rfl) (fun _=>(by kernel_rfl)) rfl
def S36_:Shp:=⟨[(1,.one (.fn 148 [(1,0)])),(4,.one (.ptr 2 0)),(6,.one (.ptr 3 0)),(7,.one (.l .b)),(9,.one (.ptr 4 0)),(10,.one (.l (.sl 8))),(11,.one (.l (.i .i64))),(12,.one (.l (.i .i64)))],[.box true (lk qb),.box true (lk qee),.box true (lk qb),.box true (lk qb),.box true (lk qb)]⟩
def S37_:Shp:=⟨[(1,.one (.fn 148 [(1,0)])),(4,.one (.ptr 2 0)),(6,.one (.ptr 3 0)),(7,.one (.l .b)),(10,.one (.l (.sl 8))),(11,.one (.l (.i .i64))),(12,.one (.l (.i .i64)))],[.box true (lk qb),.box true (lk qee),.box true (lk qb),.box true (lk qb)]⟩
def S38_:Shp:=⟨[(0,.one (.l (.sl 8))),(1,.one (.fn 148 [(1,0)]))],[.box true (lk qb),.box true (lk qee)]⟩
def qnp {R:Type}(v7:Bool)(v10:LA)(v11 v12:Int)(K:Ex->Env->Mem->Option R):=(fun z_v31 z_b0_0 z_b0_1 z_b0_2 z_b0_3 z_b0_4 z_b0_5 z_b0_6 z_b0_7 z_b1_0 z_b1_1 z_b1_2 z_b2_0 z_b2_1 z_b2_2 z_b2_3 z_b2_4 z_b2_5 z_b2_6 z_b2_7 z_b3_0 z_b3_1 z_b3_2 z_b3_3 z_b3_4 z_b3_5 z_b3_6 z_b3_7 z_b4_0 z_b4_1 z_b4_2 z_b4_3 z_b4_4 z_b4_5 z_b4_6 z_b4_7=>K .norm (qk [(1,(.func 148 [(.ptr 1 0)])),(4,(.ptr 2 0)),(6,(.ptr 3 0)),(7,(.bool v7)),(9,(.ptr 4 0)),(10,(.sl 8 v10)),(11,(.int .i64 v11)),(12,(.int .i64 v12)),(31,(.bool z_v31))]) (qh [(some (.box true (qp z_b0_0 z_b0_1 z_b0_2 z_b0_3 z_b0_4 z_b0_5 z_b0_6 z_b0_7))),(some (.box true (qge z_b1_0 z_b1_1 z_b1_2))),(some (.box true (qp z_b2_0 z_b2_1 z_b2_2 z_b2_3 z_b2_4 z_b2_5 z_b2_6 z_b2_7))),(some (.box true (qp z_b3_0 z_b3_1 z_b3_2 z_b3_3 z_b3_4 z_b3_5 z_b3_6 z_b3_7))),(some (.box true (qp z_b4_0 z_b4_1 z_b4_2 z_b4_3 z_b4_4 z_b4_5 z_b4_6 z_b4_7)))]))
def qct {R:Type}(v7:Bool)(v10:LA)(v11 v12:Int)(Av:Bool)(Aw Ax Ay Az:Int)(A0 A1:LU)(A2:Int)(Ad:Bool)(Ae Af:Int)(Au:Bool)(Bc Bd Be Bf:Int)(Bg Bh:LU)(Bi:Int)(Cf:Bool)(Cg Ch Ci Cj:Int)(Ck Cl:LU)(Cm:Int)(Cn:Bool)(Co Cp Cq Cr:Int)(Cs Ct:LU)(Cu:Int)(kn:Bool->Bool->Int->Int->Int->Int->(List UInt8)->(List UInt8)->Int->Bool->Int->Int->Bool->Int->Int->Int->Int->(List UInt8)->(List UInt8)->Int->Bool->Int->Int->Int->Int->(List UInt8)->(List UInt8)->Int->Bool->Int->Int->Int->Int->(List UInt8)->(List UInt8)->Int->Option R):Option R:=
 (qz6 Cn Co Cp Cq Cr Cs Ct Cu Av Aw Ax Ay Az A0 A1 A2 Ad Ae Af Au Bc Bd Be Bf Bg Bh Bi Cf Cg Ch Ci Cj Ck Cl Cm Cn Co Cp Cq Cr Cs Ct Cu fun v3q1 b0_0q2 b0_1q3 b0_2q4 b0_3q5 b0_4q6 b0_5q7 b0_6q8 b0_7q9 b1_0q10 b1_1q11 b1_2q12 b2_0q13 b2_1q14 b2_2q15 b2_3q16 b2_4q17 b2_5q18 b2_6q19 b2_7q20 b3_0q21 b3_1q22 b3_2q23 b3_3q24 b3_4q25 b3_5q26 b3_6q27 b3_7q28 b4_0q29 b4_1q30 b4_2q31 b4_3q32 b4_4q33 b4_5q34 b4_6q35 b4_7q36=>(bif v3q1 then(bif(!v7)then(kn true b0_0q2 b0_1q3 b0_2q4 b0_3q5 b0_4q6 b0_5q7 b0_6q8 b0_7q9 b1_0q10 b1_1q11 b1_2q12 b2_0q13 b2_1q14 b2_2q15 b2_3q16 b2_4q17 b2_5q18 b2_6q19 b2_7q20 b3_0q21 b3_1q22 b3_2q23 b3_3q24 b3_4q25 b3_5q26 b3_6q27 b3_7q28 b4_0q29 b4_1q30 b4_2q31 b4_3q32 b4_4q33 b4_5q34 b4_6q35 b4_7q36)else(kn (decide (b4_3q32>b3_3q24)) b0_0q2 b0_1q3 b0_2q4 b0_3q5 b0_4q6 b0_5q7 b0_6q8 b0_7q9 b1_0q10 b1_1q11 b1_2q12 b2_0q13 b2_1q14 b2_2q15 b2_3q16 b2_4q17 b2_5q18 b2_6q19 b2_7q20 b3_0q21 b3_1q22 b3_2q23 b3_3q24 b3_4q25 b3_5q26 b3_6q27 b3_7q28 b4_0q29 b4_1q30 b4_2q31 b4_3q32 b4_4q33 b4_5q34 b4_6q35 b4_7q36))else(kn false b0_0q2 b0_1q3 b0_2q4 b0_3q5 b0_4q6 b0_5q7 b0_6q8 b0_7q9 b1_0q10 b1_1q11 b1_2q12 b2_0q13 b2_1q14 b2_2q15 b2_3q16 b2_4q17 b2_5q18 b2_6q19 b2_7q20 b3_0q21 b3_1q22 b3_2q23 b3_3q24 b3_4q25 b3_5q26 b3_6q27 b3_7q28 b4_0q29 b4_1q30 b4_2q31 b4_3q32 b4_4q33 b4_5q34 b4_6q35 b4_7q36)))
def qh7 {R:Type}:=hull (qct (R:=R))
theorem qnq {R:Type}:qh7 (R:=R)=qct:=qa _
def qow {R:Type}(KK:AV->Mem->Option R):SubB Tryz.prog (TIof Tryz.prog) 36 2 (qdd [(.cell 4 true 8),.t 5] KK):=jnB tabOk follows Tryz.f147 10647 (.r [(2,.s (.sel [1,4,6,7,9,10,11,12,16,17] [0,1,2,3,4])),(2,.r qba5)] [.sel [1,4,6,7,9,10,11,12,31] [0,1,2,3,4]]) S36_ (qct (R:=R)) (fun f v K=>f (v.b 28 0) (v.l 40 0) (v.i 44 0) (v.i 48 0) (v.b 3 0) (v.i 3 1) (v.i 3 2) (v.i 3 3) (v.i 3 4) (v.s 3 5) (v.s 3 6) (v.i 3 7) (v.b 7 0) (v.i 7 1) (v.i 7 2) (v.b 11 0) (v.i 11 1) (v.i 11 2) (v.i 11 3) (v.i 11 4) (v.s 11 5) (v.s 11 6) (v.i 11 7) (v.b 15 0) (v.i 15 1) (v.i 15 2) (v.i 15 3) (v.i 15 4) (v.s 15 5) (v.s 15 6) (v.i 15 7) (v.b 19 0) (v.i 19 1) (v.i 19 2) (v.i 19 3) (v.i 19 4) (v.s 19 5) (v.s 19 6) (v.i 19 7) (qnp (v.b 28 0) (v.l 40 0) (v.i 44 0) (v.i 48 0) K))
def qgf {R:Type}(K:Ex->Env->Mem->Option R):=(fun z_v7 z_b0_0 z_b0_1 z_b0_2 z_b0_3 z_b0_4 z_b0_5 z_b0_6 z_b0_7 z_b1_0 z_b1_1 z_b1_2 z_b2_0 z_b2_1 z_b2_2 z_b2_3 z_b2_4 z_b2_5 z_b2_6 z_b2_7 z_b3_0 z_b3_1 z_b3_2 z_b3_3 z_b3_4 z_b3_5 z_b3_6 z_b3_7=>K (.exit 0) (qk [(4,(.ptr 2 0)),(6,(.ptr 3 0)),(7,(.bool z_v7))]) (qh [(some (.box true (qp z_b0_0 z_b0_1 z_b0_2 z_b0_3 z_b0_4 z_b0_5 z_b0_6 z_b0_7))),(some (.box true (qge z_b1_0 z_b1_1 z_b1_2))),(some (.box true (qp z_b2_0 z_b2_1 z_b2_2 z_b2_3 z_b2_4 z_b2_5 z_b2_6 z_b2_7))),(some (.box true (qp z_b3_0 z_b3_1 z_b3_2 z_b3_3 z_b3_4 z_b3_5 z_b3_6 z_b3_7)))]))
def qb2 {R:Type}(v7:Bool)(v10:LA)(v11 v12:Int)(Av:Bool)(Aw Ax Ay Az:Int)(A0 A1:LU)(A2:Int)(Ad:Bool)(Ae Af:Int)(Au:Bool)(Bc Bd Be Bf:Int)(Bg Bh:LU)(Bi:Int)(Cf:Bool)(Cg Ch Ci Cj:Int)(Ck Cl:LU)(Cm:Int)(next:Bool->Int->Bool->Int->Int->Int->Int->(List UInt8)->(List UInt8)->Int->Bool->Int->Int->Bool->Int->Int->Int->Int->(List UInt8)->(List UInt8)->Int->Bool->Int->Int->Int->Int->(List UInt8)->(List UInt8)->Int->Option R)(kx0:Bool->Bool->Int->Int->Int->Int->(List UInt8)->(List UInt8)->Int->Bool->Int->Int->Bool->Int->Int->Int->Int->(List UInt8)->(List UInt8)->Int->Bool->Int->Int->Int->Int->(List UInt8)->(List UInt8)->Int->Option R):Option R:=
 (bif(decide (v12<v11))then(oB (ixB v10 v12) fun y1=>(bif fitC qb y1.cells then(qh7 v7 v10 v11 v12 Av Aw Ax Ay Az A0 A1 A2 Ad Ae Af Au Bc Bd Be Bf Bg Bh Bi Cf Cg Ch Ci Cj Ck Cl Cm (gB y1.cells 0) (gI y1.cells 1) (gI y1.cells 2) (gI y1.cells 3) (gI y1.cells 4) (gS y1.cells 5) (gS y1.cells 6) (gI y1.cells 7) (fun v31q2 b0_0q3 b0_1q4 b0_2q5 b0_3q6 b0_4q7 b0_5q8 b0_6q9 b0_7q10 b1_0q11 b1_1q12 b1_2q13 b2_0q14 b2_1q15 b2_2q16 b2_3q17 b2_4q18 b2_5q19 b2_6q20 b2_7q21 b3_0q22 b3_1q23 b3_2q24 b3_3q25 b3_4q26 b3_5q27 b3_6q28 b3_7q29 b4_0q30 b4_1q31 b4_2q32 b4_3q33 b4_4q34 b4_5q35 b4_6q36 b4_7q37=>(bif v31q2 then(next true (IntKind.i64.wrap (v12+1)) b0_0q3 b0_1q4 b0_2q5 b0_3q6 b0_4q7 b0_5q8 b0_6q9 b0_7q10 b1_0q11 b1_1q12 b1_2q13 b2_0q14 b2_1q15 b2_2q16 b2_3q17 b2_4q18 b2_5q19 b2_6q20 b2_7q21 b4_0q30 b4_1q31 b4_2q32 b4_3q33 b4_4q34 b4_5q35 b4_6q36 b4_7q37)else(next v7 (IntKind.i64.wrap (v12+1)) b0_0q3 b0_1q4 b0_2q5 b0_3q6 b0_4q7 b0_5q8 b0_6q9 b0_7q10 b1_0q11 b1_1q12 b1_2q13 b2_0q14 b2_1q15 b2_2q16 b2_3q17 b2_4q18 b2_5q19 b2_6q20 b2_7q21 b3_0q22 b3_1q23 b3_2q24 b3_3q25 b3_4q26 b3_5q27 b3_6q28 b3_7q29))))else none))else(kx0 v7 Av Aw Ax Ay Az A0 A1 A2 Ad Ae Af Au Bc Bd Be Bf Bg Bh Bi Cf Cg Ch Ci Cj Ck Cl Cm))
def qbu {R:Type}(v10:LA)(v11:Int)(kx0:Bool->Bool->Int->Int->Int->Int->(List UInt8)->(List UInt8)->Int->Bool->Int->Int->Bool->Int->Int->Int->Int->(List UInt8)->(List UInt8)->Int->Bool->Int->Int->Int->Int->(List UInt8)->(List UInt8)->Int->Option R):Nat->Bool->Int->Bool->Int->Int->Int->Int->(List UInt8)->(List UInt8)->Int->Bool->Int->Int->Bool->Int->Int->Int->Int->(List UInt8)->(List UInt8)->Int->Bool->Int->Int->Int->Int->(List UInt8)->(List UInt8)->Int->Option R
 |0=>(fun _ _ _ _ _ _ _ _ _ _ _ _ _ _ _ _ _ _ _ _ _ _ _ _ _ _ _ _ _=>none)
 |n+1=>(fun v7 v12 Av Aw Ax Ay Az A0 A1 A2 Ad Ae Af Au Bc Bd Be Bf Bg Bh Bi Cf Cg Ch Ci Cj Ck Cl Cm=>qb2 v7 v10 v11 v12 Av Aw Ax Ay Az A0 A1 A2 Ad Ae Af Au Bc Bd Be Bf Bg Bh Bi Cf Cg Ch Ci Cj Ck Cl Cm (qbu v10 v11 kx0 n) kx0)
def qh8 {R:Type}:=hull (qbu (R:=R))
theorem qnr {R:Type}:qh8 (R:=R)=qbu:=qa _
def qox {R:Type}(KK:AV->Mem->Option R):SubB Tryz.prog (TIof Tryz.prog) 36 2 (qdd [(.cell 4 true 8),.t 5] KK):=lpB tabOk follows Tryz.f147 151 (.s .z (.s (.s .z (.v [.sel [4,6,7] [0,1,2,3]])) (.s (.b (.s (.r [(0,.p (.etac 14 qb))] []) (.s (.sub [.sel [1,4,6,7,9,10,11,12] [0,1,2,3,4]] (qow KK) []) .z))) (.v [.sel [1,4,6,7,10,11,12] [0,1,2,3]])))) S37_ (qbu (R:=R)) (fun f v K n=>f (v.l 40 0) (v.i 44 0) (qgf K) n) (fun v f K=>qb2 (v.b 28 0) (v.l 40 0) (v.i 44 0) (v.i 48 0) (v.b 3 0) (v.i 3 1) (v.i 3 2) (v.i 3 3) (v.i 3 4) (v.s 3 5) (v.s 3 6) (v.i 3 7) (v.b 7 0) (v.i 7 1) (v.i 7 2) (v.b 11 0) (v.i 11 1) (v.i 11 2) (v.i 11 3) (v.i 11 4) (v.s 11 5) (v.s 11 6) (v.i 11 7) (v.b 15 0) (v.i 15 1) (v.i 15 2) (v.i 15 3) (v.i 15 4) (v.s 15 5) (v.s 15 6) (v.i 15 7) f (qgf K)) (fun f v=>f (v.b 28 0) (v.i 48 0) (v.b 3 0) (v.i 3 1) (v.i 3 2) (v.i 3 3) (v.i 3 4) (v.s 3 5) (v.s 3 6) (v.i 3 7) (v.b 7 0) (v.i 7 1) (v.i 7 2) (v.b 11 0) (v.i 11 1) (v.i 11 2) (v.i 11 3) (v.i 11 4) (v.s 11 5) (v.s 11 6) (v.i 11 7) (v.b 15 0) (v.i 15 1) (v.i 15 2) (v.i 15 3) (v.i 15 4) (v.s 15 5) (v.s 15 6) (v.i 15 7)) (fun k v=>(fun z0 z1 z2 z3 z4 z5 z6 z7 z8 z9 z10 z11 z12 z13 z14 z15 z16 z17 z18 z19 z20 z21 z22 z23 z24 z25 z26 z27 z28=>k (((((((((((((((((((((((((((((v.ub 28 0 z0).ui 48 0 z1).ub 3 0 z2).ui 3 1 z3).ui 3 2 z4).ui 3 3 z5).ui 3 4 z6).us 3 5 z7).us 3 6 z8).ui 3 7 z9).ub 7 0 z10).ui 7 1 z11).ui 7 2 z12).ub 11 0 z13).ui 11 1 z14).ui 11 2 z15).ui 11 3 z16).ui 11 4 z17).us 11 5 z18).us 11 6 z19).ui 11 7 z20).ub 15 0 z21).ui 15 1 z22).ui 15 2 z23).ui 15 3 z24).ui 15 4 z25).us 15 5 z26).us 15 6 z27).ui 15 7 z28)))
def qqp {R:Type}(KK:AV->Mem->Option R):=(fun v5 Av Aw Ax Ay Az A0 A1 A2 Ad Ae Af Au Bc Bd Be Bf Bg Bh Bi=>KK (.tup [(.agg [(.bool Au),(.int .u64 Bc),(.int .u64 Bd),(.int .i64 Be),(.int .i64 Bf),(.str Bg),(.str Bh),(.int .i64 Bi)]),(.bool v5)]) (qh [(some (.box true (qp Av Aw Ax Ay Az A0 A1 A2))),(some (.box true (qge Ad Ae Af))),(some (.box true (qp Au Bc Bd Be Bf Bg Bh Bi)))]))
def qdk {R:Type}(v0:LA)(Av:Bool)(Aw Ax Ay Az:Int)(A0 A1:LU)(A2:Int)(Ad:Bool)(Ae Af:Int)(kr:Bool->Bool->Int->Int->Int->Int->(List UInt8)->(List UInt8)->Int->Bool->Int->Int->Bool->Int->Int->Int->Int->(List UInt8)->(List UInt8)->Int->Option R):Option R:=
 (qh8 v0 (v0.length:Int) (fun v7q1 b0_0q2 b0_1q3 b0_2q4 b0_3q5 b0_4q6 b0_5q7 b0_6q8 b0_7q9 b1_0q10 b1_1q11 b1_2q12 b2_0q13 b2_1q14 b2_2q15 b2_3q16 b2_4q17 b2_5q18 b2_6q19 b2_7q20 b3_0q21 b3_1q22 b3_2q23 b3_3q24 b3_4q25 b3_5q26 b3_6q27 b3_7q28=>(kr v7q1 b0_0q2 b0_1q3 b0_2q4 b0_3q5 b0_4q6 b0_5q7 b0_6q8 b0_7q9 b1_0q10 b1_1q11 b1_2q12 b3_0q21 b3_1q22 b3_2q23 b3_3q24 b3_4q25 b3_5q26 b3_6q27 b3_7q28)) FU false (0:Int) Av Aw Ax Ay Az A0 A1 A2 Ad Ae Af false (0:Int) (0:Int) (0:Int) (0:Int) ([]:List UInt8) ([]:List UInt8) (0:Int) false (0:Int) (0:Int) (0:Int) (0:Int) ([]:List UInt8) ([]:List UInt8) (0:Int))
def qjw {R:Type}:=hull (qdk (R:=R))
theorem qqq {R:Type}:qjw (R:=R)=qdk:=qa _
def qqw {R:Type}:RefB Tryz.prog R:=refB (nt:=36) (nb:=2) tabOk follows Tryz.func147 [(.cell 4 true 8),.t 5] (fun KK=>.s .z (.s .z (.s .z (.s (.s .z (.b (.sub [.sel [1,4,6,7,10,11,12] [0,1,2,3]] (qox KK) []))) (.s .z (.v [.sel [4,5] [0,1,2]])))))) S38_ (qdk (R:=R)) (fun f v KK=>f (v.l 0 0) (v.b 3 0) (v.i 3 1) (v.i 3 2) (v.i 3 3) (v.i 3 4) (v.s 3 5) (v.s 3 6) (v.i 3 7) (v.b 7 0) (v.i 7 1) (v.i 7 2) (qqp KK)) (by kernel_rfl) (by kernel_rfl) (fun _=>(by kernel_rfl)) rfl
def S39_:Shp:=⟨[(0,.one (.l (.sl 8))),(1,.st (lk qee))],[]⟩
def qba6:AV->Option (AV×Bool):=decN [(.st [.b,(.i .u64),(.i .u64),(.i .i64),(.i .i64),.s,.s,(.i .i64)]),(.one .b)] fun z=>((gC (tpL z) 0),aB (gC (tpL z) 1))
def qoa (v0:LA)(B7:Bool)(B8 B9:Int):Option (AV×Bool):=
 (qjw v0 false (0:Int) (0:Int) (0:Int) (0:Int) ([]:List UInt8) ([]:List UInt8) (0:Int) B7 B8 B9 fun v5q1 b0_0q2 b0_1q3 b0_2q4 b0_3q5 b0_4q6 b0_5q7 b0_6q8 b0_7q9 b1_0q10 b1_1q11 b1_2q12 b2_0q13 b2_1q14 b2_2q15 b2_3q16 b2_4q17 b2_5q18 b2_6q19 b2_7q20=>(some ((.agg [(.bool b2_0q13),(.int .u64 b2_1q14),(.int .u64 b2_2q15),(.int .i64 b2_3q16),(.int .i64 b2_4q17),(.str b2_5q18),(.str b2_6q19),(.int .i64 b2_7q20)]),v5q1)))
def qwr:=hull qoa
theorem qbc8:qwr=qoa:=qa _
def qbex {R:Type}:EntF Tryz.prog R:=entB (nt:=11) (dec:=qba6) (enc:=(fun r=>.tup [qd4 (.st [.b,(.i .u64),(.i .u64),(.i .i64),(.i .i64),.s,.s,(.i .i64)]) r.1,.bool r.2])) tabOk follows Tryz.func97 [(.cell 4 true 8),.t 5] (hdeN fun _=>rfl) (.s .z (.s (.r [(2,.s (.sel [4,6,7] [1,0])),(2,.r qqw)] []) .z)) S39_ qoa (fun f v=>f (v.l 0 0) (v.b 5 0) (v.i 5 1) (v.i 5 2))
def S40_:Shp:=⟨[(0,.one (.l (.sl 8))),(1,.st (lk qj))],[]⟩
def qk7 (v0:LA)(B7:LU)(B8:Bool)(B9 Ca Cb:Int):Option Bool:=
 (oB (qwr v0 B8 B9 Ca) fun r1=>(bif r1.2 then(bif((gI r1.1.cells 4)==2)then(some true)else(some ((gI r1.1.cells 4)==3)))else(some false)))
def qj7:=hull qk7
theorem q7w:qj7=qk7:=qa _
def qqr {R:Type}:EntF Tryz.prog R:=entB (nt:=25) (dec:=decB) (enc:=AV.bool) tabOk follows Tryz.func41 [.t 4] hdeB (.s .z (.s (.r [(3,.c qbex.b)] []) .z)) S40_ qk7 (fun f v=>f (v.l 0 0) (v.s 5 0) (v.b 5 1) (v.i 5 2) (v.i 5 3) (v.i 5 4))
def qdf (x0 x1 x2:LA):List AV:=[.sl 8 x0,.sl 5 x1,.sl 1 x2]
def S41_:Shp:=⟨[(0,.st (lk qj)),(1,.one (.ptr 0 0))],[.box true (lk qdu),.box true [(.l .nil),(.l .nil),(.l .nil)]]⟩
def qba7 {R:Type}(KK:AV->Mem->Option R):=(fun v3 Av Aw Ax=>KK (.bool v3) (qh [(some (.box true (qdf Av Aw Ax))),(some (.box true [.nils,.nils,.nils]))]))
def qmb {R:Type}(Aa:LU)(Ab:Bool)(Ac Bt Bu:Int)(Av Aw Ax:LA)(kr:Bool->(List AV)->(List AV)->(List AV)->Option R):Option R:=
 (oB (qj7 Av Aa Ab Ac Bt Bu) fun r1=>(kr (!r1) Av Aw Ax))
def q11 {R:Type}:=hull (qmb (R:=R))
theorem qba8 {R:Type}:q11 (R:=R)=qmb:=qa _
def qbc9 {R:Type}:RefB Tryz.prog R:=refB (nt:=9) (nb:=2) tabOk follows Tryz.func40 [.t 3] (fun KK=>.s .z (.s (.r [(3,.c qqr.b)] []) (.v [.sel [3] [0,1]]))) S41_ (qmb (R:=R)) (fun f v KK=>f (v.s 1 0) (v.b 1 1) (v.i 1 2) (v.i 1 3) (v.i 1 4) (v.l 3 0) (v.l 3 1) (v.l 3 2) (qba7 KK)) (by kernel_rfl) (by kernel_rfl) (fun _=>(by kernel_rfl)) rfl
def S42_:Shp:=⟨[(0,.one (.l (.sl 5))),(1,.one (.fn 40 [(0,0)])),(7,.one (.l (.i .i64))),(8,.one (.l (.i .i64)))],[.box true (lk qdu),.box true [(.l .nil),(.l .nil),(.l .nil)]]⟩
def S43_:Shp:=⟨[(0,.one (.l (.sl 5))),(1,.one (.fn 40 [(0,0)]))],[.box true (lk qdu),.box true [(.l .nil),(.l .nil),(.l .nil)]]⟩
def qc8 {R:Type}(K:Ex->Env->Mem->Option R):=(fun z_b0_0 z_b0_1 z_b0_2=>K (.exit 0) (qk []) (qh [(some (.box true (qdf z_b0_0 z_b0_1 z_b0_2))),(some (.box true [.nils,.nils,.nils]))]))
def qdg {R:Type}(KK:AV->Mem->Option R):=(fun v4 Av Aw Ax=>KK (.int .i64 v4) (qh [(some (.box true (qdf Av Aw Ax))),(some (.box true [.nils,.nils,.nils]))]))
def q9 {R:Type}(v0:LA)(v7 v8:Int)(Av Aw Ax:LA)(next:Int->(List AV)->(List AV)->(List AV)->Option R)(kx0:(List AV)->(List AV)->(List AV)->Option R)(kr:Int->(List AV)->(List AV)->(List AV)->Option R):Option R:=
 (bif(decide (v8<v7))then(oB (ixB v0 v8) fun y1=>(bif fitC qj y1.cells then(q11 (gS y1.cells 0) (gB y1.cells 1) (gI y1.cells 2) (gI y1.cells 3) (gI y1.cells 4) Av Aw Ax fun v3q2 b0_0q3 b0_1q4 b0_2q5=>(bif v3q2 then(kr v8 b0_0q3 b0_1q4 b0_2q5)else(next (IntKind.i64.wrap (v8+1)) b0_0q3 b0_1q4 b0_2q5)))else none))else(kx0 Av Aw Ax))
def qba {R:Type}(v0:LA)(v7:Int)(kx0:(List AV)->(List AV)->(List AV)->Option R)(kr:Int->(List AV)->(List AV)->(List AV)->Option R):Nat->Int->(List AV)->(List AV)->(List AV)->Option R
 |0=>(fun _ _ _ _=>none)
 |n+1=>(fun v8 Av Aw Ax=>q9 v0 v7 v8 Av Aw Ax (qba v0 v7 kx0 kr n) kx0 kr)
def qdp {R:Type}:=hull (qba (R:=R))
theorem qg4 {R:Type}:qdp (R:=R)=qba:=qa _
def qhe {R:Type}(KK:AV->Mem->Option R):SubB Tryz.prog (TIof Tryz.prog) 19 2 (qdd [.t 4] KK):=lpB tabOk follows Tryz.f96 37 (.s .z (.s (.s .z (.v [.sel [] [0,1]])) (.s (.b (.s .z (.s (.r [(3,.p (.etac 14 qj)),(5,.s (.sel [0,1,5,7,8,11,15] [0,1])),(5,.r qbc9)] []) (.s (.s .z (.v [.sel [4] [0,1]])) .z)))) (.v [.sel [0,1,7,8] [0,1]])))) S42_ (qba (R:=R)) (fun f v K n=>f (v.l 0 0) (v.i 28 0) (qc8 K) (qdg KK) n) (fun v f K=>q9 (v.l 0 0) (v.i 28 0) (v.i 32 0) (v.l 3 0) (v.l 3 1) (v.l 3 2) f (qc8 K) (qdg KK)) (fun f v=>f (v.i 32 0) (v.l 3 0) (v.l 3 1) (v.l 3 2)) (fun k v=>(fun z0 z1 z2 z3=>k ((((v.ui 32 0 z0).ul 3 0 z1).ul 3 1 z2).ul 3 2 z3)))
def qh3 {R:Type}(KK:AV->Mem->Option R):=(fun v4 Av Aw Ax=>KK (.int .i64 v4) (qh [(some (.box true (qdf Av Aw Ax))),(some (.box true [.nils,.nils,.nils]))]))
def qbt {R:Type}(v0 Av Aw Ax:LA)(kr:Int->(List AV)->(List AV)->(List AV)->Option R):Option R:=
 (qdp v0 (v0.length:Int) (fun b0_0q1 b0_1q2 b0_2q3=>(kr (-1:Int) b0_0q1 b0_1q2 b0_2q3)) kr FU (0:Int) Av Aw Ax)
def qd0 {R:Type}:=hull (qbt (R:=R))
theorem qh4 {R:Type}:qd0 (R:=R)=qbt:=qa _
def qie {R:Type}:RefB Tryz.prog R:=refB (nt:=19) (nb:=2) tabOk follows Tryz.func96 [.t 4] (fun KK=>.s .z (.s (.s .z (.b (.sub [.sel [0,1,7,8] [0,1]] (qhe KK) []))) (.s .z (.v [.sel [4] [0,1]])))) S43_ (qbt (R:=R)) (fun f v KK=>f (v.l 0 0) (v.l 3 0) (v.l 3 1) (v.l 3 2) (qh3 KK)) (by kernel_rfl) (by kernel_rfl) (fun _=>(by kernel_rfl)) rfl
def qg5 {R:Type}(KK:AV->Mem->Option R):=(fun v4 Av Aw Ax=>KK (.bool v4) (qh [(some (.box true (qdf Av Aw Ax))),(some (.box true [.nils,.nils,.nils]))]))
def qbp {R:Type}(v0 Av Aw Ax:LA)(kr:Bool->(List AV)->(List AV)->(List AV)->Option R):Option R:=
 (qd0 v0 Av Aw Ax fun v4q1 b0_0q2 b0_1q3 b0_2q4=>(kr (decide (v4q1>=0)) b0_0q2 b0_1q3 b0_2q4))
def qcc {R:Type}:=hull (qbp (R:=R))
theorem qg6 {R:Type}:qcc (R:=R)=qbp:=qa _
def qhf {R:Type}:RefB Tryz.prog R:=refB (nt:=9) (nb:=2) tabOk follows Tryz.func39 [.t 4] (fun KK=>.s .z (.s (.r [(2,.s (.sel [5,6] [0,1])),(2,.r qie)] []) (.v [.sel [4] [0,1]]))) S43_ (qbp (R:=R)) (fun f v KK=>f (v.l 0 0) (v.l 3 0) (v.l 3 1) (v.l 3 2) (qg5 KK)) (by kernel_rfl) (by kernel_rfl) (fun _=>(by kernel_rfl)) rfl
def qbey:AV->Option (AV×Bool):=decN [(.st [.b,(.i .u64),(.i .u64),(.i .i64),(.i .i64),.s,.s,(.i .i64)]),(.one .b)] fun z=>((gC (tpL z) 0),aB (gC (tpL z) 1))
def qre (v0:LA)(B7:Bool)(B8 B9 Ca:Int):Option (AV×Bool):=
 (oB (qo4 v0 B7 B8 B9 Ca) fun r1=>(bif(decide (r1>=0))then(oB (ixB v0 r1) fun y2=>(bif fitC qb y2.cells then(some ((.agg [(.bool (gB y2.cells 0)),(.int .u64 (gI y2.cells 1)),(.int .u64 (gI y2.cells 2)),(.int .i64 (gI y2.cells 3)),(.int .i64 (gI y2.cells 4)),(.str (gS y2.cells 5)),(.str (gS y2.cells 6)),(.int .i64 (gI y2.cells 7))]),true))else none))else(some ((.agg [(.bool false),(.int .u64 (0:Int)),(.int .u64 (0:Int)),(.int .i64 (0:Int)),(.int .i64 (0:Int)),(.str ([]:List UInt8)),(.str ([]:List UInt8)),(.int .i64 (0:Int))]),false))))
def qni:=hull qre
theorem qbhi:qni=qre:=qa _
def qrf {R:Type}:EntF Tryz.prog R:=entB (nt:=17) (dec:=qbey) (enc:=(fun r=>.tup [qd4 (.st [.b,(.i .u64),(.i .u64),(.i .i64),(.i .i64),.s,.s,(.i .i64)]) r.1,.bool r.2])) tabOk follows Tryz.func51 [(.cell 4 true 8),.t 5] (hdeN fun _=>rfl) (.s .z (.s (.s (.r [(2,.c qui.b)] []) (.s .z (.s (.s (.r [(2,.p (.etac 14 qb))] []) .z) .z))) .z)) S16_ qre (fun f v=>f (v.l 0 0) (v.b 5 0) (v.i 5 1) (v.i 5 2) (v.i 5 3))
def qk8 (Aa:Bool)(Ab Ac Bt:Int):Option Int:=
 (bif Aa then(some (128:Int))else(some (32:Int)))
def qs7:=hull qk8
theorem q7x:qs7=qk8:=qa _
def qba9 {R:Type}:EntF Tryz.prog R:=entB (nt:=6) (dec:=(decI .i64)) (enc:=(AV.int .i64)) tabOk follows Tryz.func149 [.t 2] hdeI (.z) S8_ qk8 (fun f v=>f (v.b 1 0) (v.i 1 1) (v.i 1 2) (v.i 1 3))
def qmc (Aa:Bool)(Ab Ac Bt:Int)(B7:Bool)(B8 B9 Ca:Int):Option Bool:=
 (oB (qjz Aa Ab Ac Bt B7 B8 B9 Ca) fun r1=>(bif r1 then(some true)else(oB (qjz B7 B8 B9 Ca Aa Ab Ac Bt) fun r2=>(some r2))))
def quk:=hull qmc
theorem qbba:quk=qmc:=qa _
def qyb {R:Type}:EntF Tryz.prog R:=entB (nt:=13) (dec:=decB) (enc:=AV.bool) tabOk follows Tryz.func190 [.t 4] hdeB (.s .z (.s (.r [(2,.c qj4.b),(6,.c qj4.b)] []) .z)) S20_ qmc (fun f v=>f (v.b 1 0) (v.i 1 1) (v.i 1 2) (v.i 1 3) (v.b 5 0) (v.i 5 1) (v.i 5 2) (v.i 5 3))
def S44_:Shp:=⟨[(1,.one (.l (.i .i64))),(2,.one (.l (.i .u64))),(3,.one (.ptr 0 0)),(6,.one (.ptr 1 0))],[.box true (lk qe),.box true (lk qe)]⟩
def S45_:Shp:=⟨[(1,.one (.l (.i .i64))),(2,.one (.l (.i .u64))),(3,.one (.ptr 0 0)),(6,.one (.ptr 1 0)),(8,.one (.l (.i .i64)))],[.box true (lk qe),.box true (lk qe)]⟩
def S46_:Shp:=⟨[(1,.one (.l (.i .i64))),(2,.one (.l (.i .u64))),(3,.one (.ptr 0 0)),(6,.one (.ptr 1 0)),(9,.one (.l (.i .u64))),(10,.one (.l (.i .u64))),(11,.one (.l (.i .u64)))],[.box true (lk qe),.box true (lk qe)]⟩
def S47_:Shp:=⟨[(0,.st (lk qe)),(1,.one (.l (.i .i64))),(2,.one (.l (.i .u64)))],[]⟩
def qob:AV->Option (AV×Bool):=decN [(.st [.b,(.i .u64),(.i .u64),(.i .i64)]),(.one .b)] fun z=>((gC (tpL z) 0),aB (gC (tpL z) 1))
def qbbb (v1 v2:Int)(Av:Bool)(Aw Ax Ay:Int)(Ad:Bool)(Ae Af Ag:Int)(K:Ex->Env->Mem->Option (AV×Bool)):=(fun z_v28=>K .norm (qk [(1,(.int .i64 v1)),(2,(.int .u64 v2)),(3,(.ptr 0 0)),(6,(.ptr 1 0)),(28,(.bool z_v28))]) (qh [(some (.box true (qd Av Aw Ax Ay))),(some (.box true (qd Ad Ae Af Ag)))]))
def qmd (v1 v2:Int)(Av:Bool)(Aw Ax Ay:Int)(Ad:Bool)(Ae Af Ag:Int)(kn:Bool->Option (AV×Bool)):Option (AV×Bool):=
 (oB (qhn Av Aw Ax Ay) fun r1=>(bif((!r1)||(decide (v1<Ay)))then(kn true)else(oB (qjy Av Aw Ax) fun r2=>(kn (decide (v1>r2))))))
def qul:=hull (qmd)
theorem qbbc:qul=qmd:=qa _
def qbda:SubB Tryz.prog (TIof Tryz.prog) 81 0 (kret [(.cell 6 true 4),.t 7] qob):=jnB tabOk follows Tryz.f156 9 (.r [(1,.c qjd.b),(4,.g 4),(13,.c qn3.b)] [.sel [1,2,3,6,28] [0,1]]) S44_ (qmd) (fun f v K=>f (v.i 4 0) (v.i 8 0) (v.b 3 0) (v.i 3 1) (v.i 3 2) (v.i 3 3) (v.b 7 0) (v.i 7 1) (v.i 7 2) (v.i 7 3) (qbbb (v.i 4 0) (v.i 8 0) (v.b 3 0) (v.i 3 1) (v.i 3 2) (v.i 3 3) (v.b 7 0) (v.i 7 1) (v.i 7 2) (v.i 7 3) K))
def q7y (v1 v2:Int)(Av:Bool)(Aw Ax Ay:Int)(Ad:Bool)(Ae Af Ag:Int)(K:Ex->Env->Mem->Option (AV×Bool)):=(fun z_v42=>K .norm (qk [(1,(.int .i64 v1)),(2,(.int .u64 v2)),(3,(.ptr 0 0)),(6,(.ptr 1 0)),(42,(.bool z_v42))]) (qh [(some (.box true (qd Av Aw Ax Ay))),(some (.box true (qd Ad Ae Af Ag)))]))
def qih (v1 v2 v8:Int)(Av:Bool)(Aw Ax Ay:Int)(Ad:Bool)(Ae Af Ag:Int)(kn:Bool->Option (AV×Bool)):Option (AV×Bool):=
 (bif(decide (v8<64))then(bif decide ((IntKind.u64.wrap v8)<0)then none else(kn ((v2.fdiv (2^min (IntKind.u64.wrap v8).toNat IntKind.u64.bits)) != (0:Int))))else(kn false))
def qz7:=hull (qih)
theorem qvw:qz7=qih:=qa _
def qbbd:SubB Tryz.prog (TIof Tryz.prog) 81 0 (kret [(.cell 6 true 4),.t 7] qob):=jnB tabOk follows Tryz.f156 43 (.v [.sel [1,2,3,6,42] [0,1]]) S45_ (qih) (fun f v K=>f (v.i 4 0) (v.i 8 0) (v.i 32 0) (v.b 3 0) (v.i 3 1) (v.i 3 2) (v.i 3 3) (v.b 7 0) (v.i 7 1) (v.i 7 2) (v.i 7 3) (q7y (v.i 4 0) (v.i 8 0) (v.b 3 0) (v.i 3 1) (v.i 3 2) (v.i 3 3) (v.b 7 0) (v.i 7 1) (v.i 7 2) (v.i 7 3) K))
def q7z (v1:Int)(Av:Bool)(Aw Ax Ay:Int)(Ad:Bool)(Ae Af Ag:Int)(K:Ex->Env->Mem->Option (AV×Bool)):=(fun z_v10 z_v11=>K .norm (qk [(1,(.int .i64 v1)),(3,(.ptr 0 0)),(6,(.ptr 1 0)),(10,(.int .u64 z_v10)),(11,(.int .u64 z_v11))]) (qh [(some (.box true (qd Av Aw Ax Ay))),(some (.box true (qd Ad Ae Af Ag)))]))
def qii (v1 v2 v9 v10 v11:Int)(Av:Bool)(Aw Ax Ay:Int)(Ad:Bool)(Ae Af Ag:Int)(kn:Int->Int->Option (AV×Bool)):Option (AV×Bool):=
 (bif(decide (v9>=64))then(bif decide ((IntKind.u64.wrap (v9-64))<0)then none else(kn (IntKind.u64.wrap (v2*2^min (IntKind.u64.wrap (v9-64)).toNat IntKind.u64.bits)) (0:Int)))else(bif(decide (v9>0))then(bif decide ((IntKind.u64.wrap ((64:Int)-v9))<0)then none else(bif decide (v9<0)then none else(kn (v2.fdiv (2^min (IntKind.u64.wrap ((64:Int)-v9)).toNat IntKind.u64.bits)) (IntKind.u64.wrap (v2*2^min v9.toNat IntKind.u64.bits)))))else(kn v10 v11)))
def qj8:=hull (qii)
theorem qvx:qj8=qii:=qa _
def qbbe:SubB Tryz.prog (TIof Tryz.prog) 81 0 (kret [(.cell 6 true 4),.t 7] qob):=jnB tabOk follows Tryz.f156 95 (.s .z (.s (.v [.sel [1,3,6,10,11] [0,1]]) (.s .z (.s (.v [.sel [1,3,6,10,11] [0,1]]) (.v [.sel [1,3,6,10,11] [0,1]]))))) S46_ (qii) (fun f v K=>f (v.i 4 0) (v.i 8 0) (v.i 36 0) (v.i 40 0) (v.i 44 0) (v.b 3 0) (v.i 3 1) (v.i 3 2) (v.i 3 3) (v.b 7 0) (v.i 7 1) (v.i 7 2) (v.i 7 3) (q7z (v.i 4 0) (v.b 3 0) (v.i 3 1) (v.i 3 2) (v.i 3 3) (v.b 7 0) (v.i 7 1) (v.i 7 2) (v.i 7 3) K))
def qm6 (Aa:Bool)(Ab Ac Bt v1 v2:Int):Option (AV×Bool):=
 (qul v1 v2 Aa Ab Ac Bt false (0:Int) (0:Int) (0:Int) (fun v28q1=>(bif v28q1 then(some ((.agg [(.bool false),(.int .u64 (0:Int)),(.int .u64 (0:Int)),(.int .i64 (0:Int))]),false))else(qz7 v1 v2 (IntKind.i64.wrap (v1-Bt)) Aa Ab Ac Bt false (0:Int) (0:Int) (0:Int) (fun v42q2=>(bif v42q2 then(some ((.agg [(.bool false),(.int .u64 (0:Int)),(.int .u64 (0:Int)),(.int .i64 (0:Int))]),false))else(oB (qjy Aa Ab Ac) fun r3=>(qj8 v1 v2 (IntKind.u64.wrap (IntKind.i64.wrap (r3-v1))) (0:Int) v2 Aa Ab Ac Bt false (0:Int) (0:Int) (0:Int) (fun v10q4 v11q5=>(some ((.agg [(.bool Aa),(.int .u64 (qbh .or .u64 Ab v10q4)),(.int .u64 (qbh .or .u64 Ac v11q5)),(.int .i64 v1)]),true)))))))))))
def qdv:=hull qm6
theorem q12:qdv=qm6:=qa _
def qws {R:Type}:EntF Tryz.prog R:=entB (nt:=81) (dec:=qob) (enc:=(fun r=>.tup [qd4 (.st [.b,(.i .u64),(.i .u64),(.i .i64)]) r.1,.bool r.2])) tabOk follows Tryz.func156 [(.cell 6 true 4),.t 7] (hdeN fun _=>rfl) (.s .z (.s (.s (.sub [.sel [1,2,3,6] [0,1]] qbda []) .z) (.s (.s .z (.s (.sub [.sel [1,2,3,6,8] [0,1]] qbbd []) .z)) (.s (.r [(2,.c qn3.b)] []) (.s .z (.s (.sub [.sel [1,2,3,6,9,10,11] [0,1]] qbbe []) .z)))))) S47_ qm6 (fun f v=>f (v.b 1 0) (v.i 1 1) (v.i 1 2) (v.i 1 3) (v.i 4 0) (v.i 8 0))
def S48_:Shp:=⟨[(1,.one (.ptr 0 0)),(2,.one (.ptr 1 0)),(3,.one (.ptr 2 0)),(5,.one (.ptr 3 0)),(6,.one (.l .b))],[.box true (lk qe),.box true (lk qe),.box true (lk qe),.box true (lk qe)]⟩
def qw2:AV->Option (AV×AV×Bool):=decN [(.st [.b,(.i .u64),(.i .u64),(.i .i64)]),(.st [.b,(.i .u64),(.i .u64),(.i .i64)]),(.one .b)] fun z=>((gC (tpL z) 0),(gC (tpL z) 1),aB (gC (tpL z) 2))
def q6e (Av:Bool)(Aw Ax Ay:Int)(Ad:Bool)(Ae Af Ag:Int)(Au:Bool)(Bc Bd Be:Int)(Cf:Bool)(Cg Ch Ci:Int)(K:Ex->Env->Mem->Option (AV×AV×Bool)):=(fun z_v22=>K .norm (qk [(1,(.ptr 0 0)),(2,(.ptr 1 0)),(3,(.ptr 2 0)),(5,(.ptr 3 0)),(22,(.bool z_v22))]) (qh [(some (.box true (qd Av Aw Ax Ay))),(some (.box true (qd Ad Ae Af Ag))),(some (.box true (qd Au Bc Bd Be))),(some (.box true (qd Cf Cg Ch Ci)))]))
def qj9 (v6 Av:Bool)(Aw Ax Ay:Int)(Ad:Bool)(Ae Af Ag:Int)(Au:Bool)(Bc Bd Be:Int)(Cf:Bool)(Cg Ch Ci:Int)(kn:Bool->Option (AV×AV×Bool)):Option (AV×AV×Bool):=
 (bif(!v6)then(kn true)else(oB (qhn Av Aw Ax Ay) fun r1=>(kn (!r1))))
def qyc:=hull (qj9)
theorem q6f:qyc=qj9:=qa _
def q70:SubB Tryz.prog (TIof Tryz.prog) 36 0 (kret [(.cell 2 true 4),(.cell 3 true 4),.t 4] qw2):=jnB tabOk follows Tryz.f155 19 (.r [(4,.c qjd.b)] [.sel [1,2,3,5,22] [0,1,2,3]]) S48_ (qj9) (fun f v K=>f (v.b 24 0) (v.b 3 0) (v.i 3 1) (v.i 3 2) (v.i 3 3) (v.b 7 0) (v.i 7 1) (v.i 7 2) (v.i 7 3) (v.b 11 0) (v.i 11 1) (v.i 11 2) (v.i 11 3) (v.b 15 0) (v.i 15 1) (v.i 15 2) (v.i 15 3) (q6e (v.b 3 0) (v.i 3 1) (v.i 3 2) (v.i 3 3) (v.b 7 0) (v.i 7 1) (v.i 7 2) (v.i 7 3) (v.b 11 0) (v.i 11 1) (v.i 11 2) (v.i 11 3) (v.b 15 0) (v.i 15 1) (v.i 15 2) (v.i 15 3) K))
def qoc (Aa:Bool)(Ab Ac Bt:Int):Option (AV×AV×Bool):=
 (oB (qdv Aa Ab Ac Bt (IntKind.i64.wrap (Bt+1)) (0:Int)) fun r1=>(qyc r1.2 Aa Ab Ac Bt false (0:Int) (0:Int) (0:Int) false (0:Int) (0:Int) (0:Int) (gB r1.1.cells 0) (gI r1.1.cells 1) (gI r1.1.cells 2) (gI r1.1.cells 3) (fun v22q2=>(bif v22q2 then(some ((.agg [(.bool false),(.int .u64 (0:Int)),(.int .u64 (0:Int)),(.int .i64 (0:Int))]),(.agg [(.bool false),(.int .u64 (0:Int)),(.int .u64 (0:Int)),(.int .i64 (0:Int))]),false))else(oB (qdv Aa Ab Ac Bt (IntKind.i64.wrap (Bt+1)) (1:Int)) fun r3=>(some ((.agg [(.bool (gB r1.1.cells 0)),(.int .u64 (gI r1.1.cells 1)),(.int .u64 (gI r1.1.cells 2)),(.int .i64 (gI r1.1.cells 3))]),(.agg [(.bool (gB r3.1.cells 0)),(.int .u64 (gI r3.1.cells 1)),(.int .u64 (gI r3.1.cells 2)),(.int .i64 (gI r3.1.cells 3))]),r3.2)))))))
def qif:=hull qoc
theorem qbdb:qif=qoc:=qa _
def qs8 {R:Type}:EntF Tryz.prog R:=entB (nt:=36) (dec:=qw2) (enc:=(fun r=>.tup [qd4 (.st [.b,(.i .u64),(.i .u64),(.i .i64)]) r.1,qd4 (.st [.b,(.i .u64),(.i .u64),(.i .i64)]) r.2.1,.bool r.2.2])) tabOk follows Tryz.func155 [(.cell 2 true 4),(.cell 3 true 4),.t 4] (hdeN fun _=>rfl) (.s .z (.s (.r [(4,.c qws.b)] []) (.s (.s (.sub [.sel [1,2,3,5,6] [0,1,2,3]] q70 []) .z) (.s (.r [(4,.c qws.b)] []) .z)))) S8_ qoc (fun f v=>f (v.b 1 0) (v.i 1 1) (v.i 1 2) (v.i 1 3))
def qbez {β:Type}(cs:LA)(f:Bool->Int->Int->Int->β):β:=f (gB cs 0) (gI cs 1) (gI cs 2) (gI cs 3)
def qs9:Shp:=⟨[(0,.one (.own 0)),(1,.one (.l (.sl 8))),(2,.st (lk qe))],[.arr true 4]⟩
def qez (rec:(List AV)->(List AV)->Bool->Int->Int->Int->Option (List AV))(xs cl:LA):Option (List AV):=chk (qxl qs9 (qck (.own 0 xs.length::cl)) (M1 4 xs)) (cond (hdS qs9 (qck (.own 0 xs.length::cl)) (M1 4 xs)) (rec xs (gL [(qck (.own 0 xs.length::cl)) 1] 0) (gB ((qck (.own 0 xs.length::cl)) 2).cells 0) (gI ((qck (.own 0 xs.length::cl)) 2).cells 1) (gI ((qck (.own 0 xs.length::cl)) 2).cells 2) (gI ((qck (.own 0 xs.length::cl)) 2).cells 3)) none)
def qka (a0:LA)(Ad:Bool)(Ae Af Ag:Int)(K:Ex->Env->Mem->Option (List AV)):=(fun z_a2=>K (.exit 0) (qk [(0,(.own 0 a0.length)),(5,(.ptr 1 0)),(7,(.own 2 z_a2.length))]) (qh [(some (.arr true 4 a0)),(some (.box true (qd Ad Ae Af Ag))),(some (.arr true 8 z_a2))]))
def q71:Shp:=⟨[(0,.one (.own 0)),(5,.one (.ptr 1 0)),(7,.one (.own 2)),(13,.one (.l (.sl 8))),(14,.one (.l (.i .i64))),(15,.one (.l (.i .i64)))],[.arr true 4,.box true (lk qe),.arr true 8]⟩
def qqs (v13:LA)(v14 v15:Int)(a0:LA)(Ad:Bool)(Ae Af Ag:Int)(a2:LA):Env:=qk [(0,(.own 0 a0.length)),(5,(.ptr 1 0)),(7,(.own 2 a2.length)),(13,(.sl 8 v13)),(14,(.int .i64 v14)),(15,(.int .i64 v15))]
def qqt (v13:LA)(v14 v15:Int)(a0:LA)(Ad:Bool)(Ae Af Ag:Int)(a2:LA):Mem:=qh [(some (.arr true 4 a0)),(some (.box true (qd Ad Ae Af Ag))),(some (.arr true 8 a2))]
def qg7 (rec:(List AV)->(List AV)->Bool->Int->Int->Int->Option (List AV))(v13:LA)(v14 v15:Int)(a0:LA)(Ad:Bool)(Ae Af Ag:Int)(a2:LA)(next:Int->(List AV)->Option (List AV))(kx0:(List AV)->Option (List AV)):Option (List AV):=
 (bif(decide (v15<v14))then(oB (ixB v13 v15) fun y1=>(bif fitC qb y1.cells then(oB (qjz Ad Ae Af Ag (gB y1.cells 0) (gI y1.cells 1) (gI y1.cells 2) (gI y1.cells 3)) fun r2=>(bif r2 then(bif hd a0 a0.length then(some a0)else none)else(oB (quk (gB y1.cells 0) (gI y1.cells 1) (gI y1.cells 2) (gI y1.cells 3) Ad Ae Af Ag) fun r3=>(bif r3 then(bif hd a2 a2.length then(bif hd ([(.agg [(.bool (gB y1.cells 0)),(.int .u64 (gI y1.cells 1)),(.int .u64 (gI y1.cells 2)),(.int .i64 (gI y1.cells 3)),(.int .i64 (gI y1.cells 4)),(.str (gS y1.cells 5)),(.str (gS y1.cells 6)),(.int .i64 (gI y1.cells 7))])]:List AV) (([(.agg [(.bool (gB y1.cells 0)),(.int .u64 (gI y1.cells 1)),(.int .u64 (gI y1.cells 2)),(.int .i64 (gI y1.cells 3)),(.int .i64 (gI y1.cells 4)),(.str (gS y1.cells 5)),(.str (gS y1.cells 6)),(.int .i64 (gI y1.cells 7))])]:List AV).length)then(bif decide ((a2.length+([(.agg [(.bool (gB y1.cells 0)),(.int .u64 (gI y1.cells 1)),(.int .u64 (gI y1.cells 2)),(.int .i64 (gI y1.cells 3)),(.int .i64 (gI y1.cells 4)),(.str (gS y1.cells 5)),(.str (gS y1.cells 6)),(.int .i64 (gI y1.cells 7))])]:List AV).length)*80<=140737488355328)then(next (IntKind.i64.wrap (v15+1)) (a2++([(.agg [(.bool (gB y1.cells 0)),(.int .u64 (gI y1.cells 1)),(.int .u64 (gI y1.cells 2)),(.int .i64 (gI y1.cells 3)),(.int .i64 (gI y1.cells 4)),(.str (gS y1.cells 5)),(.str (gS y1.cells 6)),(.int .i64 (gI y1.cells 7))])]:List AV)))else none)else none)else none)else(next (IntKind.i64.wrap (v15+1)) a2)))))else none))else(kx0 a2))
def qme (rec:(List AV)->(List AV)->Bool->Int->Int->Int->Option (List AV))(v13:LA)(v14:Int)(a0:LA)(Ad:Bool)(Ae Af Ag:Int)(kx0:(List AV)->Option (List AV)):Nat->Int->(List AV)->Option (List AV)
 |0=>(fun _ _=>none)
 |n+1=>(fun v15 a2=>qg7 rec v13 v14 v15 a0 Ad Ae Af Ag a2 (qme rec v13 v14 a0 Ad Ae Af Ag kx0 n) kx0)
def qls (rec:(List AV)->(List AV)->Bool->Int->Int->Int->Option (List AV)):=hull (qme rec)
theorem qw3 (rec:(List AV)->(List AV)->Bool->Int->Int->Int->Option (List AV)):qls rec=qme rec:=qa _
def qg8 (rec:(List AV)->(List AV)->Bool->Int->Int->Int->Option (List AV)):AC (List AV):=
 .seq (.reg [ao 16 (.bin .lss 15 14)]) (.seq (.cond 16 (.skip) (.seq (.view [.sel [0,5,7] [0,1,2]]) (.exit 0))) (.seq (.block 1 (.seq (.reg [ao 17 (.ia 8 13 15),
 .st (.etac 17 qb),
 ao 18 (.load true 8 17),
 ao 9 (.alloc [(.bool false),(.int .u64 0),(.int .u64 0),(.int .i64 0),(.int .i64 0),(.str []),(.str []),(.int .i64 0)]),
 an (.store 8 9 18)]) (.seq (.seq (.reg [ao 19 (.load true 4 5),
 ao 20 (.fa 0 9),
 ao 21 (.load true 4 20),
 .call (po 22 (.call 122 [19,21])) 122 qj4.e]) (.cond 22 (.seq (.reg [ao 23 (.mv 0),
 ao 6 (.mv 23)]) (.ret)) (.skip))) (.seq (.reg [ao 24 (.fa 0 9),
 ao 25 (.load true 4 24),
 ao 26 (.load true 4 5),
 .call (po 27 (.call 190 [25,26])) 190 qyb.e]) (.cond 27 (.reg [ao 28 (.mv 7),
 ao 29 (.load true 8 9),
 ao 30 (.bsl 8 [29]),
 ao 31 (.app 8 80 28 30),
 ao 7 (.mv 31)]) (.skip)))))) (.seq (.reg [ao 32 (.bin .add 15 (.c (.int .i64 1))),
 ao 15 (.mv 32)]) (.view [.sel [0,5,7,13,14,15] [0,1,2]]))))
theorem qbbf (rec:(List AV)->(List AV)->Bool->Int->Int->Int->Option (List AV))(hrec:qpl Tryz.prog 179 4 (qez rec)):AC.ok Tryz.prog (TIof Tryz.prog) 56 1 (qdd [.t 6] (grK 4)) (qg8 rec):=qbt5 (zA (qg1.ok qj4.h) (zA (qg1.ok qyb.h) trivial))
theorem q72 (rec:(List AV)->(List AV)->Bool->Int->Int->Int->Option (List AV))(v13:LA)(v14 v15:Int)(a0:LA)(Ad:Bool)(Ae Af Ag:Int)(a2:LA)(K:Ex->Env->Mem->Option (List AV)):den 1 (qdd [.t 6] (grK 4)) (qg8 rec) (qqs v13 v14 v15 a0 Ad Ae Af Ag a2) (qqt v13 v14 v15 a0 Ad Ae Af Ag a2) K=qg7 rec v13 v14 v15 a0 Ad Ae Af Ag a2 (fun z_v15 z_a2=>K .norm (qqs v13 v14 z_v15 a0 Ad Ae Af Ag z_a2) (qqt v13 v14 z_v15 a0 Ad Ae Af Ag z_a2)) (qka a0 Ad Ae Af Ag K):=by kernel_rfl
theorem qbdc (rec:(List AV)->(List AV)->Bool->Int->Int->Int->Option (List AV))(v13:LA)(v14:Int)(a0:LA)(Ad:Bool)(Ae Af Ag:Int)(K:Ex->Env->Mem->Option (List AV)):∀(n:Nat) (v15:Int) (a2:LA),qt1 (den 1 (qdd [.t 6] (grK 4)) (qg8 rec)) n (qqs v13 v14 v15 a0 Ad Ae Af Ag a2) (qqt v13 v14 v15 a0 Ad Ae Af Ag a2) K=qls rec v13 v14 a0 Ad Ae Af Ag (qka a0 Ad Ae Af Ag K) n v15 a2:=by
 rw[qw3]
 intro n
 induction n with
 |zero=>intros;rfl
 |succ n ih=>
 intro v15 a2
 exact(q72 rec v13 v14 v15 a0 Ad Ae Af Ag a2 (itK (den 1 (qdd [.t 6] (grK 4)) (qg8 rec)) n K)).trans (congrArg (fun q=>qg7 rec v13 v14 v15 a0 Ad Ae Af Ag a2 q (qka a0 Ad Ae Af Ag K)) (funext fun v15=>funext fun a2=>ih v15 a2))
def qyd (rec:(List AV)->(List AV)->Bool->Int->Int->Int->Option (List AV)):=subE (R:=List AV) q71 fun t m K=>qbez (bxC (m.s 1)) (qls rec (gL [t 13] 0) (gI [t 14] 0) (arL (m.s 0))) (qka (arL (m.s 0)) (gB (bxC (m.s 1)) 0) (gI (bxC (m.s 1)) 1) (gI (bxC (m.s 1)) 2) (gI (bxC (m.s 1)) 3) K) FU (gI [t 15] 0) (arL (m.s 2))
theorem qbdd (rec:(List AV)->(List AV)->Bool->Int->Int->Int->Option (List AV))(hrec:qpl Tryz.prog 179 4 (qez rec)):q0y Tryz.prog (TIof Tryz.prog) 56 1 (qdd [.t 6] (grK 4)) (.loop (scOf (qg8 rec))) (qyd rec):=
 qboa tabOk follows (qbbf rec hrec) (qbgk (by kernel_rfl)) fun t m K=>qbdc rec _ _ _ _ _ _ _ K FU _ _
def qrg (rec:(List AV)->(List AV)->Bool->Int->Int->Int->Option (List AV))(a0 v1:LA)(Cw:Bool)(Cx Cy Cz:Int):Option (List AV):=
 (bif(hd a0 (a0.length)&&(hd ([]:List AV) (([]:List AV).length)&&true))then(qls rec v1 (v1.length:Int) a0 Cw Cx Cy Cz (fun a2q1=>(bif((a2q1.length:Int)==0)then(bif hd a0 a0.length then(bif hd ([(.agg [(.bool Cw),(.int .u64 Cx),(.int .u64 Cy),(.int .i64 Cz)])]:List AV) (([(.agg [(.bool Cw),(.int .u64 Cx),(.int .u64 Cy),(.int .i64 Cz)])]:List AV).length)then(bif decide ((a0.length+([(.agg [(.bool Cw),(.int .u64 Cx),(.int .u64 Cy),(.int .i64 Cz)])]:List AV).length)*32<=140737488355328)then(bif hd (a0++([(.agg [(.bool Cw),(.int .u64 Cx),(.int .u64 Cy),(.int .i64 Cz)])]:List AV)) ((a0++([(.agg [(.bool Cw),(.int .u64 Cx),(.int .u64 Cy),(.int .i64 Cz)])]:List AV)).length)then(some (a0++([(.agg [(.bool Cw),(.int .u64 Cx),(.int .u64 Cy),(.int .i64 Cz)])]:List AV)))else none)else none)else none)else none)else(oB (qif Cw Cx Cy Cz) fun r2=>(bif(!r2.2.2)then(bif hd a0 a0.length then(some a0)else none)else(bif hd a2q1 a2q1.length then(bif hd a0 a0.length then(oB (bif(hd a0 (a0.length)&&true)then(rec a0 a2q1 (gB r2.1.cells 0) (gI r2.1.cells 1) (gI r2.1.cells 2) (gI r2.1.cells 3))else none) fun r3=>(bif hd r3 r3.length then(oB (bif(hd r3 (r3.length)&&true)then(rec r3 a2q1 (gB r2.2.1.cells 0) (gI r2.2.1.cells 1) (gI r2.2.1.cells 2) (gI r2.2.1.cells 3))else none) fun r4=>(bif hd r4 r4.length then(some r4)else none))else none))else none)else none))))) FU (0:Int) ([]:List AV))else none)
def qdr:Nat->(List AV)->(List AV)->Bool->Int->Int->Int->Option (List AV)
 |0=>(fun _ _ _ _ _ _=>none)
 |n+1=>(fun a0 v1 Cw Cx Cy Cz=>qrg (qdr n) a0 v1 Cw Cx Cy Cz)
def q1d:(List AV)->(List AV)->Bool->Int->Int->Int->Option (List AV):=hull (qdr FU)
theorem q13:q1d=qdr FU:=qa _
def qm7 (rec:(List AV)->(List AV)->Bool->Int->Int->Int->Option (List AV)):AC (List AV):=
 .seq (.reg [ao 5 (.box 2),
 ao 6 (.mv (.c .nils))]) (.seq (.reg [ao 7 (.mv (.c .nils))]) (.seq (.seq (.reg [ao 13 (.mv 1),
 ao 14 (.len false 13),
 ao 15 (.mv (.c (.int .i64 0)))]) (.block 0 (.seq (.view [.own 7 8,.sel [0,5,7,13,14,15] [0,1,2]]) (.sub (.loop (scOf (qg8 rec))) (qyd rec))))) (.seq (.seq (.reg [ao 33 (.mv 7),
 ao 34 (.len false 33),
 ao 35 (.bin .eql 34 (.c (.int .i64 0)))]) (.cond 35 (.seq (.reg [ao 36 (.mv 0),
 ao 37 (.load true 4 5),
 ao 38 (.bsl 4 [37]),
 ao 39 (.app 4 32 36 38),
 ao 6 (.mv 39)]) (.ret)) (.skip))) (.seq (.reg [ao 41 (.load true 4 5),
 .call (po 42 (.call 155 [41])) 155 qs8.e,
 ao 40 (.mv 42),
 ao 43 (.ext 40 0),
 ao 44 (.ext 40 1),
 ao 45 (.ext 40 2),
 ao 10 (.alloc [(.bool false),(.int .u64 0),(.int .u64 0),(.int .i64 0)]),
 ao 11 (.alloc [(.bool false),(.int .u64 0),(.int .u64 0),(.int .i64 0)]),
 an (.store 4 10 43),
 an (.store 4 11 44),
 ao 12 (.mv 45)]) (.seq (.seq (.reg [ao 46 (.mv 12),
 ao 47 (.un .not 46)]) (.cond 47 (.seq (.reg [ao 48 (.mv 0),
 ao 6 (.mv 48)]) (.ret)) (.skip))) (.seq (.seq (.view [.snap 7]) (.draw4 [(po 49 (.mv 0)),(po 50 (.mv 7)),(po 51 (.load true 4 10))] 52 179 4 49 [50,51] (qez rec) [(po 53 (.mv 7)),(po 54 (.load true 4 11))] [.callr (po 55 (.call 179 [52,53,54])) 179 (qbmj 4 (qez rec)),
 ao 6 (.mv 55)])) (.ret)))))))
theorem qbhj (rec:(List AV)->(List AV)->Bool->Int->Int->Int->Option (List AV))(hrec:qpl Tryz.prog 179 4 (qez rec)):AC.ok Tryz.prog (TIof Tryz.prog) 56 1 (qdd [.t 6] (grK 4)) (qm7 rec):=qbt5 (zA (qbdd rec hrec) (zA (qg1.ok qs8.h) (zA hrec (zA (qbjk hrec) trivial))))
theorem qbka (rec:(List AV)->(List AV)->Bool->Int->Int->Int->Option (List AV))(v1:LA)(Cw:Bool)(Cx Cy Cz:Int)(a0:LA):den 1 (qdd [.t 6] (grK 4)) (qm7 rec) (qk [(0,(.own 0 a0.length)),(1,(.sl 8 v1)),(2,.agg (qd Cw Cx Cy Cz))]) (qh [(some (.arr true 4 a0))]) (kend (qdd [.t 6] (grK 4)))=qrg rec a0 v1 Cw Cx Cy Cz:=by
 kernel_rfl
theorem qbkb:cFn (TIof Tryz.prog) Tryz.f179=some ⟨56,[.t 6],scOf (qm7 (fun _ _ _ _ _ _=>none))⟩:=by kernel_rfl
theorem qbkc (rec:(List AV)->(List AV)->Bool->Int->Int->Int->Option (List AV)):(qm7 rec).er=some (scOf (qm7 (fun _ _ _ _ _ _=>none))):=by kernel_rfl
theorem q14:∀(k:Nat),qpl Tryz.prog 179 4 (qez (qdr k))
 |0=>fun xs cl zs h=>by
  unfold qez at h
  obtain⟨h1,h2⟩:=qpm h
  obtain⟨h3,h4⟩:=qn h2
  cases h4
 |k+1=>fun xs cl zs h=>by
  unfold qez at h
  obtain⟨h1,h2⟩:=qpm h
  obtain⟨h3,h4⟩:=qn h2
  exact qbgl tabOk follows Tryz.func179 (by kernel_rfl) qbkb (qbhj (qdr k) (q14 k)) (qbkc (qdr k)) qs9 (q3j h1 h3) ((qbka (qdr k) (gL [(qck (.own 0 xs.length::cl)) 1] 0) (gB ((qck (.own 0 xs.length::cl)) 2).cells 0) (gI ((qck (.own 0 xs.length::cl)) 2).cells 1) (gI ((qck (.own 0 xs.length::cl)) 2).cells 2) (gI ((qck (.own 0 xs.length::cl)) 2).cells 3) (arL ((M1 4 xs).s 0))).trans h4)
theorem qbkd:qpl Tryz.prog 179 4 (qez q1d):=by
 have h:=q14 FU
 rw[<-q13]at h
 exact h
def S49_:Shp:=⟨[(3,.one (.ptr 0 0)),(7,.one (.own 1)),(23,.one (.l (.sl 8))),(24,.one (.l (.i .i64))),(25,.one (.l (.i .i64)))],[.box true (lk qe),.arr true 8]⟩
def qua (Av:Bool)(Aw Ax Ay:Int)(K:Ex->Env->Mem->Option (List AV)):=(fun z_a1=>K (.exit 0) (qk [(3,(.ptr 0 0)),(7,(.own 1 z_a1.length))]) (qh [(some (.box true (qd Av Aw Ax Ay))),(some (.arr true 8 z_a1))]))
def qij (v23:LA)(v24 v25:Int)(Av:Bool)(Aw Ax Ay:Int)(a1:LA)(next:Int->(List AV)->Option (List AV))(kx0:(List AV)->Option (List AV)):Option (List AV):=
 (bif(decide (v25<v24))then(oB (ixB v23 v25) fun y1=>(bif fitC qb y1.cells then(oB (qqv (gB y1.cells 0) (gI y1.cells 1) (gI y1.cells 2) (gI y1.cells 3) Av Aw Ax Ay) fun r2=>(bif r2 then(bif hd a1 a1.length then(bif hd ([(.agg [(.bool (gB y1.cells 0)),(.int .u64 (gI y1.cells 1)),(.int .u64 (gI y1.cells 2)),(.int .i64 (gI y1.cells 3)),(.int .i64 (gI y1.cells 4)),(.str (gS y1.cells 5)),(.str (gS y1.cells 6)),(.int .i64 (gI y1.cells 7))])]:List AV) (([(.agg [(.bool (gB y1.cells 0)),(.int .u64 (gI y1.cells 1)),(.int .u64 (gI y1.cells 2)),(.int .i64 (gI y1.cells 3)),(.int .i64 (gI y1.cells 4)),(.str (gS y1.cells 5)),(.str (gS y1.cells 6)),(.int .i64 (gI y1.cells 7))])]:List AV).length)then(bif decide ((a1.length+([(.agg [(.bool (gB y1.cells 0)),(.int .u64 (gI y1.cells 1)),(.int .u64 (gI y1.cells 2)),(.int .i64 (gI y1.cells 3)),(.int .i64 (gI y1.cells 4)),(.str (gS y1.cells 5)),(.str (gS y1.cells 6)),(.int .i64 (gI y1.cells 7))])]:List AV).length)*80<=140737488355328)then(next (IntKind.i64.wrap (v25+1)) (a1++([(.agg [(.bool (gB y1.cells 0)),(.int .u64 (gI y1.cells 1)),(.int .u64 (gI y1.cells 2)),(.int .i64 (gI y1.cells 3)),(.int .i64 (gI y1.cells 4)),(.str (gS y1.cells 5)),(.str (gS y1.cells 6)),(.int .i64 (gI y1.cells 7))])]:List AV)))else none)else none)else none)else(next (IntKind.i64.wrap (v25+1)) a1)))else none))else(kx0 a1))
def qik (v23:LA)(v24:Int)(Av:Bool)(Aw Ax Ay:Int)(kx0:(List AV)->Option (List AV)):Nat->Int->(List AV)->Option (List AV)
 |0=>(fun _ _=>none)
 |n+1=>(fun v25 a1=>qij v23 v24 v25 Av Aw Ax Ay a1 (qik v23 v24 Av Aw Ax Ay kx0 n) kx0)
def qta:=hull (qik)
theorem q73:qta=qik:=qa _
def qbbg:SubB Tryz.prog (TIof Tryz.prog) 41 0 (kret [.t 4] (decF true 4)):=lpB tabOk follows Tryz.f154 151 (.s .z (.s (.s .z (.v [.sel [3,7] [0,1]])) (.s (.b (.s (.r [(0,.p (.etac 27 qb))] []) (.s (.r [(3,.c qwn.b)] []) .z))) (.v [.sel [3,7,23,24,25] [0,1]])))) S49_ (qik) (fun f v K n=>f (v.l 92 0) (v.i 96 0) (v.b 3 0) (v.i 3 1) (v.i 3 2) (v.i 3 3) (qua (v.b 3 0) (v.i 3 1) (v.i 3 2) (v.i 3 3) K) n) (fun v f K=>qij (v.l 92 0) (v.i 96 0) (v.i 100 0) (v.b 3 0) (v.i 3 1) (v.i 3 2) (v.i 3 3) (v.r 1) f (qua (v.b 3 0) (v.i 3 1) (v.i 3 2) (v.i 3 3) K)) (fun f v=>f (v.i 100 0) (v.r 1)) (fun k v=>(fun z0 z1=>k ((v.ui 100 0 z0).ur 1 z1)))
def qrh (v0:LA)(B7:Bool)(B8 B9 Ca:Int):Option (List AV):=
 (oB (qni v0 B7 B8 B9 Ca) fun r1=>(bif((!r1.2)||((gI r1.1.cells 4) != (1:Int)))then(bif hd ([]:List AV) (([]:List AV).length)then(some ([]:List AV))else none)else(bif(hd ([]:List AV) (([]:List AV).length)&&true)then(qta v0 (v0.length:Int) B7 B8 B9 Ca (fun a1q2=>(bif hd a1q2 a1q2.length then(oB (bif(hd ([]:List AV) (([]:List AV).length)&&true)then(q1d ([]:List AV) a1q2 B7 B8 B9 Ca)else none) fun r3=>(bif hd r3 r3.length then(some r3)else none))else none)) FU (0:Int) ([]:List AV))else none)))
def qvh:=hull qrh
theorem qbhk:qvh=qrh:=qa _
def qbke {R:Type}:EntF Tryz.prog R:=entB (nt:=41) (dec:=(decF true 4)) (enc:=(AV.fr true 4)) tabOk follows Tryz.func154 [.t 4] hdeF (.s .z (.s (.s (.r [(2,.c qrf.b)] []) (.s (.r [(3,.g 3)] []) (.s (.s .z (.v [.own 4 4])) .z))) (.s .z (.s (.s .z (.b (.sub [.own 7 8,.sel [3,7,23,24,25] [0,2]] qbbg []))) (.s (.r [(2,.s (.snap 38)),(2,.r (rB (qbjk qbkd)))] []) .z))))) S16_ qrh (fun f v=>f (v.l 0 0) (v.b 5 0) (v.i 5 1) (v.i 5 2) (v.i 5 3))
def S50_:Shp:=⟨[(0,.one (.l (.i .i64))),(1,.one (.l (.i .i64)))],[]⟩
def qjk (v0 v1:Int):Option Bool:=
 (some (decide (v0<v1)))
def qw4:=hull qjk
theorem q3w:qw4=qjk:=qa _
def q6g {R:Type}:EntF Tryz.prog R:=entB (nt:=8) (dec:=decB) (enc:=AV.bool) tabOk follows Tryz.func152 [.t 4] hdeB (.z) S50_ qjk (fun f v=>f (v.i 0 0) (v.i 4 0))
def S51_:Shp:=⟨[(1,.one (.l (.i .i64))),(2,.one (.fn 152 [])),(6,.one (.ptr 0 0)),(8,.one (.ptr 1 0)),(9,.one (.l .b)),(11,.one (.ptr 2 0)),(13,.one (.l (.sl 4))),(14,.one (.l (.i .i64))),(15,.one (.l (.i .i64)))],[.box true (lk qe),.box true (lk qe),.box true (lk qe)]⟩
def S52_:Shp:=⟨[(1,.one (.l (.i .i64))),(2,.one (.fn 152 [])),(6,.one (.ptr 0 0)),(8,.one (.ptr 1 0)),(9,.one (.l .b)),(13,.one (.l (.sl 4))),(14,.one (.l (.i .i64))),(15,.one (.l (.i .i64)))],[.box true (lk qe),.box true (lk qe)]⟩
def S53_:Shp:=⟨[(0,.one (.l (.sl 4))),(1,.one (.l (.i .i64))),(2,.one (.fn 152 []))],[]⟩
def qd7:AV->Option (AV×Bool):=decN [(.st [.b,(.i .u64),(.i .u64),(.i .i64)]),(.one .b)] fun z=>((gC (tpL z) 0),aB (gC (tpL z) 1))
def qm8 (v1:Int)(v9:Bool)(v13:LA)(v14 v15:Int)(Av:Bool)(Aw Ax Ay:Int)(Ad:Bool)(Ae Af Ag:Int)(Au:Bool)(Bc Bd Be:Int)(K:Ex->Env->Mem->Option (AV×Bool)):=(fun z_v34=>K .norm (qk [(1,(.int .i64 v1)),(2,(.func 152 [])),(6,(.ptr 0 0)),(8,(.ptr 1 0)),(9,(.bool v9)),(11,(.ptr 2 0)),(13,(.sl 4 v13)),(14,(.int .i64 v14)),(15,(.int .i64 v15)),(34,(.bool z_v34))]) (qh [(some (.box true (qd Av Aw Ax Ay))),(some (.box true (qd Ad Ae Af Ag))),(some (.box true (qd Au Bc Bd Be)))]))
def qcm (v1:Int)(v9:Bool)(v13:LA)(v14 v15:Int)(Av:Bool)(Aw Ax Ay:Int)(Ad:Bool)(Ae Af Ag:Int)(Au:Bool)(Bc Bd Be:Int)(kn:Bool->Option (AV×Bool)):Option (AV×Bool):=
 (bif(decide (Be<=v1))then(bif(!v9)then(kn true)else(oB (qw4 Be Ag) fun r1=>(kn r1)))else(kn false))
def qhp:=hull (qcm)
theorem qm9:qhp=qcm:=qa _
def qns:SubB Tryz.prog (TIof Tryz.prog) 39 0 (kret [(.cell 6 true 4),.t 7] qd7):=jnB tabOk follows Tryz.f153 5323 (.r [(13,.c q6g.b)] [.sel [1,2,6,8,9,11,13,14,15,34] [0,1,2]]) S51_ (qcm) (fun f v K=>f (v.i 4 0) (v.b 36 0) (v.l 52 0) (v.i 56 0) (v.i 60 0) (v.b 3 0) (v.i 3 1) (v.i 3 2) (v.i 3 3) (v.b 7 0) (v.i 7 1) (v.i 7 2) (v.i 7 3) (v.b 11 0) (v.i 11 1) (v.i 11 2) (v.i 11 3) (qm8 (v.i 4 0) (v.b 36 0) (v.l 52 0) (v.i 56 0) (v.i 60 0) (v.b 3 0) (v.i 3 1) (v.i 3 2) (v.i 3 3) (v.b 7 0) (v.i 7 1) (v.i 7 2) (v.i 7 3) (v.b 11 0) (v.i 11 1) (v.i 11 2) (v.i 11 3) K))
def qgg (Av:Bool)(Aw Ax Ay:Int)(K:Ex->Env->Mem->Option (AV×Bool)):=(fun z_v9 z_b1_0 z_b1_1 z_b1_2 z_b1_3=>K (.exit 0) (qk [(6,(.ptr 0 0)),(8,(.ptr 1 0)),(9,(.bool z_v9))]) (qh [(some (.box true (qd Av Aw Ax Ay))),(some (.box true (qd z_b1_0 z_b1_1 z_b1_2 z_b1_3)))]))
def qb3 (v1:Int)(v9:Bool)(v13:LA)(v14 v15:Int)(Av:Bool)(Aw Ax Ay:Int)(Ad:Bool)(Ae Af Ag:Int)(next:Bool->Int->Bool->Int->Int->Int->Option (AV×Bool))(kx0:Bool->Bool->Int->Int->Int->Option (AV×Bool)):Option (AV×Bool):=
 (bif(decide (v15<v14))then(oB (ixB v13 v15) fun y1=>(bif fitC qe y1.cells then(qhp v1 v9 v13 v14 v15 Av Aw Ax Ay Ad Ae Af Ag (gB y1.cells 0) (gI y1.cells 1) (gI y1.cells 2) (gI y1.cells 3) (fun v34q2=>(bif v34q2 then(next true (IntKind.i64.wrap (v15+1)) (gB y1.cells 0) (gI y1.cells 1) (gI y1.cells 2) (gI y1.cells 3))else(next v9 (IntKind.i64.wrap (v15+1)) Ad Ae Af Ag))))else none))else(kx0 v9 Ad Ae Af Ag))
def qb4 (v1:Int)(v13:LA)(v14:Int)(Av:Bool)(Aw Ax Ay:Int)(kx0:Bool->Bool->Int->Int->Int->Option (AV×Bool)):Nat->Bool->Int->Bool->Int->Int->Int->Option (AV×Bool)
 |0=>(fun _ _ _ _ _ _=>none)
 |n+1=>(fun v9 v15 Ad Ae Af Ag=>qb3 v1 v9 v13 v14 v15 Av Aw Ax Ay Ad Ae Af Ag (qb4 v1 v13 v14 Av Aw Ax Ay kx0 n) kx0)
def qh9:=hull (qb4)
theorem qnt:qh9=qb4:=qa _
def qoy:SubB Tryz.prog (TIof Tryz.prog) 39 0 (kret [(.cell 6 true 4),.t 7] qd7):=lpB tabOk follows Tryz.f153 75 (.s .z (.s (.s .z (.v [.sel [6,8,9] [0,1]])) (.s (.b (.s (.r [(0,.p (.etac 17 qe))] []) (.s (.sub [.sel [1,2,6,8,9,11,13,14,15] [0,1,2]] qns []) .z))) (.v [.sel [1,2,6,8,9,13,14,15] [0,1]])))) S52_ (qb4) (fun f v K n=>f (v.i 4 0) (v.l 52 0) (v.i 56 0) (v.b 3 0) (v.i 3 1) (v.i 3 2) (v.i 3 3) (qgg (v.b 3 0) (v.i 3 1) (v.i 3 2) (v.i 3 3) K) n) (fun v f K=>qb3 (v.i 4 0) (v.b 36 0) (v.l 52 0) (v.i 56 0) (v.i 60 0) (v.b 3 0) (v.i 3 1) (v.i 3 2) (v.i 3 3) (v.b 7 0) (v.i 7 1) (v.i 7 2) (v.i 7 3) f (qgg (v.b 3 0) (v.i 3 1) (v.i 3 2) (v.i 3 3) K)) (fun f v=>f (v.b 36 0) (v.i 60 0) (v.b 7 0) (v.i 7 1) (v.i 7 2) (v.i 7 3)) (fun k v=>(fun z0 z1 z2 z3 z4 z5=>k ((((((v.ub 36 0 z0).ui 60 0 z1).ub 7 0 z2).ui 7 1 z3).ui 7 2 z4).ui 7 3 z5)))
def qc9 (v0:LA)(v1:Int):Option (AV×Bool):=
 (qh9 v1 v0 (v0.length:Int) false (0:Int) (0:Int) (0:Int) (fun v9q1 b1_0q2 b1_1q3 b1_2q4 b1_3q5=>(some ((.agg [(.bool b1_0q2),(.int .u64 b1_1q3),(.int .u64 b1_2q4),(.int .i64 b1_3q5)]),v9q1))) FU false (0:Int) false (0:Int) (0:Int) (0:Int))
def qe1:=hull qc9
theorem qpz:qe1=qc9:=qa _
def qil {R:Type}:EntF Tryz.prog R:=entB (nt:=39) (dec:=qd7) (enc:=(fun r=>.tup [qd4 (.st [.b,(.i .u64),(.i .u64),(.i .i64)]) r.1,.bool r.2])) tabOk follows Tryz.func153 [(.cell 6 true 4),.t 7] (hdeN fun _=>rfl) (.s .z (.s .z (.s (.s .z (.b (.sub [.sel [1,2,6,8,9,13,14,15] [0,1]] qoy []))) .z))) S53_ qc9 (fun f v=>f (v.l 0 0) (v.i 4 0))
def qjl (v0 v1:Int):Option Bool:=
 (some (decide (v0>v1)))
def qw5:=hull qjl
theorem q3x:qw5=qjl:=qa _
def q6h {R:Type}:EntF Tryz.prog R:=entB (nt:=8) (dec:=decB) (enc:=AV.bool) tabOk follows Tryz.func151 [.t 4] hdeB (.z) S50_ qjl (fun f v=>f (v.i 0 0) (v.i 4 0))
def S54_:Shp:=⟨[(1,.one (.l (.i .i64))),(2,.one (.fn 151 [])),(6,.one (.ptr 0 0)),(8,.one (.ptr 1 0)),(9,.one (.l .b)),(11,.one (.ptr 2 0)),(13,.one (.l (.sl 4))),(14,.one (.l (.i .i64))),(15,.one (.l (.i .i64)))],[.box true (lk qe),.box true (lk qe),.box true (lk qe)]⟩
def S55_:Shp:=⟨[(1,.one (.l (.i .i64))),(2,.one (.fn 151 [])),(6,.one (.ptr 0 0)),(8,.one (.ptr 1 0)),(9,.one (.l .b)),(13,.one (.l (.sl 4))),(14,.one (.l (.i .i64))),(15,.one (.l (.i .i64)))],[.box true (lk qe),.box true (lk qe)]⟩
def S56_:Shp:=⟨[(0,.one (.l (.sl 4))),(1,.one (.l (.i .i64))),(2,.one (.fn 151 []))],[]⟩
def qd8:AV->Option (AV×Bool):=decN [(.st [.b,(.i .u64),(.i .u64),(.i .i64)]),(.one .b)] fun z=>((gC (tpL z) 0),aB (gC (tpL z) 1))
def qna (v1:Int)(v9:Bool)(v13:LA)(v14 v15:Int)(Av:Bool)(Aw Ax Ay:Int)(Ad:Bool)(Ae Af Ag:Int)(Au:Bool)(Bc Bd Be:Int)(K:Ex->Env->Mem->Option (AV×Bool)):=(fun z_v34=>K .norm (qk [(1,(.int .i64 v1)),(2,(.func 151 [])),(6,(.ptr 0 0)),(8,(.ptr 1 0)),(9,(.bool v9)),(11,(.ptr 2 0)),(13,(.sl 4 v13)),(14,(.int .i64 v14)),(15,(.int .i64 v15)),(34,(.bool z_v34))]) (qh [(some (.box true (qd Av Aw Ax Ay))),(some (.box true (qd Ad Ae Af Ag))),(some (.box true (qd Au Bc Bd Be)))]))
def qcn (v1:Int)(v9:Bool)(v13:LA)(v14 v15:Int)(Av:Bool)(Aw Ax Ay:Int)(Ad:Bool)(Ae Af Ag:Int)(Au:Bool)(Bc Bd Be:Int)(kn:Bool->Option (AV×Bool)):Option (AV×Bool):=
 (bif(decide (Be<=v1))then(bif(!v9)then(kn true)else(oB (qw5 Be Ag) fun r1=>(kn r1)))else(kn false))
def qhq:=hull (qcn)
theorem qnb:qhq=qcn:=qa _
def qnu:SubB Tryz.prog (TIof Tryz.prog) 39 0 (kret [(.cell 6 true 4),.t 7] qd8):=jnB tabOk follows Tryz.f153 5323 (.r [(13,.c q6h.b)] [.sel [1,2,6,8,9,11,13,14,15,34] [0,1,2]]) S54_ (qcn) (fun f v K=>f (v.i 4 0) (v.b 36 0) (v.l 52 0) (v.i 56 0) (v.i 60 0) (v.b 3 0) (v.i 3 1) (v.i 3 2) (v.i 3 3) (v.b 7 0) (v.i 7 1) (v.i 7 2) (v.i 7 3) (v.b 11 0) (v.i 11 1) (v.i 11 2) (v.i 11 3) (qna (v.i 4 0) (v.b 36 0) (v.l 52 0) (v.i 56 0) (v.i 60 0) (v.b 3 0) (v.i 3 1) (v.i 3 2) (v.i 3 3) (v.b 7 0) (v.i 7 1) (v.i 7 2) (v.i 7 3) (v.b 11 0) (v.i 11 1) (v.i 11 2) (v.i 11 3) K))
def qgh (Av:Bool)(Aw Ax Ay:Int)(K:Ex->Env->Mem->Option (AV×Bool)):=(fun z_v9 z_b1_0 z_b1_1 z_b1_2 z_b1_3=>K (.exit 0) (qk [(6,(.ptr 0 0)),(8,(.ptr 1 0)),(9,(.bool z_v9))]) (qh [(some (.box true (qd Av Aw Ax Ay))),(some (.box true (qd z_b1_0 z_b1_1 z_b1_2 z_b1_3)))]))
def qb5 (v1:Int)(v9:Bool)(v13:LA)(v14 v15:Int)(Av:Bool)(Aw Ax Ay:Int)(Ad:Bool)(Ae Af Ag:Int)(next:Bool->Int->Bool->Int->Int->Int->Option (AV×Bool))(kx0:Bool->Bool->Int->Int->Int->Option (AV×Bool)):Option (AV×Bool):=
 (bif(decide (v15<v14))then(oB (ixB v13 v15) fun y1=>(bif fitC qe y1.cells then(qhq v1 v9 v13 v14 v15 Av Aw Ax Ay Ad Ae Af Ag (gB y1.cells 0) (gI y1.cells 1) (gI y1.cells 2) (gI y1.cells 3) (fun v34q2=>(bif v34q2 then(next true (IntKind.i64.wrap (v15+1)) (gB y1.cells 0) (gI y1.cells 1) (gI y1.cells 2) (gI y1.cells 3))else(next v9 (IntKind.i64.wrap (v15+1)) Ad Ae Af Ag))))else none))else(kx0 v9 Ad Ae Af Ag))
def qb6 (v1:Int)(v13:LA)(v14:Int)(Av:Bool)(Aw Ax Ay:Int)(kx0:Bool->Bool->Int->Int->Int->Option (AV×Bool)):Nat->Bool->Int->Bool->Int->Int->Int->Option (AV×Bool)
 |0=>(fun _ _ _ _ _ _=>none)
 |n+1=>(fun v9 v15 Ad Ae Af Ag=>qb5 v1 v9 v13 v14 v15 Av Aw Ax Ay Ad Ae Af Ag (qb6 v1 v13 v14 Av Aw Ax Ay kx0 n) kx0)
def qia:=hull (qb6)
theorem qnv:qia=qb6:=qa _
def qoz:SubB Tryz.prog (TIof Tryz.prog) 39 0 (kret [(.cell 6 true 4),.t 7] qd8):=lpB tabOk follows Tryz.f153 75 (.s .z (.s (.s .z (.v [.sel [6,8,9] [0,1]])) (.s (.b (.s (.r [(0,.p (.etac 17 qe))] []) (.s (.sub [.sel [1,2,6,8,9,11,13,14,15] [0,1,2]] qnu []) .z))) (.v [.sel [1,2,6,8,9,13,14,15] [0,1]])))) S55_ (qb6) (fun f v K n=>f (v.i 4 0) (v.l 52 0) (v.i 56 0) (v.b 3 0) (v.i 3 1) (v.i 3 2) (v.i 3 3) (qgh (v.b 3 0) (v.i 3 1) (v.i 3 2) (v.i 3 3) K) n) (fun v f K=>qb5 (v.i 4 0) (v.b 36 0) (v.l 52 0) (v.i 56 0) (v.i 60 0) (v.b 3 0) (v.i 3 1) (v.i 3 2) (v.i 3 3) (v.b 7 0) (v.i 7 1) (v.i 7 2) (v.i 7 3) f (qgh (v.b 3 0) (v.i 3 1) (v.i 3 2) (v.i 3 3) K)) (fun f v=>f (v.b 36 0) (v.i 60 0) (v.b 7 0) (v.i 7 1) (v.i 7 2) (v.i 7 3)) (fun k v=>(fun z0 z1 z2 z3 z4 z5=>k ((((((v.ub 36 0 z0).ui 60 0 z1).ub 7 0 z2).ui 7 1 z3).ui 7 2 z4).ui 7 3 z5)))
def qda (v0:LA)(v1:Int):Option (AV×Bool):=
 (qia v1 v0 (v0.length:Int) false (0:Int) (0:Int) (0:Int) (fun v9q1 b1_0q2 b1_1q3 b1_2q4 b1_3q5=>(some ((.agg [(.bool b1_0q2),(.int .u64 b1_1q3),(.int .u64 b1_2q4),(.int .i64 b1_3q5)]),v9q1))) FU false (0:Int) false (0:Int) (0:Int) (0:Int))
def qe2:=hull qda
theorem qp0:qe2=qda:=qa _
def qim {R:Type}:EntF Tryz.prog R:=entB (nt:=39) (dec:=qd8) (enc:=(fun r=>.tup [qd4 (.st [.b,(.i .u64),(.i .u64),(.i .i64)]) r.1,.bool r.2])) tabOk follows Tryz.func153 [(.cell 6 true 4),.t 7] (hdeN fun _=>rfl) (.s .z (.s .z (.s (.s .z (.b (.sub [.sel [1,2,6,8,9,13,14,15] [0,1]] qoz []))) .z))) S56_ qda (fun f v=>f (v.l 0 0) (v.i 4 0))
def qjm (v0 v1:Int):Option Bool:=
 (some false)
def qw6:=hull qjm
theorem q3y:qw6=qjm:=qa _
def q6i {R:Type}:EntF Tryz.prog R:=entB (nt:=5) (dec:=decB) (enc:=AV.bool) tabOk follows Tryz.func150 [.t 4] hdeB (.z) S50_ qjm (fun f v=>f (v.i 0 0) (v.i 4 0))
def S57_:Shp:=⟨[(1,.one (.l (.i .i64))),(2,.one (.fn 150 [])),(6,.one (.ptr 0 0)),(8,.one (.ptr 1 0)),(9,.one (.l .b)),(11,.one (.ptr 2 0)),(13,.one (.l (.sl 4))),(14,.one (.l (.i .i64))),(15,.one (.l (.i .i64)))],[.box true (lk qe),.box true (lk qe),.box true (lk qe)]⟩
def S58_:Shp:=⟨[(1,.one (.l (.i .i64))),(2,.one (.fn 150 [])),(6,.one (.ptr 0 0)),(8,.one (.ptr 1 0)),(9,.one (.l .b)),(13,.one (.l (.sl 4))),(14,.one (.l (.i .i64))),(15,.one (.l (.i .i64)))],[.box true (lk qe),.box true (lk qe)]⟩
def S59_:Shp:=⟨[(0,.one (.l (.sl 4))),(1,.one (.l (.i .i64))),(2,.one (.fn 150 []))],[]⟩
def qd9:AV->Option (AV×Bool):=decN [(.st [.b,(.i .u64),(.i .u64),(.i .i64)]),(.one .b)] fun z=>((gC (tpL z) 0),aB (gC (tpL z) 1))
def qnc (v1:Int)(v9:Bool)(v13:LA)(v14 v15:Int)(Av:Bool)(Aw Ax Ay:Int)(Ad:Bool)(Ae Af Ag:Int)(Au:Bool)(Bc Bd Be:Int)(K:Ex->Env->Mem->Option (AV×Bool)):=(fun z_v34=>K .norm (qk [(1,(.int .i64 v1)),(2,(.func 150 [])),(6,(.ptr 0 0)),(8,(.ptr 1 0)),(9,(.bool v9)),(11,(.ptr 2 0)),(13,(.sl 4 v13)),(14,(.int .i64 v14)),(15,(.int .i64 v15)),(34,(.bool z_v34))]) (qh [(some (.box true (qd Av Aw Ax Ay))),(some (.box true (qd Ad Ae Af Ag))),(some (.box true (qd Au Bc Bd Be)))]))
def qco (v1:Int)(v9:Bool)(v13:LA)(v14 v15:Int)(Av:Bool)(Aw Ax Ay:Int)(Ad:Bool)(Ae Af Ag:Int)(Au:Bool)(Bc Bd Be:Int)(kn:Bool->Option (AV×Bool)):Option (AV×Bool):=
 (bif(decide (Be<=v1))then(bif(!v9)then(kn true)else(oB (qw6 Be Ag) fun r1=>(kn r1)))else(kn false))
def qhr:=hull (qco)
theorem qnd:qhr=qco:=qa _
def qnw:SubB Tryz.prog (TIof Tryz.prog) 39 0 (kret [(.cell 6 true 4),.t 7] qd9):=jnB tabOk follows Tryz.f153 5323 (.r [(13,.c q6i.b)] [.sel [1,2,6,8,9,11,13,14,15,34] [0,1,2]]) S57_ (qco) (fun f v K=>f (v.i 4 0) (v.b 36 0) (v.l 52 0) (v.i 56 0) (v.i 60 0) (v.b 3 0) (v.i 3 1) (v.i 3 2) (v.i 3 3) (v.b 7 0) (v.i 7 1) (v.i 7 2) (v.i 7 3) (v.b 11 0) (v.i 11 1) (v.i 11 2) (v.i 11 3) (qnc (v.i 4 0) (v.b 36 0) (v.l 52 0) (v.i 56 0) (v.i 60 0) (v.b 3 0) (v.i 3 1) (v.i 3 2) (v.i 3 3) (v.b 7 0) (v.i 7 1) (v.i 7 2) (v.i 7 3) (v.b 11 0) (v.i 11 1) (v.i 11 2) (v.i 11 3) K))
def qgi (Av:Bool)(Aw Ax Ay:Int)(K:Ex->Env->Mem->Option (AV×Bool)):=(fun z_v9 z_b1_0 z_b1_1 z_b1_2 z_b1_3=>K (.exit 0) (qk [(6,(.ptr 0 0)),(8,(.ptr 1 0)),(9,(.bool z_v9))]) (qh [(some (.box true (qd Av Aw Ax Ay))),(some (.box true (qd z_b1_0 z_b1_1 z_b1_2 z_b1_3)))]))
def qb7 (v1:Int)(v9:Bool)(v13:LA)(v14 v15:Int)(Av:Bool)(Aw Ax Ay:Int)(Ad:Bool)(Ae Af Ag:Int)(next:Bool->Int->Bool->Int->Int->Int->Option (AV×Bool))(kx0:Bool->Bool->Int->Int->Int->Option (AV×Bool)):Option (AV×Bool):=
 (bif(decide (v15<v14))then(oB (ixB v13 v15) fun y1=>(bif fitC qe y1.cells then(qhr v1 v9 v13 v14 v15 Av Aw Ax Ay Ad Ae Af Ag (gB y1.cells 0) (gI y1.cells 1) (gI y1.cells 2) (gI y1.cells 3) (fun v34q2=>(bif v34q2 then(next true (IntKind.i64.wrap (v15+1)) (gB y1.cells 0) (gI y1.cells 1) (gI y1.cells 2) (gI y1.cells 3))else(next v9 (IntKind.i64.wrap (v15+1)) Ad Ae Af Ag))))else none))else(kx0 v9 Ad Ae Af Ag))
def qb8 (v1:Int)(v13:LA)(v14:Int)(Av:Bool)(Aw Ax Ay:Int)(kx0:Bool->Bool->Int->Int->Int->Option (AV×Bool)):Nat->Bool->Int->Bool->Int->Int->Int->Option (AV×Bool)
 |0=>(fun _ _ _ _ _ _=>none)
 |n+1=>(fun v9 v15 Ad Ae Af Ag=>qb7 v1 v9 v13 v14 v15 Av Aw Ax Ay Ad Ae Af Ag (qb8 v1 v13 v14 Av Aw Ax Ay kx0 n) kx0)
def qib:=hull (qb8)
theorem qnx:qib=qb8:=qa _
def qo0:SubB Tryz.prog (TIof Tryz.prog) 39 0 (kret [(.cell 6 true 4),.t 7] qd9):=lpB tabOk follows Tryz.f153 75 (.s .z (.s (.s .z (.v [.sel [6,8,9] [0,1]])) (.s (.b (.s (.r [(0,.p (.etac 17 qe))] []) (.s (.sub [.sel [1,2,6,8,9,11,13,14,15] [0,1,2]] qnw []) .z))) (.v [.sel [1,2,6,8,9,13,14,15] [0,1]])))) S58_ (qb8) (fun f v K n=>f (v.i 4 0) (v.l 52 0) (v.i 56 0) (v.b 3 0) (v.i 3 1) (v.i 3 2) (v.i 3 3) (qgi (v.b 3 0) (v.i 3 1) (v.i 3 2) (v.i 3 3) K) n) (fun v f K=>qb7 (v.i 4 0) (v.b 36 0) (v.l 52 0) (v.i 56 0) (v.i 60 0) (v.b 3 0) (v.i 3 1) (v.i 3 2) (v.i 3 3) (v.b 7 0) (v.i 7 1) (v.i 7 2) (v.i 7 3) f (qgi (v.b 3 0) (v.i 3 1) (v.i 3 2) (v.i 3 3) K)) (fun f v=>f (v.b 36 0) (v.i 60 0) (v.b 7 0) (v.i 7 1) (v.i 7 2) (v.i 7 3)) (fun k v=>(fun z0 z1 z2 z3 z4 z5=>k ((((((v.ub 36 0 z0).ui 60 0 z1).ub 7 0 z2).ui 7 1 z3).ui 7 2 z4).ui 7 3 z5)))
def qdb (v0:LA)(v1:Int):Option (AV×Bool):=
 (qib v1 v0 (v0.length:Int) false (0:Int) (0:Int) (0:Int) (fun v9q1 b1_0q2 b1_1q3 b1_2q4 b1_3q5=>(some ((.agg [(.bool b1_0q2),(.int .u64 b1_1q3),(.int .u64 b1_2q4),(.int .i64 b1_3q5)]),v9q1))) FU false (0:Int) false (0:Int) (0:Int) (0:Int))
def qe3:=hull qdb
theorem qp1:qe3=qdb:=qa _
def qin {R:Type}:EntF Tryz.prog R:=entB (nt:=39) (dec:=qd9) (enc:=(fun r=>.tup [qd4 (.st [.b,(.i .u64),(.i .u64),(.i .i64)]) r.1,.bool r.2])) tabOk follows Tryz.func153 [(.cell 6 true 4),.t 7] (hdeN fun _=>rfl) (.s .z (.s .z (.s (.s .z (.b (.sub [.sel [1,2,6,8,9,13,14,15] [0,1]] qo0 []))) .z))) S59_ qdb (fun f v=>f (v.l 0 0) (v.i 4 0))
def qzp {R:Type}:List AV->(AV->Option R)->Option R:=(fun xs K=>bif fnAt xs 2 152 then qil.e xs K else(fun xs K=>bif fnAt xs 2 151 then qim.e xs K else qin.e xs K) xs K)
theorem q15 {R:Type}:qg1 Tryz.prog 153 (qzp (R:=R)):=(qbob (fun xs=>fnAt xs 2 152) qil.h (qbob (fun xs=>fnAt xs 2 151) qim.h qin.h))
def S60_:Shp:=⟨[(0,.one (.l (.sl 8))),(1,.st (lk qe)),(2,.one (.l (.i .i64))),(3,.one (.l (.i .i64)))],[]⟩
def q6j:AV->Option (AV×Int):=decN [(.st [.b,(.i .u64),(.i .u64),(.i .i64)]),(.one (.i .i64))] fun z=>((gC (tpL z) 0),aI (gC (tpL z) 1))
def qk9 (v0:LA)(B7:Bool)(B8 B9 Ca v2 v3:Int):Option (AV×Int):=
 (oB (qni v0 B7 B8 B9 Ca) fun r1=>(bif(!r1.2)then(some ((.agg [(.bool false),(.int .u64 (0:Int)),(.int .u64 (0:Int)),(.int .i64 (0:Int))]),(11:Int)))else(bif((gI r1.1.cells 4) != (1:Int))then(some ((.agg [(.bool false),(.int .u64 (0:Int)),(.int .u64 (0:Int)),(.int .i64 (0:Int))]),(21:Int)))else(bif(decide (v2<Ca))then(some ((.agg [(.bool false),(.int .u64 (0:Int)),(.int .u64 (0:Int)),(.int .i64 (0:Int))]),(1:Int)))else(oB (qs7 B7 B8 B9 Ca) fun r2=>(bif(((decide (v2>r2))||(decide (v3<1)))||(decide (v3>3)))then(some ((.agg [(.bool false),(.int .u64 (0:Int)),(.int .u64 (0:Int)),(.int .i64 (0:Int))]),(1:Int)))else(oB (qvh v0 B7 B8 B9 Ca) fun r6=>(bif((v3==1)&&true)then(oB (qe3 r6 v2) fun r9=>(bif(!r9.2)then(some ((.agg [(.bool false),(.int .u64 (0:Int)),(.int .u64 (0:Int)),(.int .i64 (0:Int))]),(22:Int)))else(bif((v3==3)&&(decide ((gI r9.1.cells 3)<v2)))then(oB (qif (gB r9.1.cells 0) (gI r9.1.cells 1) (gI r9.1.cells 2) (gI r9.1.cells 3)) fun r16=>(oB (qdv (gB r16.2.1.cells 0) (gI r16.2.1.cells 1) (gI r16.2.1.cells 2) (gI r16.2.1.cells 3) v2 (0:Int)) fun r17=>(some ((.agg [(.bool (gB r17.1.cells 0)),(.int .u64 (gI r17.1.cells 1)),(.int .u64 (gI r17.1.cells 2)),(.int .i64 (gI r17.1.cells 3))]),(0:Int)))))else(oB (qdv (gB r9.1.cells 0) (gI r9.1.cells 1) (gI r9.1.cells 2) (gI r9.1.cells 3) v2 (0:Int)) fun r18=>(some ((.agg [(.bool (gB r18.1.cells 0)),(.int .u64 (gI r18.1.cells 1)),(.int .u64 (gI r18.1.cells 2)),(.int .i64 (gI r18.1.cells 3))]),(0:Int)))))))else(bif((v3==2)&&true)then(oB (qe2 r6 v2) fun r8=>(bif(!r8.2)then(some ((.agg [(.bool false),(.int .u64 (0:Int)),(.int .u64 (0:Int)),(.int .i64 (0:Int))]),(22:Int)))else(bif((v3==3)&&(decide ((gI r8.1.cells 3)<v2)))then(oB (qif (gB r8.1.cells 0) (gI r8.1.cells 1) (gI r8.1.cells 2) (gI r8.1.cells 3)) fun r13=>(oB (qdv (gB r13.2.1.cells 0) (gI r13.2.1.cells 1) (gI r13.2.1.cells 2) (gI r13.2.1.cells 3) v2 (0:Int)) fun r14=>(some ((.agg [(.bool (gB r14.1.cells 0)),(.int .u64 (gI r14.1.cells 1)),(.int .u64 (gI r14.1.cells 2)),(.int .i64 (gI r14.1.cells 3))]),(0:Int)))))else(oB (qdv (gB r8.1.cells 0) (gI r8.1.cells 1) (gI r8.1.cells 2) (gI r8.1.cells 3) v2 (0:Int)) fun r15=>(some ((.agg [(.bool (gB r15.1.cells 0)),(.int .u64 (gI r15.1.cells 1)),(.int .u64 (gI r15.1.cells 2)),(.int .i64 (gI r15.1.cells 3))]),(0:Int)))))))else(bif((v3==3)&&true)then(oB (qe1 r6 v2) fun r7=>(bif(!r7.2)then(some ((.agg [(.bool false),(.int .u64 (0:Int)),(.int .u64 (0:Int)),(.int .i64 (0:Int))]),(22:Int)))else(bif((v3==3)&&(decide ((gI r7.1.cells 3)<v2)))then(oB (qif (gB r7.1.cells 0) (gI r7.1.cells 1) (gI r7.1.cells 2) (gI r7.1.cells 3)) fun r10=>(oB (qdv (gB r10.2.1.cells 0) (gI r10.2.1.cells 1) (gI r10.2.1.cells 2) (gI r10.2.1.cells 3) v2 (0:Int)) fun r11=>(some ((.agg [(.bool (gB r11.1.cells 0)),(.int .u64 (gI r11.1.cells 1)),(.int .u64 (gI r11.1.cells 2)),(.int .i64 (gI r11.1.cells 3))]),(0:Int)))))else(oB (qdv (gB r7.1.cells 0) (gI r7.1.cells 1) (gI r7.1.cells 2) (gI r7.1.cells 3) v2 (0:Int)) fun r12=>(some ((.agg [(.bool (gB r12.1.cells 0)),(.int .u64 (gI r12.1.cells 1)),(.int .u64 (gI r12.1.cells 2)),(.int .i64 (gI r12.1.cells 3))]),(0:Int)))))))else none))))))))))
def qtb:=hull qk9
theorem q74:qtb=qk9:=qa _
def qbbh {R:Type}:EntF Tryz.prog R:=entB (nt:=86) (dec:=q6j) (enc:=(fun r=>.tup [qd4 (.st [.b,(.i .u64),(.i .u64),(.i .i64)]) r.1,.int .i64 r.2])) tabOk follows Tryz.func98 [(.cell 8 true 4),.t 9] (hdeN fun _=>rfl) (.s .z (.s (.r [(2,.c qrf.b)] []) (.s (.b (.s .z (.s .z (.s .z (.s .z (.s (.r [(7,.c qba9.b),(11,.g 2),(15,.g 2)] []) .z)))))) (.s .z (.s (.d [] [(2,.c qbke.b),(7,.c (eB q15))] [] []) (.s .z (.s (.s (.r [(3,.g 4)] []) (.s (.r [(1,.c qs8.b)] []) .z)) (.s (.r [(2,.c qws.b)] []) .z)))))))) S60_ qk9 (fun f v=>f (v.l 0 0) (v.b 5 0) (v.i 5 1) (v.i 5 2) (v.i 5 3) (v.i 8 0) (v.i 12 0))
def S61_:Shp:=⟨[(0,.one (.l (.sl 8))),(1,.st (lk qe)),(2,.one (.l (.i .i64))),(3,.one (.l (.i .i64))),(4,.one (.l .s)),(5,.one (.l .s))],[]⟩
def q16:AV->Option ((List AV)×AV×Int):=decN [(.one (.sl 8)),(.st [.b,(.i .u64),(.i .u64),(.i .i64)]),(.one (.i .i64))] fun z=>(aL (gC (tpL z) 0),(gC (tpL z) 1),aI (gC (tpL z) 2))
def qjn (v0:LA)(B7:Bool)(B8 B9 Ca v2 v3:Int)(v4 v5:LU):Option ((List AV)×AV×Int):=
 (oB (qtb v0 B7 B8 B9 Ca v2 v3) fun r1=>(bif(r1.2 != (0:Int))then(some (([]:List AV),(.agg [(.bool false),(.int .u64 (0:Int)),(.int .u64 (0:Int)),(.int .i64 (0:Int))]),r1.2))else(oB (qxg v0 (gB r1.1.cells 0) (gI r1.1.cells 1) (gI r1.1.cells 2) (gI r1.1.cells 3) (2:Int) v4 v5 (0:Int)) fun r2=>(bif(r2.2 != (0:Int))then(some (([]:List AV),(.agg [(.bool false),(.int .u64 (0:Int)),(.int .u64 (0:Int)),(.int .i64 (0:Int))]),r2.2))else(some (r2.1,(.agg [(.bool (gB r1.1.cells 0)),(.int .u64 (gI r1.1.cells 1)),(.int .u64 (gI r1.1.cells 2)),(.int .i64 (gI r1.1.cells 3))]),(0:Int)))))))
def qla:=hull qjn
theorem q3z:qla=qjn:=qa _
def qub {R:Type}:EntF Tryz.prog R:=entB (nt:=45) (dec:=q16) (enc:=(fun r=>.tup [.sl 8 r.1,qd4 (.st [.b,(.i .u64),(.i .u64),(.i .i64)]) r.2.1,.int .i64 r.2.2])) tabOk follows Tryz.func42 [.t 12,(.cell 13 true 4),.t 14] (hdeN fun _=>rfl) (.s .z (.s (.r [(4,.c qbbh.b)] []) (.s (.s .z (.s (.s .z (.v [.eta 12 (.one (.sl 8))])) .z)) (.s (.r [(5,.k q7t.b)] []) (.s (.s .z (.s (.s .z (.v [.eta 12 (.one (.sl 8))])) .z)) .z))))) S61_ qjn (fun f v=>f (v.l 0 0) (v.b 5 0) (v.i 5 1) (v.i 5 2) (v.i 5 3) (v.i 8 0) (v.i 12 0) (v.s 16 0) (v.s 20 0))
def S62_:Shp:=⟨[(0,.one (.l .s)),(1,.one (.l .s))],[]⟩
def qgr (v0 v1:LU):Option Bool:=
 (bif(decide ((v0.length:Int)>=(v1.length:Int)))then(oB (cutI v0 (some (IntKind.i64.wrap ((v0.length:Int)-(v1.length:Int)))) none) fun s1=>(some (s1==v1)))else(some false))
def qse:=hull qgr
theorem qye:qse=qgr:=qa _
def qzq {R:Type}:EntF Tryz.prog R:=entB (nt:=21) (dec:=decB) (enc:=AV.bool) tabOk follows Tryz.func168 [.t 4] hdeB (.z) S62_ qgr (fun f v=>f (v.s 0 0) (v.s 4 0))
def qjo (v0 v1:LU):Option Bool:=
 (oB (qse v0 v1) fun r1=>(some r1))
def qlb:=hull qjo
theorem q30:qlb=qjo:=qa _
def quc {R:Type}:EntF Tryz.prog R:=entB (nt:=8) (dec:=decB) (enc:=AV.bool) tabOk follows Tryz.func113 [.t 4] hdeB (.s .z (.s (.r [(2,.c qzq.b)] []) .z)) S62_ qjo (fun f v=>f (v.s 0 0) (v.s 4 0))
theorem qbk3 {R:Type}:qi7 Tryz.prog 195 (qu8 (R:=R)):=qbno Tryz.func195 (by kernel_rfl) (by kernel_rfl) (by kernel_rfl) (by kernel_rfl)
theorem qbk4 {R:Type}:qi7 Tryz.prog 203 (qu9 (R:=R)):=qbnp Tryz.func203 (by kernel_rfl) (by kernel_rfl) (by kernel_rfl) (by kernel_rfl)
def S63_:Shp:=⟨[(0,.one (.l .s)),(1,.one (.l (.i .u8)))],[]⟩
def qgs (v0:LU)(v1:Int):Option Int:=
 (oB (qxp v0 v1) fun r1=>(some r1))
def qsf:=hull qgs
theorem qyf:qsf=qgs:=qa _
def qzr {R:Type}:EntF Tryz.prog R:=entB (nt:=8) (dec:=(decI .i64)) (enc:=(AV.int .i64)) tabOk follows Tryz.func199 [.t 4] hdeI (.s .z (.s (.r [(2,.c (eK qbk4))] []) .z)) S63_ qgs (fun f v=>f (v.s 0 0) (v.i 4 0))
def qjp (v0 v1:LU):Option Int:=
 (bif(((v1.length:Int)==0)||(v1==v0))then(some (0:Int))else(bif((v1.length:Int)==1)then(oB (ixB v1 (0:Int)) fun c1=>(oB (qsf v0 (c1.toNat:Int)) fun r2=>(some r2)))else(bif(decide ((v1.length:Int)>=(v0.length:Int)))then(some (-1:Int))else none)))
def qw7:=hull qjp
theorem q31:qw7=qjp:=qa _
def q6k {R:Type}:EntF Tryz.prog R:=entB (nt:=143) (dec:=(decI .i64)) (enc:=(AV.int .i64)) tabOk follows Tryz.func196 [.t 4] hdeI (.s .z (.s .z (.s (.b (.s (.r [(3,.g 3)] []) (.s .z (.s .z (.s (.s (.r [(3,.c qzr.b)] []) .z) .z))))) (.s .z (.s .z (.s .z (.s .z (.s .z (.s (.b .x) .z))))))))) S62_ qjp (fun f v=>f (v.s 0 0) (v.s 4 0))
def qod (v0 v1:LU):Option Int:=
 (oB (qw7 v0 v1) fun r1=>(some r1))
def qri:=hull qod
theorem qbde:qri=qod:=qa _
def qz8 {R:Type}:EntF Tryz.prog R:=entB (nt:=8) (dec:=(decI .i64)) (enc:=(AV.int .i64)) tabOk follows Tryz.func187 [.t 4] hdeI (.s .z (.s (.r [(2,.c q6k.b)] []) .z)) S62_ qod (fun f v=>f (v.s 0 0) (v.s 4 0))
def S64_:Shp:=⟨[(0,.one (.l .s)),(1,.one (.l .s)),(5,.one (.l (.i .i64)))],[]⟩
def qud (v0 v1:LU)(v5:Int)(next:(List UInt8)->Int->Option Int):Option Int:=
 (oB (qri v0 v1) fun r1=>(bif(r1==(-1))then(some v5)else(oB (cutI v0 (some (IntKind.i64.wrap (r1+(v1.length:Int)))) none) fun s2=>(next s2 (IntKind.i64.wrap (v5+1))))))
def qny (v1:LU):Nat->(List UInt8)->Int->Option Int
 |0=>(fun _ _=>none)
 |n+1=>(fun v0 v5=>qud v0 v1 v5 (qny v1 n))
def qbbi:=hull (qny)
def q6l:SubB Tryz.prog (TIof Tryz.prog) 34 0 (kret [.t 4] (decI .i64)):=lpB tabOk follows Tryz.f186 79 (.b (.s (.r [(2,.c qz8.b)] []) (.s .z (.s .z (.v [.sel [0,1,5] []]))))) S64_ (qny) (fun f v K n=>f (v.s 4 0) n) (fun v f K=>qud (v.s 0 0) (v.s 4 0) (v.i 20 0) f) (fun f v=>f (v.s 0 0) (v.i 20 0)) (fun k v=>(fun z0 z1=>k ((v.us 0 0 z0).ui 20 0 z1)))
def qoe (v0 v1:LU):Option Int:=
 (bif((v1.length:Int)==0)then none else(bif((v1.length:Int)==1)then(oB (ixB v1 (0:Int)) fun c1=>(oB (qxo v0 (c1.toNat:Int)) fun r2=>(some r2)))else(qbbi v1 FU v0 (0:Int))))
def qwt:=hull qoe
theorem qbdf:qwt=qoe:=qa _
def qbe0 {R:Type}:EntF Tryz.prog R:=entB (nt:=34) (dec:=(decI .i64)) (enc:=(AV.int .i64)) tabOk follows Tryz.func186 [.t 4] hdeI (.s .z (.s (.s .z (.s (.s (.r [(1,.c (eK (qbq1 (f:=193))))] []) .z) .z)) (.s (.s .z (.s (.s (.r [(3,.c (eK qbk3))] []) .z) .z)) (.s .z (.b (.sub [.sel [0,1,5] []] q6l [])))))) S62_ qoe (fun f v=>f (v.s 0 0) (v.s 4 0))
def S65_:Shp:=⟨[(0,.one (.l .s)),(1,.one (.l .s)),(2,.one (.l (.i .i64))),(3,.one (.l (.i .i64)))],[]⟩
def S66_:Shp:=⟨[(0,.one (.l .s)),(1,.one (.l .s)),(2,.one (.l (.i .i64))),(3,.one (.l (.i .i64))),(9,.one (.own 0)),(10,.one (.l (.i .i64)))],[.arr true 1]⟩
def qzs (v0 v1:LU)(v2:Int)(K:Ex->Env->Mem->Option (List AV)):=(fun z_v3=>K .norm (qk [(0,(.str v0)),(1,(.str v1)),(2,(.int .i64 v2)),(3,(.int .i64 z_v3))]) (qh []))
def qhg (v0 v1:LU)(v2 v3:Int)(kn:Int->Option (List AV)):Option (List AV):=
 (bif(decide (v3<0))then(oB (qwt v0 v1) fun r1=>(kn (IntKind.i64.wrap (r1+1))))else(kn v3))
def qtc:=hull (qhg)
theorem qzt:qtc=qhg:=qa _
def q1e:SubB Tryz.prog (TIof Tryz.prog) 66 0 (kret [.t 8] (decX (.one (.sl 1)) fun z=>aL z)):=jnB tabOk follows Tryz.f169 23 (.s .z (.s (.r [(2,.c qbe0.b)] [.sel [0,1,2,3] []]) (.v [.sel [0,1,2,3] []]))) S65_ (qhg) (fun f v K=>f (v.s 0 0) (v.s 4 0) (v.i 8 0) (v.i 12 0) (qzs (v.s 0 0) (v.s 4 0) (v.i 8 0) K))
def qo7 (K:Ex->Env->Mem->Option (List AV)):=(fun z_v0 z_v10 z_a0=>K (.exit 0) (qk [(0,(.str z_v0)),(9,(.own 0 z_a0.length)),(10,(.int .i64 z_v10))]) (qh [(some (.arr true 1 z_a0))]))
def qes (v0 v1:LU)(v2 v3 v10:Int)(a0:LA)(next:(List UInt8)->Int->(List AV)->Option (List AV))(kx0:(List UInt8)->Int->(List AV)->Option (List AV)):Option (List AV):=
 (bif(decide (v10<v3))then(oB (qri v0 v1) fun r1=>(bif(decide (r1<0))then(kx0 v0 v10 a0)else(oB (cutI v0 none (some (IntKind.i64.wrap (r1+v2)))) fun s2=>(bif hd a0 a0.length then(bif decide (0<=v10/\v10<a0.length)then(bif hd a0 a0.length then(oB (a0[v10.toNat]?) fun y3=>(oB (putE y3 0 1 [(.str s2)]) fun z4=>(oB (cutI v0 (some (IntKind.i64.wrap (r1+(v1.length:Int)))) none) fun s5=>(bif hd (a0.set v10.toNat z4) a0.length then(next s5 (IntKind.i64.wrap (v10+1)) (a0.set v10.toNat z4))else none))))else none)else none)else none))))else(kx0 v0 v10 a0))
def qc3 (v1:LU)(v2 v3:Int)(kx0:(List UInt8)->Int->(List AV)->Option (List AV)):Nat->(List UInt8)->Int->(List AV)->Option (List AV)
 |0=>(fun _ _ _=>none)
 |n+1=>(fun v0 v10 a0=>qes v0 v1 v2 v3 v10 a0 (qc3 v1 v2 v3 kx0 n) kx0)
def qtd:=hull (qc3)
theorem qzu:qtd=qc3:=qa _
def q1f:SubB Tryz.prog (TIof Tryz.prog) 66 0 (kret [.t 8] (decX (.one (.sl 1)) fun z=>aL z)):=lpB tabOk follows Tryz.f169 2303 (.s (.s .z (.s .z (.v [.sel [0,9,10] [0]]))) (.b (.s (.r [(2,.c qz8.b)] []) (.s (.s .z (.s (.v [.sel [0,9,10] [0]]) .z)) (.s .z (.s .z (.v [.hd 9,.sel [0,1,2,3,9,10] [0]]))))))) S66_ (qc3) (fun f v K n=>f (v.s 4 0) (v.i 8 0) (v.i 12 0) (qo7 K) n) (fun v f K=>qes (v.s 0 0) (v.s 4 0) (v.i 8 0) (v.i 12 0) (v.i 40 0) (v.r 0) f (qo7 K)) (fun f v=>f (v.s 0 0) (v.i 40 0) (v.r 0)) (fun k v=>(fun z0 z1 z2=>k (((v.us 0 0 z0).ui 40 0 z1).ur 0 z2)))
def qkb (v0 v1:LU)(v2 v3:Int):Option (List AV):=
 (bif(v3==0)then(some ([]:List AV))else(bif(v1==([]:List UInt8))then none else(qtc v0 v1 v2 v3 (fun v3q1=>(bif decide (0<=(if(IntKind.i64.wrap ((v0.length:Int)+1))<v3q1 then(IntKind.i64.wrap ((v0.length:Int)+1))else v3q1)/\(if(IntKind.i64.wrap ((v0.length:Int)+1))<v3q1 then(IntKind.i64.wrap ((v0.length:Int)+1))else v3q1)<=(if(IntKind.i64.wrap ((v0.length:Int)+1))<v3q1 then(IntKind.i64.wrap ((v0.length:Int)+1))else v3q1)/\(if(IntKind.i64.wrap ((v0.length:Int)+1))<v3q1 then(IntKind.i64.wrap ((v0.length:Int)+1))else v3q1)*16<=281474976710656)then(bif(hd (List.replicate (if(IntKind.i64.wrap ((v0.length:Int)+1))<v3q1 then(IntKind.i64.wrap ((v0.length:Int)+1))else v3q1).toNat ((.str ([]:List UInt8)):AV)) ((List.replicate (if(IntKind.i64.wrap ((v0.length:Int)+1))<v3q1 then(IntKind.i64.wrap ((v0.length:Int)+1))else v3q1).toNat ((.str ([]:List UInt8)):AV)).length)&&true)then(qtd v1 v2 (IntKind.i64.wrap ((if(IntKind.i64.wrap ((v0.length:Int)+1))<v3q1 then(IntKind.i64.wrap ((v0.length:Int)+1))else v3q1)-1)) (fun v0q2 v10q3 a0q4=>(bif hd a0q4 a0q4.length then(bif decide (0<=v10q3/\v10q3<a0q4.length)then(bif hd a0q4 a0q4.length then(oB (a0q4[v10q3.toNat]?) fun y5=>(oB (putE y5 0 1 [(.str v0q2)]) fun z6=>(bif hd (a0q4.set v10q3.toNat z6) a0q4.length then(oB (cutI (a0q4.set v10q3.toNat z6) none (some (IntKind.i64.wrap (v10q3+1)))) fun s7=>(some s7))else none)))else none)else none)else none)) FU v0 (0:Int) (List.replicate (if(IntKind.i64.wrap ((v0.length:Int)+1))<v3q1 then(IntKind.i64.wrap ((v0.length:Int)+1))else v3q1).toNat ((.str ([]:List UInt8)):AV)))else none)else none)))))
def qyg:=hull qkb
theorem q6m:qyg=qkb:=qa _
def q75 {R:Type}:EntF Tryz.prog R:=entB (nt:=66) (dec:=(decX (.one (.sl 1)) fun z=>aL z)) (enc:=(fun r=>.sl 1 r)) tabOk follows Tryz.func169 [.t 8] (hdeX fun _=>rfl) (.s .z (.s (.s .z (.s (.s .z (.v [.eta 8 (.one (.sl 1))])) .z)) (.s (.s .z (.s (.s (.r [(2,.c (eK (qbq1 (f:=185))))] []) .z) .z)) (.s (.sub [.sel [0,1,2,3] []] q1e []) (.s .z (.s .z (.s .z (.s .z (.s (.b (.sub [.sel [0,1,2,3,9,10] [0]] q1f [])) .z))))))))) S65_ qkb (fun f v=>f (v.s 0 0) (v.s 4 0) (v.i 8 0) (v.i 12 0))
def qof (v0 v1:LU):Option (List AV):=
 (oB (qyg v0 v1 (0:Int) (-1:Int)) fun r1=>(some r1))
def qrj:=hull qof
theorem qbdg:qrj=qof:=qa _
def qz9 {R:Type}:EntF Tryz.prog R:=entB (nt:=8) (dec:=(decX (.one (.sl 1)) fun z=>aL z)) (enc:=(fun r=>.sl 1 r)) tabOk follows Tryz.func114 [.t 4] (hdeX fun _=>rfl) (.s .z (.s (.r [(2,.k q75.b)] []) .z)) S62_ qof (fun f v=>f (v.s 0 0) (v.s 4 0))
def S67_:Shp:=⟨[(0,.one (.l .s)),(4,.one (.l (.i .u8))),(13,.one (.l (.i .i64))),(14,.one (.l (.i .i64)))],[]⟩
def S68_:Shp:=⟨[(0,.one (.l .s)),(13,.one (.l (.i .i64))),(14,.one (.l (.i .i64)))],[]⟩
def S69_:Shp:=⟨[(0,.one (.l .s))],[]⟩
def q17 (v0:LU)(v13 v14:Int)(K:Ex->Env->Mem->Option Bool):=(fun z_v41=>K .norm (qk [(0,(.str v0)),(13,(.int .i64 v13)),(14,(.int .i64 v14)),(41,(.bool z_v41))]) (qh []))
def qiu (v0:LU)(v4 v13 v14:Int)(kn:Bool->Option Bool):Option Bool:=
 (bif((decide (v4<97))||(decide (v4>122)))then(bif(decide (v4<48))then(kn ((v4 != (45:Int))&&(v4 != (95:Int))))else(kn (((decide (v4>57))&&(v4 != (45:Int)))&&(v4 != (95:Int)))))else(kn false))
def qo8:=hull (qiu)
theorem q18:qo8=qiu:=qa _
def q32:SubB Tryz.prog (TIof Tryz.prog) 43 0 (kret [.t 2] decB):=jnB tabOk follows Tryz.f115 11467 (.r [(3,.g 2),(15,.g 2),(19,.g 2)] [.sel [0,13,14,41] []]) S67_ (qiu) (fun f v K=>f (v.s 0 0) (v.i 16 0) (v.i 52 0) (v.i 56 0) (q17 (v.s 0 0) (v.i 52 0) (v.i 56 0) K))
def qqx (K:Ex->Env->Mem->Option Bool):=(fun(_:Unit)=>K (.exit 0) (qk []) (qh []))
def qfo (v0:LU)(v13 v14:Int)(next:Int->Option Bool)(kx0:Unit->Option Bool):Option Bool:=
 (bif(decide (v14<v13))then(oB (ixB v0 v14) fun c1=>(qo8 v0 (c1.toNat:Int) v13 v14 (fun v41q2=>(bif v41q2 then(some false)else(next (IntKind.i64.wrap (v14+1)))))))else(kx0 ()))
def qfp (v0:LU)(v13:Int)(kx0:Unit->Option Bool):Nat->Int->Option Bool
 |0=>(fun _=>none)
 |n+1=>(fun v14=>qfo v0 v13 v14 (qfp v0 v13 kx0 n) kx0)
def qvy:=hull (qfp)
theorem q19:qvy=qfp:=qa _
def q33:SubB Tryz.prog (TIof Tryz.prog) 43 0 (kret [.t 2] decB):=lpB tabOk follows Tryz.f115 75 (.s .z (.s (.s .z (.v [.sel [] []])) (.s (.b (.s .z (.s .z (.s (.sub [.sel [0,4,13,14] []] q32 []) .z)))) (.v [.sel [0,13,14] []])))) S68_ (qfp) (fun f v K n=>f (v.s 0 0) (v.i 52 0) (qqx K) n) (fun v f K=>qfo (v.s 0 0) (v.i 52 0) (v.i 56 0) f (qqx K)) (fun f v=>f (v.i 56 0)) (fun k v=>(fun z0=>k (v.ui 56 0 z0)))
def qmf (v0:LU):Option Bool:=
 (bif((v0==([]:List UInt8))||(decide ((v0.length:Int)>63)))then(some false)else(qvy v0 (v0.length:Int) (fun(_:Unit)=>(some true)) FU (0:Int)))
def qum:=hull qmf
theorem qbbj:qum=qmf:=qa _
def qbdh {R:Type}:EntF Tryz.prog R:=entB (nt:=43) (dec:=decB) (enc:=AV.bool) tabOk follows Tryz.func115 [.t 2] hdeB (.s .z (.s (.s (.r [(3,.g 3)] []) .z) (.s (.s .z (.b (.sub [.sel [0,13,14] []] q33 []))) .z))) S69_ qmf (fun f v=>f (v.s 0 0))
def S70_:Shp:=⟨[(3,.one (.l (.i .i64))),(4,.one (.l .s)),(20,.one (.l (.sl 1))),(21,.one (.l (.i .i64))),(22,.one (.l (.i .i64)))],[]⟩
def S71_:Shp:=⟨[(20,.one (.l (.sl 1))),(21,.one (.l (.i .i64))),(22,.one (.l (.i .i64)))],[]⟩
def q76 (v0:LU)(K:Ex->Env->Mem->Option Bool):=(fun z_v14=>K .norm (qk [(0,(.str v0)),(14,(.bool z_v14))]) (qh []))
def qlc (v0:LU)(kn:Bool->Option Bool):Option Bool:=
 (bif(decide ((v0.length:Int)>=255))then(kn true)else(oB (qlb v0 ([46]:List UInt8)) fun r1=>(kn (!r1))))
def q0a:=hull (qlc)
theorem q77:q0a=qlc:=qa _
def qbbk:SubB Tryz.prog (TIof Tryz.prog) 39 0 (kret [.t 2] decB):=jnB tabOk follows Tryz.f59 19 (.r [(5,.c quc.b)] [.sel [0,14] []]) S69_ (qlc) (fun f v K=>f (v.s 0 0) (q76 (v.s 0 0) K))
def q78 (v20:LA)(v21 v22:Int)(K:Ex->Env->Mem->Option Bool):=(fun z_v37=>K .norm (qk [(20,(.sl 1 v20)),(21,(.int .i64 v21)),(22,(.int .i64 v22)),(37,(.bool z_v37))]) (qh []))
def qld (v3:Int)(v4:LU)(v20:LA)(v21 v22:Int)(kn:Bool->Option Bool):Option Bool:=
 (oB (qum v4) fun r1=>(bif(!r1)then(bif(decide (v3>0))then(kn true)else(kn (!(v4==([42]:List UInt8)))))else(kn false)))
def q0b:=hull (qld)
theorem q79:q0b=qld:=qa _
def qbbl:SubB Tryz.prog (TIof Tryz.prog) 39 0 (kret [.t 2] decB):=jnB tabOk follows Tryz.f59 10647 (.r [(1,.c qbdh.b)] [.sel [20,21,22,37] []]) S70_ (qld) (fun f v K=>f (v.i 12 0) (v.s 16 0) (v.l 80 0) (v.i 84 0) (v.i 88 0) (q78 (v.l 80 0) (v.i 84 0) (v.i 88 0) K))
def que (K:Ex->Env->Mem->Option Bool):=(fun(_:Unit)=>K (.exit 0) (qk []) (qh []))
def qio (v20:LA)(v21 v22:Int)(next:Int->Option Bool)(kx0:Unit->Option Bool):Option Bool:=
 (bif(decide (v22<v21))then(oB (ixB v20 v22) fun y1=>(bif fitC [.s] y1.cells then(q0b v22 (gS y1.cells 0) v20 v21 v22 (fun v37q2=>(bif v37q2 then(some false)else(next (IntKind.i64.wrap (v22+1))))))else none))else(kx0 ()))
def qip (v20:LA)(v21:Int)(kx0:Unit->Option Bool):Nat->Int->Option Bool
 |0=>(fun _=>none)
 |n+1=>(fun v22=>qio v20 v21 v22 (qip v20 v21 kx0 n) kx0)
def qte:=hull (qip)
theorem q8a:qte=qip:=qa _
def qbbm:SubB Tryz.prog (TIof Tryz.prog) 39 0 (kret [.t 2] decB):=lpB tabOk follows Tryz.f59 151 (.s .z (.s (.s .z (.v [.sel [] []])) (.s (.b (.s (.r [(1,.p (.etac 25 [.s]))] []) (.s (.sub [.sel [3,4,20,21,22] []] qbbl []) .z))) (.v [.sel [20,21,22] []])))) S71_ (qip) (fun f v K n=>f (v.l 80 0) (v.i 84 0) (que K) n) (fun v f K=>qio (v.l 80 0) (v.i 84 0) (v.i 88 0) f (que K)) (fun f v=>f (v.i 88 0)) (fun k v=>(fun z0=>k (v.ui 88 0 z0)))
def qrk (v0:LU):Option Bool:=
 (bif(v0==([46]:List UInt8))then(some true)else(q0a v0 (fun v14q1=>(bif v14q1 then(some false)else(oB (cutI v0 none (some (IntKind.i64.wrap ((v0.length:Int)-1)))) fun s2=>(oB (qrj s2 ([46]:List UInt8)) fun r3=>(qte r3 (r3.length:Int) (fun(_:Unit)=>(some true)) FU (0:Int))))))))
def qet:=hull qrk
theorem qbhl:qet=qrk:=qa _
def qgj {R:Type}:EntF Tryz.prog R:=entB (nt:=39) (dec:=decB) (enc:=AV.bool) tabOk follows Tryz.func59 [.t 2] hdeB (.s .z (.s .z (.s (.s (.sub [.sel [0] []] qbbk []) .z) (.s (.s (.r [(5,.k qz9.b)] []) (.b (.sub [.sel [20,21,22] []] qbbm []))) .z)))) S69_ qrk (fun f v=>f (v.s 0 0))
def qj0 (x0:LU)(x1:Bool)(x2 x3 x4:Int):List AV:=[.str x0,.bool x1,.int .u64 x2,.int .u64 x3,.int .i64 x4]
def S72_:Shp:=⟨[(1,.one (.ptr 0 0))],[.box true (lk qj)]⟩
def S73_:Shp:=⟨[(0,.st (lk qj))],[]⟩
def q6n (Av:LU)(Aw:Bool)(Ax Ay Az:Int)(K:Ex->Env->Mem->Option Int):=(fun z_v3=>K .norm (qk [(1,(.ptr 0 0)),(3,(.bool z_v3))]) (qh [(some (.box true (qj0 Av Aw Ax Ay Az)))]))
def qkc (Av:LU)(Aw:Bool)(Ax Ay Az:Int)(kn:Bool->Option Int):Option Int:=
 (oB (qet Av) fun r1=>(bif(!r1)then(kn true)else(oB (ixB Av (0:Int)) fun c2=>(kn ((c2.toNat:Int)==42)))))
def qyh:=hull (qkc)
theorem q6o:qyh=qkc:=qa _
def q8b:SubB Tryz.prog (TIof Tryz.prog) 28 0 (kret [.t 2] (decI .i64)):=jnB tabOk follows Tryz.f111 17 (.r [(2,.c qgj.b)] [.sel [1,3] [0]]) S72_ (qkc) (fun f v K=>f (v.s 3 0) (v.b 3 1) (v.i 3 2) (v.i 3 3) (v.i 3 4) (q6n (v.s 3 0) (v.b 3 1) (v.i 3 2) (v.i 3 3) (v.i 3 4) K))
def qog (Aa:LU)(Ab:Bool)(Ac Bt Bu:Int):Option Int:=
 (qyh Aa Ab Ac Bt Bu (fun v3q1=>(bif v3q1 then(some (2:Int))else(oB (qs3 Ab Ac Bt) fun r2=>(bif(!r2)then(some (3:Int))else(bif((decide (Bu<0))||(decide (Bu>2147483647)))then(some (1:Int))else(some (0:Int))))))))
def qwu:=hull qog
theorem qbdi:qwu=qog:=qa _
def qbe1 {R:Type}:EntF Tryz.prog R:=entB (nt:=28) (dec:=(decI .i64)) (enc:=(AV.int .i64)) tabOk follows Tryz.func111 [.t 2] hdeI (.s .z (.s (.b (.s (.sub [.sel [1] [0]] q8b []) (.s .z (.s (.r [(2,.c qx5.b)] []) (.s .z (.s (.r [(4,.g 3)] []) .z)))))) .z)) S73_ qog (fun f v=>f (v.s 1 0) (v.b 1 1) (v.i 1 2) (v.i 1 3) (v.i 1 4))
theorem qbk5 {R:Type}:qi7 Tryz.prog 188 (qva (R':=R)):=qbnq Tryz.func188 (by kernel_rfl) (by kernel_rfl) (by kernel_rfl) (by kernel_rfl)
def qjx (v0 v1:LU):Option Int:=
 (oB (q5k v0 v1) fun r1=>(some r1))
def qsg:=hull qjx
theorem qyi:qsg=qjx:=qa _
def qzv {R:Type}:EntF Tryz.prog R:=entB (nt:=8) (dec:=(decI .i64)) (enc:=(AV.int .i64)) tabOk follows Tryz.func170 [.t 4] hdeI (.s .z (.s (.r [(2,.c (eK qbk5))] []) .z)) S62_ qjx (fun f v=>f (v.s 0 0) (v.s 4 0))
def qle (v0 v1:LU):Option Int:=
 (oB (qsg v0 v1) fun r1=>(some r1))
def qoh:=hull qle
theorem q8c:qoh=qle:=qa _
def qw8 {R:Type}:EntF Tryz.prog R:=entB (nt:=8) (dec:=(decI .i64)) (enc:=(AV.int .i64)) tabOk follows Tryz.func116 [.t 4] hdeI (.s .z (.s (.r [(2,.c qzv.b)] []) .z)) S62_ qle (fun f v=>f (v.s 0 0) (v.s 4 0))
def q8d (v0:LU)(K:Ex->Env->Mem->Option (List AV)):=(fun z_v9=>K .norm (qk [(0,(.str v0)),(9,(.bool z_v9))]) (qh []))
def qlf (v0:LU)(kn:Bool->Option (List AV)):Option (List AV):=
 (bif(v0==([46]:List UInt8))then(kn true)else(oB (qet v0) fun r1=>(kn (!r1))))
def q0c:=hull (qlf)
theorem q8e:q0c=qlf:=qa _
def qbbn:SubB Tryz.prog (TIof Tryz.prog) 16 0 (kret [.t 2] (decX (.one (.sl 1)) fun z=>aL z)):=jnB tabOk follows Tryz.f117 9 (.r [(4,.c qgj.b)] [.sel [0,9] []]) S69_ (qlf) (fun f v K=>f (v.s 0 0) (q8d (v.s 0 0) K))
def qp2 (v0:LU):Option (List AV):=
 (q0c v0 (fun v9q1=>(bif v9q1 then(some ([]:List AV))else(oB (cutI v0 none (some (IntKind.i64.wrap ((v0.length:Int)-1)))) fun s2=>(oB (qrj s2 ([46]:List UInt8)) fun r3=>(some r3))))))
def qo9:=hull qp2
theorem qbe2:qo9=qp2:=qa _
def qun {R:Type}:EntF Tryz.prog R:=entB (nt:=16) (dec:=(decX (.one (.sl 1)) fun z=>aL z)) (enc:=(fun r=>.sl 1 r)) tabOk follows Tryz.func117 [.t 2] (hdeX fun _=>rfl) (.s .z (.s (.s (.sub [.sel [0] []] qbbn []) (.s (.s .z (.v [.eta 2 (.one (.sl 1))])) .z)) (.s (.r [(5,.k qz9.b)] []) .z))) S69_ qp2 (fun f v=>f (v.s 0 0))
def S74_:Shp:=⟨[(7,.one (.l (.sl 1))),(8,.one (.l (.sl 1))),(9,.one (.l (.i .i64)))],[]⟩
def qsh (v7 v8:LA)(K:Ex->Env->Mem->Option Int):=(fun(_:Unit)=>K (.exit 1) (qk [(7,(.sl 1 v7)),(8,(.sl 1 v8))]) (qh []))
def qnz (v7 v8:LA)(v9:Int)(next:Int->Option Int)(kx1:Unit->Option Int):Option Int:=
 (bif((decide (v9<=(v7.length:Int)))&&(decide (v9<=(v8.length:Int))))then(oB (ixB v7 (IntKind.i64.wrap ((v7.length:Int)-v9))) fun y1=>(bif fitC [.s] y1.cells then(oB (ixB v8 (IntKind.i64.wrap ((v8.length:Int)-v9))) fun y2=>(bif fitC [.s] y2.cells then(oB (qoh (gS y1.cells 0) (gS y2.cells 0)) fun r3=>(bif(r3 != (0:Int))then(some r3)else(next (IntKind.i64.wrap (v9+1)))))else none))else none))else(kx1 ()))
def qep (v7 v8:LA)(kx1:Unit->Option Int):Nat->Int->Option Int
 |0=>(fun _=>none)
 |n+1=>(fun v9=>qnz v7 v8 v9 (qep v7 v8 kx1 n) kx1)
def qw9:=hull (qep)
theorem q34:qw9=qep:=qa _
def q6p:SubB Tryz.prog (TIof Tryz.prog) 79 0 (kret [.t 4] (decI .i64)):=lpB tabOk follows Tryz.f60 303 (.s (.s (.r [(5,.g 4)] []) (.s .z (.v [.sel [7,8] []]))) (.s (.b (.s (.d [] [(5,.e 54 [.s]),(12,.e 61 [.s])] [(0,.c qw8.b)] []) .z)) (.v [.sel [7,8,9] []]))) S74_ (qep) (fun f v K n=>f (v.l 28 0) (v.l 32 0) (qsh (v.l 28 0) (v.l 32 0) K) n) (fun v f K=>qnz (v.l 28 0) (v.l 32 0) (v.i 36 0) f (qsh (v.l 28 0) (v.l 32 0) K)) (fun f v=>f (v.i 36 0)) (fun k v=>(fun z0=>k (v.ui 36 0 z0)))
def qoi (v0 v1:LU):Option Int:=
 (oB (qet v0) fun r1=>(oB (qet v1) fun r2=>(bif(r1&&(!r2))then(some (-1:Int))else(bif(r2&&(!r1))then(some (1:Int))else(bif(!r1)then(oB (qoh v0 v1) fun r3=>(some r3))else(oB (qo9 v0) fun r4=>(oB (qo9 v1) fun r5=>(qw9 r4 r5 (fun(_:Unit)=>(bif(decide ((r4.length:Int)<(r5.length:Int)))then(some (-1:Int))else(bif(decide ((r4.length:Int)>(r5.length:Int)))then(some (1:Int))else(some (0:Int))))) FU (1:Int)))))))))
def qne:=hull qoi
theorem qbdj:qne=qoi:=qa _
def qtf {R:Type}:EntF Tryz.prog R:=entB (nt:=79) (dec:=(decI .i64)) (enc:=(AV.int .i64)) tabOk follows Tryz.func60 [.t 4] hdeI (.s .z (.s (.r [(1,.c qgj.b),(3,.c qgj.b)] []) (.s (.b (.s (.r [(2,.g 2)] []) (.s .z (.s (.r [(2,.g 2)] []) (.s .z (.s .z (.s (.s (.r [(2,.c qw8.b)] []) .z) .z))))))) (.s (.r [(1,.k qun.b),(3,.k qun.b)] []) (.s (.s .z (.b (.sub [.sel [7,8,9] []] q6p []))) .z))))) S62_ qoi (fun f v=>f (v.s 0 0) (v.s 4 0))
def S75_:Shp:=⟨[(0,.st (lk qj)),(1,.st (lk qj))],[]⟩
def qoj (Aa:LU)(Ab:Bool)(Ac Bt Bu:Int)(B7:LU)(B8:Bool)(B9 Ca Cb:Int):Option Int:=
 (oB (qo6 Ab Ac Bt B8 B9 Ca) fun r1=>(bif(r1 != (0:Int))then(some r1)else(oB (qne Aa B7) fun r2=>(some r2))))
def qwv:=hull qoj
theorem qbdk:qwv=qoj:=qa _
def qbe3 {R:Type}:EntF Tryz.prog R:=entB (nt:=19) (dec:=(decI .i64)) (enc:=(AV.int .i64)) tabOk follows Tryz.func112 [.t 4] hdeI (.s .z (.s (.s (.r [(4,.c quj.b)] []) .z) (.s (.r [(4,.c qtf.b)] []) .z))) S75_ qoj (fun f v=>f (v.s 1 0) (v.b 1 1) (v.i 1 2) (v.i 1 3) (v.i 1 4) (v.s 5 0) (v.b 5 1) (v.i 5 2) (v.i 5 3) (v.i 5 4))
def S76_:Shp:=⟨[(0,.one (.l (.sl 5))),(10,.one (.l (.sl 5))),(11,.one (.l (.i .i64))),(12,.one (.l (.i .i64)))],[]⟩
def S77_:Shp:=⟨[(0,.one (.l (.sl 5)))],[]⟩
def qsi (K:Ex->Env->Mem->Option Int):=(fun(_:Unit)=>K (.exit 0) (qk []) (qh []))
def qgx (v0 v10:LA)(v11 v12:Int)(next:Int->Option Int)(kx0:Unit->Option Int):Option Int:=
 (bif(decide (v12<v11))then(oB (ixB v10 v12) fun y1=>(bif fitC qj y1.cells then(oB (qwu (gS y1.cells 0) (gB y1.cells 1) (gI y1.cells 2) (gI y1.cells 3) (gI y1.cells 4)) fun r2=>(bif(r2 != (0:Int))then(some r2)else(bif(v12==0)then(next (IntKind.i64.wrap (v12+1)))else(oB (ixB v0 (IntKind.i64.wrap (v12-1))) fun y3=>(bif fitC qj y3.cells then(oB (qwv (gS y1.cells 0) (gB y1.cells 1) (gI y1.cells 2) (gI y1.cells 3) (gI y1.cells 4) (gS y3.cells 0) (gB y3.cells 1) (gI y3.cells 2) (gI y3.cells 3) (gI y3.cells 4)) fun r4=>(bif(decide (r4<0))then(some (7:Int))else(bif(r4==0)then(some (12:Int))else(next (IntKind.i64.wrap (v12+1))))))else none)))))else none))else(kx0 ()))
def qgy (v0 v10:LA)(v11:Int)(kx0:Unit->Option Int):Nat->Int->Option Int
 |0=>(fun _=>none)
 |n+1=>(fun v12=>qgx v0 v10 v11 v12 (qgy v0 v10 v11 kx0 n) kx0)
def qxa:=hull (qgy)
theorem q35:qxa=qgy:=qa _
def q6q:SubB Tryz.prog (TIof Tryz.prog) 38 0 (kret [.t 2] (decI .i64)):=lpB tabOk follows Tryz.f58 75 (.s .z (.s (.s .z (.v [.sel [] []])) (.s (.b (.s (.r [(1,.p (.etac 15 qj))] []) (.s (.s (.r [(1,.c qbe1.b)] []) .z) (.s .z (.s (.d [] [(4,.e 28 qj)] [(0,.c qbe3.b)] []) .z))))) (.v [.sel [0,10,11,12] []])))) S76_ (qgy) (fun f v K n=>f (v.l 0 0) (v.l 40 0) (v.i 44 0) (qsi K) n) (fun v f K=>qgx (v.l 0 0) (v.l 40 0) (v.i 44 0) (v.i 48 0) f (qsi K)) (fun f v=>f (v.i 48 0)) (fun k v=>(fun z0=>k (v.ui 48 0 z0)))
def qok (v0:LA):Option Int:=
 (bif(decide ((v0.length:Int)>256))then(some (9:Int))else(qxa v0 v0 (v0.length:Int) (fun(_:Unit)=>(some (0:Int))) FU (0:Int)))
def qrl:=hull qok
theorem qbdl:qrl=qok:=qa _
def q0d {R:Type}:EntF Tryz.prog R:=entB (nt:=38) (dec:=(decI .i64)) (enc:=(AV.int .i64)) tabOk follows Tryz.func58 [.t 2] hdeI (.s .z (.s .z (.s (.s .z (.b (.sub [.sel [0,10,11,12] []] q6q []))) .z))) S77_ qok (fun f v=>f (v.l 0 0))
def qp3 (Aa:LU)(Ab:Bool)(Ac Bt Bu:Int)(B7:LU)(B8:Bool)(B9 Ca Cb:Int):Option Int:=
 (oB (qo6 Ab Ac Bt B8 B9 Ca) fun r1=>(bif(r1 != (0:Int))then(some r1)else(oB (qne Aa B7) fun r2=>(some r2))))
def qpa:=hull qp3
theorem qbe4:qpa=qp3:=qa _
def q2a {R:Type}:EntF Tryz.prog R:=entB (nt:=19) (dec:=(decI .i64)) (enc:=(AV.int .i64)) tabOk follows Tryz.func158 [.t 4] hdeI (.s .z (.s (.s (.r [(4,.c quj.b)] []) .z) (.s (.r [(4,.c qtf.b)] []) .z))) S75_ qp3 (fun f v=>f (v.s 1 0) (v.b 1 1) (v.i 1 2) (v.i 1 3) (v.i 1 4) (v.s 5 0) (v.b 5 1) (v.i 5 2) (v.i 5 3) (v.i 5 4))
def S78_:Shp:=⟨[(0,.one (.l (.sl 5))),(2,.one (.fn 158 [])),(4,.one (.ptr 0 0)),(8,.one (.l (.i .i64))),(9,.one (.l (.i .i64))),(10,.one (.l (.i .i64)))],[.box true (lk qj)]⟩
def S79_:Shp:=⟨[(0,.one (.l (.sl 5))),(1,.st (lk qj)),(2,.one (.fn 158 []))],[]⟩
def qce:AV->Option (Int×Bool):=decN [(.one (.i .i64)),(.one .b)] fun z=>(aI (gC (tpL z) 0),aB (gC (tpL z) 1))
def qca (v0:LA)(v8:Int)(Av:LU)(Aw:Bool)(Ax Ay Az:Int)(K:Ex->Env->Mem->Option (Int×Bool)):=(fun z_v9=>K (.exit 0) (qk [(0,(.sl 5 v0)),(2,(.func 158 [])),(4,(.ptr 0 0)),(8,(.int .i64 v8)),(9,(.int .i64 z_v9))]) (qh [(some (.box true (qj0 Av Aw Ax Ay Az)))]))
def qbn (v0:LA)(v8 v9 v10:Int)(Av:LU)(Aw:Bool)(Ax Ay Az:Int)(next:Int->Int->Option (Int×Bool))(kx0:Int->Option (Int×Bool)):Option (Int×Bool):=
 (bif(decide (v9<v10))then(oB (ixB v0 (IntKind.i64.wrap ((IntKind.u64.wrap (IntKind.i64.wrap (v9+v10))).fdiv (2^min (1:Int).toNat IntKind.u64.bits)))) fun y1=>(bif fitC qj y1.cells then(oB (qpa (gS y1.cells 0) (gB y1.cells 1) (gI y1.cells 2) (gI y1.cells 3) (gI y1.cells 4) Av Aw Ax Ay Az) fun r2=>(bif(decide (r2<0))then(next (IntKind.i64.wrap ((IntKind.i64.wrap ((IntKind.u64.wrap (IntKind.i64.wrap (v9+v10))).fdiv (2^min (1:Int).toNat IntKind.u64.bits)))+1)) v10)else(next v9 (IntKind.i64.wrap ((IntKind.u64.wrap (IntKind.i64.wrap (v9+v10))).fdiv (2^min (1:Int).toNat IntKind.u64.bits))))))else none))else(kx0 v9))
def qm (v0:LA)(v8:Int)(Av:LU)(Aw:Bool)(Ax Ay Az:Int)(kx0:Int->Option (Int×Bool)):Nat->Int->Int->Option (Int×Bool)
 |0=>(fun _ _=>none)
 |n+1=>(fun v9 v10=>qbn v0 v8 v9 v10 Av Aw Ax Ay Az (qm v0 v8 Av Aw Ax Ay Az kx0 n) kx0)
def qcg:=hull (qm)
theorem qef:qcg=qm:=qa _
def qeh:SubB Tryz.prog (TIof Tryz.prog) 49 0 (kret [.t 6,.t 7] qce):=lpB tabOk follows Tryz.f157 71 (.s (.s .z (.s .z (.v [.sel [0,2,4,8,9] [0]]))) (.b (.s .z (.s (.d [] [(3,.e 27 qj)] [(0,.c q2a.b)] []) (.s (.v [.sel [0,2,4,8,9,10] [0]]) (.v [.sel [0,2,4,8,9,10] [0]])))))) S78_ (qm) (fun f v K n=>f (v.l 0 0) (v.i 32 0) (v.s 3 0) (v.b 3 1) (v.i 3 2) (v.i 3 3) (v.i 3 4) (qca (v.l 0 0) (v.i 32 0) (v.s 3 0) (v.b 3 1) (v.i 3 2) (v.i 3 3) (v.i 3 4) K) n) (fun v f K=>qbn (v.l 0 0) (v.i 32 0) (v.i 36 0) (v.i 40 0) (v.s 3 0) (v.b 3 1) (v.i 3 2) (v.i 3 3) (v.i 3 4) f (qca (v.l 0 0) (v.i 32 0) (v.s 3 0) (v.b 3 1) (v.i 3 2) (v.i 3 3) (v.i 3 4) K)) (fun f v=>f (v.i 36 0) (v.i 40 0)) (fun k v=>(fun z0 z1=>k ((v.ui 36 0 z0).ui 40 0 z1)))
def qbb (v0:LA)(B7:LU)(B8:Bool)(B9 Ca Cb:Int):Option (Int×Bool):=
 (qcg v0 (v0.length:Int) B7 B8 B9 Ca Cb (fun v9q1=>(bif(decide (v9q1<(v0.length:Int)))then(oB (ixB v0 v9q1) fun y2=>(bif fitC qj y2.cells then(oB (qpa (gS y2.cells 0) (gB y2.cells 1) (gI y2.cells 2) (gI y2.cells 3) (gI y2.cells 4) B7 B8 B9 Ca Cb) fun r3=>(some (v9q1,(r3==0))))else none))else(some (v9q1,false)))) FU (0:Int) (v0.length:Int))
def qcl:=hull qbb
theorem qeo:qcl=qbb:=qa _
def qeu {R:Type}:EntF Tryz.prog R:=entB (nt:=49) (dec:=qce) (enc:=(fun r=>.tup [.int .i64 r.1,.bool r.2])) tabOk follows Tryz.func157 [.t 6,.t 7] (hdeN fun _=>rfl) (.s .z (.s .z (.s .z (.s (.b (.sub [.sel [0,2,4,8,9,10] [0]] qeh [])) (.s (.d [] [(8,.e 43 qj),(11,.c q2a.b)] [] []) .z))))) S79_ qbb (fun f v=>f (v.l 0 0) (v.s 5 0) (v.b 5 1) (v.i 5 2) (v.i 5 3) (v.i 5 4))
def S80_:Shp:=⟨[(0,.one (.l (.sl 5))),(1,.st (lk qj))],[]⟩
def qbe5:AV->Option (Int×Bool):=decN [(.one (.i .i64)),(.one .b)] fun z=>(aI (gC (tpL z) 0),aB (gC (tpL z) 1))
def qrm (v0:LA)(B7:LU)(B8:Bool)(B9 Ca Cb:Int):Option (Int×Bool):=
 (oB (qcl v0 B7 B8 B9 Ca Cb) fun r1=>(some (r1.1,r1.2)))
def qqy:=hull qrm
theorem qbhm:qqy=qrm:=qa _
def qww {R:Type}:EntF Tryz.prog R:=entB (nt:=11) (dec:=qbe5) (enc:=(fun r=>.tup [.int .i64 r.1,.bool r.2])) tabOk follows Tryz.func99 [.t 4,.t 5] (hdeN fun _=>rfl) (.s .z (.s (.r [(2,.c qeu.b)] []) .z)) S80_ qrm (fun f v=>f (v.l 0 0) (v.s 5 0) (v.b 5 1) (v.i 5 2) (v.i 5 3) (v.i 5 4))
def qtg (v0 v1:LU):Option Bool:=
 (bif((v1==([46]:List UInt8))||(v0==v1))then(some true)else(bif decide (([46]:List UInt8).length+v1.length<=9223372036854775807)then(oB (qlb v0 (([46]:List UInt8)++v1)) fun r1=>(some r1))else none))
def qbe6:=hull qtg
theorem qbkf:qbe6=qtg:=qa _
def qbk6 {R:Type}:EntF Tryz.prog R:=entB (nt:=18) (dec:=decB) (enc:=AV.bool) tabOk follows Tryz.func172 [.t 4] hdeB (.s .z (.s (.r [(3,.g 3),(11,.c quc.b)] []) .z)) S62_ qtg (fun f v=>f (v.s 0 0) (v.s 4 0))
def qrn (v0 v1:LU):Option Bool:=
 (oB (qet v0) fun r1=>(bif r1 then(oB (qet v1) fun r2=>(bif r2 then(oB (qbe6 v0 v1) fun r3=>(some r3))else(some false)))else(some false)))
def q1g:=hull qrn
theorem qbhn:q1g=qrn:=qa _
def qbkg {R:Type}:EntF Tryz.prog R:=entB (nt:=16) (dec:=decB) (enc:=AV.bool) tabOk follows Tryz.func120 [.t 4] hdeB (.s .z (.s (.r [(1,.c qgj.b),(4,.c qgj.b),(9,.c qbk6.b)] []) .z)) S62_ qrn (fun f v=>f (v.s 0 0) (v.s 4 0))
def S81_:Shp:=⟨[(0,.one (.l .s)),(1,.one (.ptr 0 0))],[.box true [(.l .s)]]⟩
def q6r {R:Type}(KK:AV->Mem->Option R):=(fun v3 Av=>KK (.bool v3) (qh [(some (.box true [(.str Av)]))]))
def qkd {R:Type}(v0 Av:LU)(kr:Bool->(List UInt8)->Option R):Option R:=
 (oB (q1g Av v0) fun r1=>(kr r1 Av))
def qyj {R:Type}:=hull (qkd (R:=R))
theorem q6s {R:Type}:qyj (R:=R)=qkd:=qa _
def q8f {R:Type}:RefB Tryz.prog R:=refB (nt:=7) (nb:=1) tabOk follows Tryz.func119 [.t 3] (fun KK=>.s .z (.s (.r [(2,.c qbkg.b)] []) (.v [.sel [3] [0]]))) S81_ (qkd (R:=R)) (fun f v KK=>f (v.s 0 0) (v.s 3 0) (q6r KK)) (by kernel_rfl) (by kernel_rfl) (fun _=>(by kernel_rfl)) rfl
def S82_:Shp:=⟨[(0,.one (.l (.sl 1))),(1,.one (.fn 119 [(0,0)])),(7,.one (.l (.i .i64))),(8,.one (.l (.i .i64)))],[.box true [(.l .s)]]⟩
def S83_:Shp:=⟨[(0,.one (.l (.sl 1))),(1,.one (.fn 119 [(0,0)]))],[.box true [(.l .s)]]⟩
def qdl {R:Type}(K:Ex->Env->Mem->Option R):=(fun z_b0_0=>K (.exit 0) (qk []) (qh [(some (.box true [(.str z_b0_0)]))]))
def qdm {R:Type}(KK:AV->Mem->Option R):=(fun v4 Av=>KK (.int .i64 v4) (qh [(some (.box true [(.str Av)]))]))
def qbd {R:Type}(v0:LA)(v7 v8:Int)(Av:LU)(next:Int->(List UInt8)->Option R)(kx0:(List UInt8)->Option R)(kr:Int->(List UInt8)->Option R):Option R:=
 (bif(decide (v8<v7))then(oB (ixB v0 v8) fun y1=>(bif fitC [.s] y1.cells then(qyj (gS y1.cells 0) Av fun v3q2 b0_0q3=>(bif v3q2 then(kr v8 b0_0q3)else(next (IntKind.i64.wrap (v8+1)) b0_0q3)))else none))else(kx0 Av))
def qbe {R:Type}(v0:LA)(v7:Int)(kx0:(List UInt8)->Option R)(kr:Int->(List UInt8)->Option R):Nat->Int->(List UInt8)->Option R
 |0=>(fun _ _=>none)
 |n+1=>(fun v8 Av=>qbd v0 v7 v8 Av (qbe v0 v7 kx0 kr n) kx0 kr)
def qdx {R:Type}:=hull (qbe (R:=R))
theorem qhs {R:Type}:qdx (R:=R)=qbe:=qa _
def qh5 {R:Type}(KK:AV->Mem->Option R):SubB Tryz.prog (TIof Tryz.prog) 19 1 (qdd [.t 4] KK):=lpB tabOk follows Tryz.f171 37 (.s .z (.s (.s .z (.v [.sel [] [0]])) (.s (.b (.s .z (.s (.r [(3,.p (.etac 14 [.s])),(5,.s (.sel [0,1,5,7,8,11,15] [0])),(5,.r q8f)] []) (.s (.s .z (.v [.sel [4] [0]])) .z)))) (.v [.sel [0,1,7,8] [0]])))) S82_ (qbe (R:=R)) (fun f v K n=>f (v.l 0 0) (v.i 28 0) (qdl K) (qdm KK) n) (fun v f K=>qbd (v.l 0 0) (v.i 28 0) (v.i 32 0) (v.s 3 0) f (qdl K) (qdm KK)) (fun f v=>f (v.i 32 0) (v.s 3 0)) (fun k v=>(fun z0 z1=>k ((v.ui 32 0 z0).us 3 0 z1)))
def qiq {R:Type}(KK:AV->Mem->Option R):=(fun v4 Av=>KK (.int .i64 v4) (qh [(some (.box true [(.str Av)]))]))
def qbw {R:Type}(v0:LA)(Av:LU)(kr:Int->(List UInt8)->Option R):Option R:=
 (qdx v0 (v0.length:Int) (fun b0_0q1=>(kr (-1:Int) b0_0q1)) kr FU (0:Int) Av)
def qea {R:Type}:=hull (qbw (R:=R))
theorem qir {R:Type}:qea (R:=R)=qbw:=qa _
def qiv {R:Type}:RefB Tryz.prog R:=refB (nt:=19) (nb:=1) tabOk follows Tryz.func171 [.t 4] (fun KK=>.s .z (.s (.s .z (.b (.sub [.sel [0,1,7,8] [0]] (qh5 KK) []))) (.s .z (.v [.sel [4] [0]])))) S83_ (qbw (R:=R)) (fun f v KK=>f (v.l 0 0) (v.s 3 0) (qiq KK)) (by kernel_rfl) (by kernel_rfl) (fun _=>(by kernel_rfl)) rfl
def qht {R:Type}(KK:AV->Mem->Option R):=(fun v4 Av=>KK (.bool v4) (qh [(some (.box true [(.str Av)]))]))
def qbr {R:Type}(v0:LA)(Av:LU)(kr:Bool->(List UInt8)->Option R):Option R:=
 (qea v0 Av fun v4q1 b0_0q2=>(kr (decide (v4q1>=0)) b0_0q2))
def qdy {R:Type}:=hull (qbr (R:=R))
theorem qhu {R:Type}:qdy (R:=R)=qbr:=qa _
def qh6 {R:Type}:RefB Tryz.prog R:=refB (nt:=9) (nb:=1) tabOk follows Tryz.func118 [.t 4] (fun KK=>.s .z (.s (.r [(2,.s (.sel [5,6] [0])),(2,.r qiv)] []) (.v [.sel [4] [0]]))) S83_ (qbr (R:=R)) (fun f v KK=>f (v.l 0 0) (v.s 3 0) (qht KK)) (by kernel_rfl) (by kernel_rfl) (fun _=>(by kernel_rfl)) rfl
def S84_:Shp:=⟨[(0,.one (.l (.sl 1))),(1,.one (.l .s))],[]⟩
def qmg (v0:LA)(v1:LU):Option Bool:=
 (qdy v0 v1 fun v4q1 b0_0q2=>(some v4q1))
def qlt:=hull qmg
theorem qbbo:qlt=qmg:=qa _
def qr1 {R:Type}:EntF Tryz.prog R:=entB (nt:=8) (dec:=decB) (enc:=AV.bool) tabOk follows Tryz.func61 [.t 4] hdeB (.s .z (.s (.r [(2,.s (.sel [5,6] [0])),(2,.r qh6)] []) .z)) S84_ qmg (fun f v=>f (v.l 0 0) (v.s 4 0))
def qbkh {R:Type}(vs:LA)(m:Mem)(K:AV->Mem->Option R):Option R:=qwf 5 48 vs m K
theorem q50 {R:Type}:qkw Tryz.prog 100 (qbkh (R:=R)):=qbjj (ρ:=q01 100 159 160 0 3 4 23 35) tabOk (qbgn follows "slices.Insert[[]ddi/api.Host,ddi/api.Host]" (by kernel_rfl) (by kernel_rfl) Tryz.func159 (by kernel_rfl) (by kernel_rfl) (by kernel_rfl) (by kernel_rfl) (by kernel_rfl) (by kernel_rfl) (by kernel_rfl) (by kernel_rfl) (by kernel_rfl) (by kernel_rfl) (by kernel_rfl) (by kernel_rfl) (by kernel_rfl) (by kernel_rfl) (by kernel_rfl) (by kernel_rfl) (by kernel_rfl)) (by kernel_rfl) (by kernel_rfl) (by decide) (by decide)
def S85_:Shp:=⟨[(0,.st [(.own 0),(.own 1),(.own 2)]),(1,.st (lk qj))],[.arr true 8,.arr true 5,.arr true 1]⟩
def q8g:AV->Option (AV×Int):=decN [(.st [(.fr true 8),(.fr true 5),(.fr true 1)]),(.one (.i .i64))] fun z=>((gC (tpL z) 0),aI (gC (tpL z) 1))
def qmh (B7:LU)(B8:Bool)(B9 Ca Cb:Int)(a0 a1 a2:LA):Option (AV×Int):=
 (bif hd ([(.agg [(.str B7),(.bool B8),(.int .u64 B9),(.int .u64 Ca),(.int .i64 Cb)])]:List AV) (([(.agg [(.str B7),(.bool B8),(.int .u64 B9),(.int .u64 Ca),(.int .i64 Cb)])]:List AV).length)then(oB (qrl ([(.agg [(.str B7),(.bool B8),(.int .u64 B9),(.int .u64 Ca),(.int .i64 Cb)])]:List AV)) fun r1=>(bif(r1 != (0:Int))then(bif hd ([]:List AV) (([]:List AV).length)then(bif hd ([]:List AV) (([]:List AV).length)then(bif hd ([]:List AV) (([]:List AV).length)then(some ((.agg [(.fr true 8 ([]:List AV)),(.fr true 5 ([]:List AV)),(.fr true 1 ([]:List AV))]),r1))else none)else none)else none)else(bif hd a1 a1.length then(oB (qqy a1 B7 B8 B9 Ca Cb) fun r2=>(bif r2.2 then(bif hd ([]:List AV) (([]:List AV).length)then(bif hd ([]:List AV) (([]:List AV).length)then(bif hd ([]:List AV) (([]:List AV).length)then(some ((.agg [(.fr true 8 ([]:List AV)),(.fr true 5 ([]:List AV)),(.fr true 1 ([]:List AV))]),(12:Int)))else none)else none)else none)else(bif(decide ((a1.length:Int)>=256))then(bif hd ([]:List AV) (([]:List AV).length)then(bif hd ([]:List AV) (([]:List AV).length)then(bif hd ([]:List AV) (([]:List AV).length)then(some ((.agg [(.fr true 8 ([]:List AV)),(.fr true 5 ([]:List AV)),(.fr true 1 ([]:List AV))]),(9:Int)))else none)else none)else none)else(bif hd a0 a0.length then(oB (qj7 a0 B7 B8 B9 Ca Cb) fun r3=>(bif(!r3)then(bif hd ([]:List AV) (([]:List AV).length)then(bif hd ([]:List AV) (([]:List AV).length)then(bif hd ([]:List AV) (([]:List AV).length)then(some ((.agg [(.fr true 8 ([]:List AV)),(.fr true 5 ([]:List AV)),(.fr true 1 ([]:List AV))]),(25:Int)))else none)else none)else none)else(bif hd a2 a2.length then(oB (qlt a2 B7) fun r4=>(bif(!r4)then(bif hd ([]:List AV) (([]:List AV).length)then(bif hd ([]:List AV) (([]:List AV).length)then(bif hd ([]:List AV) (([]:List AV).length)then(some ((.agg [(.fr true 8 ([]:List AV)),(.fr true 5 ([]:List AV)),(.fr true 1 ([]:List AV))]),(13:Int)))else none)else none)else none)else(bif hd a1 a1.length then(bif hd ([(.agg [(.str B7),(.bool B8),(.int .u64 B9),(.int .u64 Ca),(.int .i64 Cb)])]:List AV) (([(.agg [(.str B7),(.bool B8),(.int .u64 B9),(.int .u64 Ca),(.int .i64 Cb)])]:List AV).length)then(oB (qly 48 a1 r2.1 ([(.agg [(.str B7),(.bool B8),(.int .u64 B9),(.int .u64 Ca),(.int .i64 Cb)])]:List AV)) fun r5=>(bif hd a0 a0.length then(bif hd r5 r5.length then(bif hd a2 a2.length then(some ((.agg [(.fr true 8 a0),(.fr true 5 r5),(.fr true 1 a2)]),(0:Int)))else none)else none)else none))else none)else none)))else none)))else none))))else none)))else none)
def qup:=hull qmh
theorem qbbp:qup=qmh:=qa _
def qbdm {R:Type}:EatB Tryz.prog R:=eatB (nt:=55) (nb:=3) (dec:=q8g) (enc:=(fun r=>.tup [qd4 (.st [(.fr true 8),(.fr true 5),(.fr true 1)]) r.1,.int .i64 r.2])) tabOk follows Tryz.func43 [(.cell 4 true 3),.t 5] (hdeN fun _=>rfl) (.s .z (.s (.s (.r [(2,.c q0d.b)] []) (.s .z (.s (.s .z (.v [.ownc 5 0 8,.ownc 5 1 5,.ownc 5 2 1])) .z))) (.s (.r [(3,.c qww.b)] []) (.s (.b (.s .z (.s (.s .z (.v [.ownc 5 0 8,.ownc 5 1 5,.ownc 5 2 1])) (.s .z (.s (.s .z (.v [.ownc 5 0 8,.ownc 5 1 5,.ownc 5 2 1])) (.s (.r [(3,.c qqr.b)] []) (.s (.s .z (.v [.ownc 5 0 8,.ownc 5 1 5,.ownc 5 2 1])) (.s (.r [(4,.c qr1.b)] []) (.s (.s .z (.v [.ownc 5 0 8,.ownc 5 1 5,.ownc 5 2 1])) .z))))))))) (.s (.r [(5,.r (rB q50))] []) .z))))) S85_ qmh (fun f v=>f (v.s 5 0) (v.b 5 1) (v.i 5 2) (v.i 5 3) (v.i 5 4) (v.r 0) (v.r 1) (v.r 2)) (by kernel_rfl) (by kernel_rfl) (by kernel_rfl) rfl
def qbki {R:Type}(vs:LA)(m:Mem)(K:AV->Mem->Option R):Option R:=qwe 5 vs m K
theorem qbkj {R:Type}:qkw Tryz.prog 101 (qbki (R:=R)):=qbji (ρ:=q00 101 0 3 4 23 35) tabOk (qbgm follows "slices.Delete[[]ddi/api.Host,ddi/api.Host]" (by kernel_rfl) (by kernel_rfl) (by kernel_rfl) (by kernel_rfl) (by kernel_rfl) (by kernel_rfl) (by kernel_rfl) (by kernel_rfl) (by kernel_rfl) (by kernel_rfl) (by kernel_rfl) (by kernel_rfl) (by kernel_rfl) (by kernel_rfl)) (by kernel_rfl) (by decide)
def q2b:AV->Option (AV×AV×Int):=decN [(.st [(.fr true 8),(.fr true 5),(.fr true 1)]),(.st [.s,.b,(.i .u64),(.i .u64),(.i .i64)]),(.one (.i .i64))] fun z=>((gC (tpL z) 0),(gC (tpL z) 1),aI (gC (tpL z) 2))
def qjq (B7:LU)(B8:Bool)(B9 Ca Cb:Int)(a0 a1 a2:LA):Option (AV×AV×Int):=
 (bif hd a1 a1.length then(oB (qqy a1 B7 B8 B9 Ca Cb) fun r1=>(bif(!r1.2)then(bif hd ([]:List AV) (([]:List AV).length)then(bif hd ([]:List AV) (([]:List AV).length)then(bif hd ([]:List AV) (([]:List AV).length)then(some ((.agg [(.fr true 8 ([]:List AV)),(.fr true 5 ([]:List AV)),(.fr true 1 ([]:List AV))]),(.agg [(.str ([]:List UInt8)),(.bool false),(.int .u64 (0:Int)),(.int .u64 (0:Int)),(.int .i64 (0:Int))]),(11:Int)))else none)else none)else none)else(bif hd a1 a1.length then(bif decide (0<=r1.1/\r1.1<a1.length)then(bif hd a1 a1.length then(oB (a1[r1.1.toNat]?) fun y2=>(oB (rdE y2 0 true 5) fun z3=>(bif fitV (.st qj) z3 then(bif hd a1 a1.length then(oB (qsw a1 r1.1 (IntKind.i64.wrap (r1.1+1))) fun r4=>(bif hd a0 a0.length then(bif hd r4 r4.length then(bif hd a2 a2.length then(some ((.agg [(.fr true 8 a0),(.fr true 5 r4),(.fr true 1 a2)]),(.agg [(.str (gS z3.cells 0)),(.bool (gB z3.cells 1)),(.int .u64 (gI z3.cells 2)),(.int .u64 (gI z3.cells 3)),(.int .i64 (gI z3.cells 4))]),(0:Int)))else none)else none)else none))else none)else none)))else none)else none)else none)))else none)
def qis:=hull qjq
theorem q36:qis=qjq:=qa _
def qn0 {R:Type}:EatB Tryz.prog R:=eatB (nt:=35) (nb:=3) (dec:=q2b) (enc:=(fun r=>.tup [qd4 (.st [(.fr true 8),(.fr true 5),(.fr true 1)]) r.1,qd4 (.st [.s,.b,(.i .u64),(.i .u64),(.i .i64)]) r.2.1,.int .i64 r.2.2])) tabOk follows Tryz.func44 [(.cell 4 true 3),(.cell 5 true 5),.t 6] (hdeN fun _=>rfl) (.s .z (.s (.r [(3,.c qww.b)] []) (.s (.s .z (.s (.s .z (.v [.ownc 5 0 8,.ownc 5 1 5,.ownc 5 2 1])) .z)) (.s (.r [(4,.p (.eta 25 (.st qj)))] []) (.s (.r [(5,.r (rB qbkj))] []) .z))))) S85_ qjq (fun f v=>f (v.s 5 0) (v.b 5 1) (v.i 5 2) (v.i 5 3) (v.i 5 4) (v.r 0) (v.r 1) (v.r 2)) (by kernel_rfl) (by kernel_rfl) (by kernel_rfl) rfl
def qol (v0:LU):Option Bool:=
 (oB (qo9 v0) fun r1=>(bif(decide ((r1.length:Int)>0))then(oB (ixB r1 (0:Int)) fun y2=>(bif fitC [.s] y2.cells then(some ((gS y2.cells 0)==([42]:List UInt8)))else none))else(some false)))
def qwx:=hull qol
theorem qbdn:qwx=qol:=qa _
def qbe7 {R:Type}:EntF Tryz.prog R:=entB (nt:=15) (dec:=decB) (enc:=AV.bool) tabOk follows Tryz.func102 [.t 2] hdeB (.s .z (.s (.r [(1,.k qun.b)] []) (.s (.r [(5,.p (.etac 11 [.s]))] []) .z))) S69_ qol (fun f v=>f (v.s 0 0))
def S86_:Shp:=⟨[(2,.one (.l .s)),(3,.one (.ptr 0 0)),(4,.one (.ptr 1 0)),(6,.one (.ptr 2 0)),(8,.one (.ptr 3 0))],[.box true [(.own 4),(.own 5),(.own 6)],.box true (lk qj),.box true [(.l .nil),(.l .nil),(.l .nil)],.box true (lk qj),.arr true 8,.arr true 5,.arr true 1]⟩
def S87_:Shp:=⟨[(0,.st (lk qdu)),(1,.st (lk qj)),(2,.one (.l .s))],[]⟩
def qxb:AV->Option (AV×Int):=decN [(.st [(.fr true 8),(.fr true 5),(.fr true 1)]),(.one (.i .i64))] fun z=>((gC (tpL z) 0),aI (gC (tpL z) 1))
def q37 (v2 Ad:LU)(Ae:Bool)(Af Ag Ah:Int)(Cf:LU)(Cg:Bool)(Ch Ci Cj:Int)(a4 a5 a6:LA)(K:Ex->Env->Mem->Option (AV×Int)):=(fun z_v30=>K .norm (qk [(2,(.str v2)),(3,(.ptr 0 0)),(4,(.ptr 1 0)),(6,(.ptr 2 0)),(8,(.ptr 3 0)),(30,(.bool z_v30))]) (qh [(some (.box true [(.own 4 a4.length),(.own 5 a5.length),(.own 6 a6.length)])),(some (.box true (qj0 Ad Ae Af Ag Ah))),(some (.box true [.nils,.nils,.nils])),(some (.box true (qj0 Cf Cg Ch Ci Cj))),(some (.arr true 8 a4)),(some (.arr true 5 a5)),(some (.arr true 1 a6))]))
def qjr (v2 Ad:LU)(Ae:Bool)(Af Ag Ah:Int)(Cf:LU)(Cg:Bool)(Ch Ci Cj:Int)(a4 a5 a6:LA)(kn:Bool->Option (AV×Int)):Option (AV×Int):=
 (oB (qet v2) fun r1=>(bif(!r1)then(kn true)else(oB (qwx v2) fun r2=>(kn r2))))
def qxc:=hull (qjr)
theorem q38:qxc=qjr:=qa _
def q6t:SubB Tryz.prog (TIof Tryz.prog) 63 0 (kret [(.cell 6 true 3),.t 7] qxb):=jnB tabOk follows Tryz.f45 39 (.r [(1,.c qgj.b),(5,.c qbe7.b)] [.sel [2,3,4,6,8,30] [0,1,2,3,4,5,6]]) S86_ (qjr) (fun f v K=>f (v.s 8 0) (v.s 7 0) (v.b 7 1) (v.i 7 2) (v.i 7 3) (v.i 7 4) (v.s 15 0) (v.b 15 1) (v.i 15 2) (v.i 15 3) (v.i 15 4) (v.r 4) (v.r 5) (v.r 6) (q37 (v.s 8 0) (v.s 7 0) (v.b 7 1) (v.i 7 2) (v.i 7 3) (v.i 7 4) (v.s 15 0) (v.b 15 1) (v.i 15 2) (v.i 15 3) (v.i 15 4) (v.r 4) (v.r 5) (v.r 6) K))
def qom (Aa Ab Ac:LA)(B7:LU)(B8:Bool)(B9 Ca Cb:Int)(v2:LU):Option (AV×Int):=
 (oB (qs1 Aa Ab Ac) fun r1=>(bif hd (gL r1.cells 0) ((gL r1.cells 0).length)then(bif hd (gL r1.cells 1) ((gL r1.cells 1).length)then(bif hd (gL r1.cells 2) ((gL r1.cells 2).length)then(bif(hd (gL r1.cells 0) ((gL r1.cells 0).length)&&(hd (gL r1.cells 1) ((gL r1.cells 1).length)&&(hd (gL r1.cells 2) ((gL r1.cells 2).length)&&true)))then(oB (qis B7 B8 B9 Ca Cb (gL r1.cells 0) (gL r1.cells 1) (gL r1.cells 2)) fun r2=>(bif(r2.2.2 != (0:Int))then(bif hd ([]:List AV) (([]:List AV).length)then(bif hd ([]:List AV) (([]:List AV).length)then(bif hd ([]:List AV) (([]:List AV).length)then(some ((.agg [(.fr true 8 ([]:List AV)),(.fr true 5 ([]:List AV)),(.fr true 1 ([]:List AV))]),r2.2.2))else none)else none)else none)else(bif(hd (gL r2.1.cells 0) ((gL r2.1.cells 0).length)&&(hd (gL r2.1.cells 1) ((gL r2.1.cells 1).length)&&(hd (gL r2.1.cells 2) ((gL r2.1.cells 2).length)&&true)))then(qxc v2 B7 B8 B9 Ca Cb (gS r2.2.1.cells 0) (gB r2.2.1.cells 1) (gI r2.2.1.cells 2) (gI r2.2.1.cells 3) (gI r2.2.1.cells 4) (gL r2.1.cells 0) (gL r2.1.cells 1) (gL r2.1.cells 2) (fun v30q3=>(bif v30q3 then(bif hd ([]:List AV) (([]:List AV).length)then(bif hd ([]:List AV) (([]:List AV).length)then(bif hd ([]:List AV) (([]:List AV).length)then(some ((.agg [(.fr true 8 ([]:List AV)),(.fr true 5 ([]:List AV)),(.fr true 1 ([]:List AV))]),(2:Int)))else none)else none)else none)else(bif hd (gL r2.1.cells 1) ((gL r2.1.cells 1).length)then(oB (qqy (gL r2.1.cells 1) v2 (gB r2.2.1.cells 1) (gI r2.2.1.cells 2) (gI r2.2.1.cells 3) (gI r2.2.1.cells 4)) fun r4=>(bif(r4.2||(v2==B7))then(bif hd ([]:List AV) (([]:List AV).length)then(bif hd ([]:List AV) (([]:List AV).length)then(bif hd ([]:List AV) (([]:List AV).length)then(some ((.agg [(.fr true 8 ([]:List AV)),(.fr true 5 ([]:List AV)),(.fr true 1 ([]:List AV))]),(12:Int)))else none)else none)else none)else(bif hd (gL r2.1.cells 2) ((gL r2.1.cells 2).length)then(oB (qlt (gL r2.1.cells 2) v2) fun r5=>(bif(!r5)then(bif hd ([]:List AV) (([]:List AV).length)then(bif hd ([]:List AV) (([]:List AV).length)then(bif hd ([]:List AV) (([]:List AV).length)then(some ((.agg [(.fr true 8 ([]:List AV)),(.fr true 5 ([]:List AV)),(.fr true 1 ([]:List AV))]),(13:Int)))else none)else none)else none)else(bif hd (gL r2.1.cells 1) ((gL r2.1.cells 1).length)then(bif hd ([(.agg [(.str v2),(.bool (gB r2.2.1.cells 1)),(.int .u64 (gI r2.2.1.cells 2)),(.int .u64 (gI r2.2.1.cells 3)),(.int .i64 (gI r2.2.1.cells 4))])]:List AV) (([(.agg [(.str v2),(.bool (gB r2.2.1.cells 1)),(.int .u64 (gI r2.2.1.cells 2)),(.int .u64 (gI r2.2.1.cells 3)),(.int .i64 (gI r2.2.1.cells 4))])]:List AV).length)then(oB (qly 48 (gL r2.1.cells 1) r4.1 ([(.agg [(.str v2),(.bool (gB r2.2.1.cells 1)),(.int .u64 (gI r2.2.1.cells 2)),(.int .u64 (gI r2.2.1.cells 3)),(.int .i64 (gI r2.2.1.cells 4))])]:List AV)) fun r6=>(bif hd (gL r2.1.cells 0) ((gL r2.1.cells 0).length)then(bif hd r6 r6.length then(bif hd (gL r2.1.cells 2) ((gL r2.1.cells 2).length)then(some ((.agg [(.fr true 8 (gL r2.1.cells 0)),(.fr true 5 r6),(.fr true 1 (gL r2.1.cells 2))]),(0:Int)))else none)else none)else none))else none)else none)))else none)))else none))))else none)))else none)else none)else none)else none))
def qwy:=hull qom
theorem qbdo:qwy=qom:=qa _
def qbe8 {R:Type}:EntF Tryz.prog R:=entB (nt:=63) (dec:=qxb) (enc:=(fun r=>.tup [qd4 (.st [(.fr true 8),(.fr true 5),(.fr true 1)]) r.1,.int .i64 r.2])) tabOk follows Tryz.func45 [(.cell 6 true 3),.t 7] (hdeN fun _=>rfl) (.s .z (.s (.d5 [] [(1,qx4.eat),(3,qn0)] [] []) (.s (.s .z (.s (.s .z (.v [.ownc 2 0 8,.ownc 2 1 5,.ownc 2 2 1])) .z)) (.s (.s (.sub [.sel [2,3,4,6,8] [0,1,2,9,6,7,8]] q6t []) (.s (.s .z (.v [.ownc 2 0 8,.ownc 2 1 5,.ownc 2 2 1])) .z)) (.s .z (.s (.s (.r [(3,.c qww.b)] []) (.s (.r [(2,.g 4)] []) (.s (.s .z (.v [.ownc 2 0 8,.ownc 2 1 5,.ownc 2 2 1])) (.s (.r [(3,.c qr1.b)] []) (.s (.s .z (.v [.ownc 2 0 8,.ownc 2 1 5,.ownc 2 2 1])) (.r [(5,.r (rB q50))] [])))))) .z)))))) S87_ qom (fun f v=>f (v.l 1 0) (v.l 1 1) (v.l 1 2) (v.s 5 0) (v.b 5 1) (v.i 5 2) (v.i 5 3) (v.i 5 4) (v.s 8 0))
def S88_:Shp:=⟨[(2,.one (.ptr 0 0)),(4,.one (.ptr 1 0)),(8,.one (.l (.i .i64)))],[.box true (lk qdu),.box true [(.l .nil),(.l .nil),(.l .nil)]]⟩
def S89_:Shp:=⟨[(2,.one (.ptr 0 0)),(3,.one (.ptr 1 0)),(4,.one (.ptr 2 0)),(8,.one (.l (.i .i64)))],[.box true [(.own 3),(.own 4),(.own 5)],.box true (lk qlp),.box true [(.l .nil),(.l .nil),(.l .nil)],.arr true 8,.arr true 5,.arr true 1]⟩
def S90_:Shp:=⟨[(0,.st (lk qdu)),(1,.st (lk qlp))],[]⟩
def qr2:AV->Option (AV×Int):=decN [(.st [(.sl 8),(.sl 5),(.sl 1)]),(.one (.i .i64))] fun z=>((gC (tpL z) 0),aI (gC (tpL z) 1))
def q6u (v8:Int)(K:Ex->Env->Mem->Option (AV×Int)):=(fun z_v56 z_b0_0 z_b0_1 z_b0_2=>K .norm (qk [(2,(.ptr 0 0)),(4,(.ptr 1 0)),(8,(.int .i64 v8)),(56,(.bool z_v56))]) (qh [(some (.box true (qdf z_b0_0 z_b0_1 z_b0_2))),(some (.box true [.nils,.nils,.nils]))]))
def qke (v8:Int)(Av Aw Ax:LA)(kn:Bool->(List AV)->(List AV)->(List AV)->Option (AV×Int)):Option (AV×Int):=
 (bif(v8==0)then(qcc Aw Av Aw Ax fun v4q1 b0_0q2 b0_1q3 b0_2q4=>(kn v4q1 b0_0q2 b0_1q3 b0_2q4))else(kn false Av Aw Ax))
def qyk:=hull (qke)
theorem q6v:qyk=qke:=qa _
def q8h:SubB Tryz.prog (TIof Tryz.prog) 115 0 (kret [(.cell 4 true 3),.t 5] qr2):=jnB tabOk follows Tryz.f14 11183 (.r [(6,.s (.sel [2,4,8,51,53,54] [0,1])),(6,.r qhf)] [.sel [2,4,8,56] [0,1]]) S88_ (qke) (fun f v K=>f (v.i 32 0) (v.l 3 0) (v.l 3 1) (v.l 3 2) (q6u (v.i 32 0) K))
def q6w (K:Ex->Env->Mem->Option (AV×Int)):=(fun z_v8 z_b0_0 z_b0_1 z_b0_2=>K .norm (qk [(2,(.ptr 0 0)),(4,(.ptr 1 0)),(8,(.int .i64 z_v8))]) (qh [(some (.box true (qdf z_b0_0 z_b0_1 z_b0_2))),(some (.box true [.nils,.nils,.nils]))]))
def qkf (v8 Ad:Int)(Ae:Bool)(Af Ag Ah Ai:Int)(Aj Ak:LU)(Al Am An:Int)(Ao:LU)(Ap:Bool)(Aq Ar As:Int)(At:LU)(a3 a4 a5:LA)(kn:Int->(List AV)->(List AV)->(List AV)->Option (AV×Int)):Option (AV×Int):=
 (bif(Ad==1)then(bif hd a3 a3.length then(oB (qxg a3 Ae Af Ag Ah Ai Aj Ak Al) fun r1=>(bif hd a4 a4.length then(bif hd a5 a5.length then(kn r1.2 r1.1 a4 a5)else none)else none))else none)else(bif(Ad==2)then(bif hd a3 a3.length then(oB (qwq a3 Ae Af Ag Ah) fun r2=>(bif hd a4 a4.length then(bif hd a5 a5.length then(qyk r2.2 r2.1 a4 a5 (fun v56q3 b0_0q4 b0_1q5 b0_2q6=>(bif v56q3 then(kn (25:Int) b0_0q4 b0_1q5 b0_2q6)else(kn r2.2 b0_0q4 b0_1q5 b0_2q6))))else none)else none))else none)else(bif(Ad==3)then(bif hd a3 a3.length then(oB (qla a3 Ae Af Ag Ah Am An Aj Ak) fun r7=>(bif hd a4 a4.length then(bif hd a5 a5.length then(kn r7.2.2 r7.1 a4 a5)else none)else none))else none)else(bif(Ad==4)then(bif hd a3 a3.length then(bif hd a4 a4.length then(bif hd a5 a5.length then(bif(hd a3 (a3.length)&&(hd a4 (a4.length)&&(hd a5 (a5.length)&&true)))then(oB (qup Ao Ap Aq Ar As a3 a4 a5) fun r8=>(bif hd (gL r8.1.cells 0) ((gL r8.1.cells 0).length)then(bif hd (gL r8.1.cells 1) ((gL r8.1.cells 1).length)then(bif hd (gL r8.1.cells 2) ((gL r8.1.cells 2).length)then(kn r8.2 (gL r8.1.cells 0) (gL r8.1.cells 1) (gL r8.1.cells 2))else none)else none)else none))else none)else none)else none)else none)else(bif(Ad==5)then(bif hd a3 a3.length then(bif hd a4 a4.length then(bif hd a5 a5.length then(bif(hd a3 (a3.length)&&(hd a4 (a4.length)&&(hd a5 (a5.length)&&true)))then(oB (qis Ao Ap Aq Ar As a3 a4 a5) fun r9=>(bif hd (gL r9.1.cells 0) ((gL r9.1.cells 0).length)then(bif hd (gL r9.1.cells 1) ((gL r9.1.cells 1).length)then(bif hd (gL r9.1.cells 2) ((gL r9.1.cells 2).length)then(kn r9.2.2 (gL r9.1.cells 0) (gL r9.1.cells 1) (gL r9.1.cells 2))else none)else none)else none))else none)else none)else none)else none)else(bif(Ad==6)then(bif hd a3 a3.length then(bif hd a4 a4.length then(bif hd a5 a5.length then(oB (qwy a3 a4 a5 Ao Ap Aq Ar As At) fun r10=>(kn r10.2 (gL r10.1.cells 0) (gL r10.1.cells 1) (gL r10.1.cells 2)))else none)else none)else none)else(bif hd a3 a3.length then(bif hd a4 a4.length then(bif hd a5 a5.length then(kn v8 a3 a4 a5)else none)else none)else none)))))))
def qyl:=hull (qkf)
theorem q6x:qyl=qkf:=qa _
def q8i:SubB Tryz.prog (TIof Tryz.prog) 115 0 (kret [(.cell 4 true 3),.t 5] qr2):=jnB tabOk follows Tryz.f14 47 (.s .z (.b (.s .z (.s (.r [(4,.k q7t.b)] [.snapb 0,.sel [2,4,8] [0,2]]) (.s .z (.s (.s (.r [(5,.k qbew.b)] []) (.s (.sub [.snapb 0,.sel [2,4,8] [0,2]] q8h []) (.s (.v [.sel [2,4,8] [0,1]]) (.v [.sel [2,4,8] [0,1]])))) (.s .z (.s (.r [(15,.k qub.b)] [.snapb 0,.sel [2,4,8] [0,2]]) (.s .z (.s (.r [(3,.r qbdm.r)] [.snapb 0,.sel [2,4,8] [0,2]]) (.s .z (.s (.r [(3,.r qn0.r)] [.snapb 0,.sel [2,4,8] [0,2]]) (.s .z (.s (.r [(5,.k qbe8.b)] [.sel [2,4,8] [0,2]]) (.v [.snapb 0,.sel [2,4,8] [0,2]]))))))))))))))) S89_ (qkf) (fun f v K=>f (v.i 32 0) (v.i 7 0) (v.b 7 1) (v.i 7 2) (v.i 7 3) (v.i 7 4) (v.i 7 5) (v.s 7 6) (v.s 7 7) (v.i 7 8) (v.i 7 9) (v.i 7 10) (v.s 7 11) (v.b 7 12) (v.i 7 13) (v.i 7 14) (v.i 7 15) (v.s 7 16) (v.r 3) (v.r 4) (v.r 5) (q6w K))
def qp4 (Aa Ab Ac:LA)(B7:Int)(B8:Bool)(B9 Ca Cb Cc:Int)(Cd Ce:LU)(C0 C1 C2:Int)(C3:LU)(C4:Bool)(C5 C6 C7:Int)(C8:LU):Option (AV×Int):=
 (oB (q1b B7 B8 B9 Ca Cb Cc Cd Ce C0 C1 C2 C3 C4 C5 C6 C7 C8) fun r1=>(bif((!r1.2)||(!(((gI r1.1.cells 0)==B7)&&(((gB r1.1.cells 1)==B8)&&(((gI r1.1.cells 2)==B9)&&(((gI r1.1.cells 3)==Ca)&&(((gI r1.1.cells 4)==Cb)&&(((gI r1.1.cells 5)==Cc)&&(((gS r1.1.cells 6)==Cd)&&(((gS r1.1.cells 7)==Ce)&&(((gI r1.1.cells 8)==C0)&&(((gI r1.1.cells 9)==C1)&&(((gI r1.1.cells 10)==C2)&&(((gS r1.1.cells 11)==C3)&&(((gB r1.1.cells 12)==C4)&&(((gI r1.1.cells 13)==C5)&&(((gI r1.1.cells 14)==C6)&&(((gI r1.1.cells 15)==C7)&&(((gS r1.1.cells 16)==C8)&&true)))))))))))))))))))then(some ((.agg [(.sl 8 ([]:List AV)),(.sl 5 ([]:List AV)),(.sl 1 ([]:List AV))]),(1:Int)))else(oB (qs1 Aa Ab Ac) fun r2=>(bif(hd (gL r2.cells 0) ((gL r2.cells 0).length)&&(hd (gL r2.cells 1) ((gL r2.cells 1).length)&&(hd (gL r2.cells 2) ((gL r2.cells 2).length)&&true)))then(qyl (0:Int) B7 B8 B9 Ca Cb Cc Cd Ce C0 C1 C2 C3 C4 C5 C6 C7 C8 (gL r2.cells 0) (gL r2.cells 1) (gL r2.cells 2) (fun v8q3 b0_0q4 b0_1q5 b0_2q6=>(bif(v8q3 != (0:Int))then(some ((.agg [(.sl 8 ([]:List AV)),(.sl 5 ([]:List AV)),(.sl 1 ([]:List AV))]),v8q3))else(some ((.agg [(.sl 8 b0_0q4),(.sl 5 b0_1q5),(.sl 1 b0_2q6)]),(0:Int))))))else none))))
def qfq:=hull qp4
theorem qbe9:qfq=qp4:=qa _
def quq {R:Type}:EntF Tryz.prog R:=entB (nt:=115) (dec:=qr2) (enc:=(fun r=>.tup [qd4 (.st [(.sl 8),(.sl 5),(.sl 1)]) r.1,.int .i64 r.2])) tabOk follows Tryz.func14 [(.cell 4 true 3),.t 5] (hdeN fun _=>rfl) (.s .z (.s (.s (.r [(1,.c qbj2.b)] []) (.s (.r [(3,.g 3)] []) (.s (.s .z (.v [.nilc 2 0 8,.nilc 2 1 5,.nilc 2 2 1])) .z))) (.s (.r [(1,.c qx4.b)] []) (.s .z (.s (.sub [.sel [2,3,4,8] [0,1,2,4,5,6]] q8i []) (.s (.s .z (.s (.s .z (.v [.nilc 1 0 8,.nilc 1 1 5,.nilc 1 2 1])) .z)) .z)))))) S90_ qp4 (fun f v=>f (v.l 1 0) (v.l 1 1) (v.l 1 2) (v.i 5 0) (v.b 5 1) (v.i 5 2) (v.i 5 3) (v.i 5 4) (v.i 5 5) (v.s 5 6) (v.s 5 7) (v.i 5 8) (v.i 5 9) (v.i 5 10) (v.s 5 11) (v.b 5 12) (v.i 5 13) (v.i 5 14) (v.i 5 15) (v.s 5 16))
def qvz (Aa Ab Ac:LA)(B7:Int)(B8:Bool)(B9 Ca Cb Cc:Int)(Cd Ce:LU)(C0 C1 C2:Int)(C3:LU)(C4:Bool)(C5 C6 C7:Int)(C8:LU):Option AV:=
 (oB (qla Aa B8 B9 Ca Cb C1 C2 Cd Ce) fun r1=>(oB (qni r1.1 (gB r1.2.1.cells 0) (gI r1.2.1.cells 1) (gI r1.2.1.cells 2) (gI r1.2.1.cells 3)) fun r2=>(some (.agg [(.bool (gB r2.1.cells 0)),(.int .u64 (gI r2.1.cells 1)),(.int .u64 (gI r2.1.cells 2)),(.int .i64 (gI r2.1.cells 3)),(.int .i64 (gI r2.1.cells 4)),(.str (gS r2.1.cells 5)),(.str (gS r2.1.cells 6)),(.int .i64 (gI r2.1.cells 7))]))))
def qbdp:=hull qvz
def q8j {R:Type}:EntF Tryz.prog R:=entB (nt:=37) (dec:=(decT [.b,(.i .u64),(.i .u64),(.i .i64),(.i .i64),.s,.s,(.i .i64)])) (enc:=(qd4 (.st [.b,(.i .u64),(.i .u64),(.i .i64),(.i .i64),.s,.s,(.i .i64)]))) tabOk follows Tryz.func52 [(.cell 4 true 8)] hdeT (.s .z (.s (.r [(15,.k qub.b)] []) (.s (.r [(2,.c qrf.b)] []) .z))) S90_ qvz (fun f v=>f (v.l 1 0) (v.l 1 1) (v.l 1 2) (v.i 5 0) (v.b 5 1) (v.i 5 2) (v.i 5 3) (v.i 5 4) (v.i 5 5) (v.s 5 6) (v.s 5 7) (v.i 5 8) (v.i 5 9) (v.i 5 10) (v.s 5 11) (v.b 5 12) (v.i 5 13) (v.i 5 14) (v.i 5 15) (v.s 5 16))
def q8k:AV->Option (AV×Int):=decN [(.st [(.i .i64),.b,(.i .u64),(.i .u64),(.i .i64),(.i .i64),.s,.s,(.i .i64),(.i .i64),(.i .i64),.s,.b,(.i .u64),(.i .u64),(.i .i64),.s]),(.one (.i .i64))] fun z=>((gC (tpL z) 0),aI (gC (tpL z) 1))
def qmi (Aa Ab Ac:LA)(B7:Int)(B8:Bool)(B9 Ca Cb Cc:Int)(Cd Ce:LU)(C0 C1 C2:Int)(C3:LU)(C4:Bool)(C5 C6 C7:Int)(C8:LU):Option (AV×Int):=
 (oB (qfq Aa Ab Ac B7 B8 B9 Ca Cb Cc Cd Ce C0 C1 C2 C3 C4 C5 C6 C7 C8) fun r1=>(bif(r1.2 != (0:Int))then(some ((.agg [(.int .i64 (0:Int)),(.bool false),(.int .u64 (0:Int)),(.int .u64 (0:Int)),(.int .i64 (0:Int)),(.int .i64 (0:Int)),(.str ([]:List UInt8)),(.str ([]:List UInt8)),(.int .i64 (0:Int)),(.int .i64 (0:Int)),(.int .i64 (0:Int)),(.str ([]:List UInt8)),(.bool false),(.int .u64 (0:Int)),(.int .u64 (0:Int)),(.int .i64 (0:Int)),(.str ([]:List UInt8))]),r1.2))else(bif(B7==1)then(some ((.agg [(.int .i64 (2:Int)),(.bool B8),(.int .u64 B9),(.int .u64 Ca),(.int .i64 Cb),(.int .i64 (0:Int)),(.str ([]:List UInt8)),(.str ([]:List UInt8)),(.int .i64 (0:Int)),(.int .i64 (0:Int)),(.int .i64 (0:Int)),(.str ([]:List UInt8)),(.bool false),(.int .u64 (0:Int)),(.int .u64 (0:Int)),(.int .i64 (0:Int)),(.str ([]:List UInt8))]),(0:Int)))else(bif(B7==2)then(oB (qni Aa B8 B9 Ca Cb) fun r2=>(some ((.agg [(.int .i64 (1:Int)),(.bool (gB r2.1.cells 0)),(.int .u64 (gI r2.1.cells 1)),(.int .u64 (gI r2.1.cells 2)),(.int .i64 (gI r2.1.cells 3)),(.int .i64 (gI r2.1.cells 4)),(.str (gS r2.1.cells 5)),(.str (gS r2.1.cells 6)),(.int .i64 (gI r2.1.cells 7)),(.int .i64 (0:Int)),(.int .i64 (0:Int)),(.str ([]:List UInt8)),(.bool false),(.int .u64 (0:Int)),(.int .u64 (0:Int)),(.int .i64 (0:Int)),(.str ([]:List UInt8))]),(0:Int))))else(bif(B7==3)then(oB (qbdp Aa Ab Ac B7 B8 B9 Ca Cb Cc Cd Ce C0 C1 C2 C3 C4 C5 C6 C7 C8) fun r3=>(some ((.agg [(.int .i64 (2:Int)),(.bool (gB r3.cells 0)),(.int .u64 (gI r3.cells 1)),(.int .u64 (gI r3.cells 2)),(.int .i64 (gI r3.cells 3)),(.int .i64 (0:Int)),(.str ([]:List UInt8)),(.str ([]:List UInt8)),(.int .i64 (0:Int)),(.int .i64 (0:Int)),(.int .i64 (0:Int)),(.str ([]:List UInt8)),(.bool false),(.int .u64 (0:Int)),(.int .u64 (0:Int)),(.int .i64 (0:Int)),(.str ([]:List UInt8))]),(0:Int))))else(bif(B7==4)then(some ((.agg [(.int .i64 (5:Int)),(.bool false),(.int .u64 (0:Int)),(.int .u64 (0:Int)),(.int .i64 (0:Int)),(.int .i64 (0:Int)),(.str ([]:List UInt8)),(.str ([]:List UInt8)),(.int .i64 (0:Int)),(.int .i64 (0:Int)),(.int .i64 (0:Int)),(.str C3),(.bool C4),(.int .u64 C5),(.int .u64 C6),(.int .i64 (0:Int)),(.str ([]:List UInt8))]),(0:Int)))else(bif(B7==5)then(oB (qs1 Aa Ab Ac) fun r4=>(bif hd (gL r4.cells 0) ((gL r4.cells 0).length)then(bif hd (gL r4.cells 1) ((gL r4.cells 1).length)then(bif hd (gL r4.cells 2) ((gL r4.cells 2).length)then(bif(hd (gL r4.cells 0) ((gL r4.cells 0).length)&&(hd (gL r4.cells 1) ((gL r4.cells 1).length)&&(hd (gL r4.cells 2) ((gL r4.cells 2).length)&&true)))then(oB (qis C3 C4 C5 C6 C7 (gL r4.cells 0) (gL r4.cells 1) (gL r4.cells 2)) fun r5=>(some ((.agg [(.int .i64 (4:Int)),(.bool false),(.int .u64 (0:Int)),(.int .u64 (0:Int)),(.int .i64 (0:Int)),(.int .i64 (0:Int)),(.str ([]:List UInt8)),(.str ([]:List UInt8)),(.int .i64 (0:Int)),(.int .i64 (0:Int)),(.int .i64 (0:Int)),(.str (gS r5.2.1.cells 0)),(.bool (gB r5.2.1.cells 1)),(.int .u64 (gI r5.2.1.cells 2)),(.int .u64 (gI r5.2.1.cells 3)),(.int .i64 (gI r5.2.1.cells 4)),(.str ([]:List UInt8))]),(0:Int))))else none)else none)else none)else none))else(some ((.agg [(.int .i64 (6:Int)),(.bool false),(.int .u64 (0:Int)),(.int .u64 (0:Int)),(.int .i64 (0:Int)),(.int .i64 (0:Int)),(.str ([]:List UInt8)),(.str ([]:List UInt8)),(.int .i64 (0:Int)),(.int .i64 (0:Int)),(.int .i64 (0:Int)),(.str C8),(.bool C4),(.int .u64 C5),(.int .u64 C6),(.int .i64 (0:Int)),(.str C3)]),(0:Int))))))))))
def qp5:=hull qmi
theorem qbbq:qp5=qmi:=qa _
def qbdq {R:Type}:EntF Tryz.prog R:=entB (nt:=86) (dec:=q8k) (enc:=(fun r=>.tup [qd4 (.st [(.i .i64),.b,(.i .u64),(.i .u64),(.i .i64),(.i .i64),.s,.s,(.i .i64),(.i .i64),(.i .i64),.s,.b,(.i .u64),(.i .u64),(.i .i64),.s]) r.1,.int .i64 r.2])) tabOk follows Tryz.func17 [(.cell 4 true 17),.t 5] (hdeN fun _=>rfl) (.s .z (.s (.s (.r [(2,.k quq.b)] []) .z) (.s (.s .z (.b (.s .z (.s .z (.s .z (.s (.s (.r [(5,.c qrf.b)] []) .z) (.s .z (.s (.s (.r [(2,.c q8j.b)] []) .z) (.s .z (.s .z (.s .z (.s (.s (.d5 [] [(1,qx4.eat),(4,qn0)] [] []) .z) .z)))))))))))) .z))) S90_ qmi (fun f v=>f (v.l 1 0) (v.l 1 1) (v.l 1 2) (v.i 5 0) (v.b 5 1) (v.i 5 2) (v.i 5 3) (v.i 5 4) (v.i 5 5) (v.s 5 6) (v.s 5 7) (v.i 5 8) (v.i 5 9) (v.i 5 10) (v.s 5 11) (v.b 5 12) (v.i 5 13) (v.i 5 14) (v.i 5 15) (v.s 5 16))
end
end Go.Proofs.YtoaaphlopbabeaaGreatDoor.Dn
