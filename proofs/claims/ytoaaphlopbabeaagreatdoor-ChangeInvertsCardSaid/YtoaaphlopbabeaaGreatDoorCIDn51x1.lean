import Derived.Test.YtoaaphlopbabeaaGreatDoorProg
import Derived.Test.YtoaaphlopbabeaaGreatDoorCILibD
set_option linter.all false
namespace Go.Proofs.YtoaaphlopbabeaaGreatDoor.Dn
open Go Go.Pev
set_option maxRecDepth 100000
set_option maxHeartbeats 4000000
theorem zT:True:=True.intro
theorem zA {a b:Prop}(x:a)(y:b):a/\b:=⟨x,y⟩
theorem tabOk:Tab.ok (TIof Tryz.prog) Tryz.prog:=fun _ _ h=>h
theorem follows:Tryz.prog.follows .mixedOrders=true:=by kernel_rfl
def qds:List LT:=[(.sl 8),(.sl 5),(.sl 1)]
def S0_:Shp:=⟨[(0,.st (lk qds)),(1,.one (.l (.sl 17)))],[]⟩
noncomputable section
def qt1 (Aa Ab Ac v1:LA):Option Bool:=
 (some ((((decide ((Aa.length:Int)>40))||(decide ((Ab.length:Int)>40)))||(decide ((Ac.length:Int)>40)))||(decide ((v1.length:Int)>68))))
def qwp:=hull qt1
theorem qbeg:qwp=qt1:=qa _
def qbh9 {R:Type}:EntF Tryz.prog R:=entB (nt:=26) (dec:=decB) (enc:=AV.bool) tabOk follows Tryz.func11 [.t 4] hdeB (.s .z (.s (.r [(5,.g 4),(11,.g 4),(17,.g 3)] []) .z)) S0_ qt1 (fun f v=>f (v.l 1 0) (v.l 1 1) (v.l 1 2) (v.l 4 0))
def S1_:Shp:=⟨[(0,.one (.l (.i .i64)))],[]⟩
def qyq (v0:Int):Option AV:=
 (some (.agg [(.bool false),(.int .u64 (0:Int)),(.int .u64 (167772160:Int)),(.int .i64 v0)]))
def qwq:=hull qyq
theorem qbmg:qwq=qyq:=qa _
def q69 {R:Type}:EntF Tryz.prog R:=entB (nt:=6) (dec:=(decT [.b,(.i .u64),(.i .u64),(.i .i64)])) (enc:=(qcg (.st [.b,(.i .u64),(.i .u64),(.i .i64)]))) tabOk follows Tryz.func34 [(.cell 2 true 4)] hdeT (.z) S1_ qyq (fun f v=>f (v.i 0 0))
def qd3:List LT:=[(.i .i64),.b,(.i .u64),(.i .u64),(.i .i64),(.i .i64),.s,.s,(.i .i64),(.i .i64),(.i .i64),.s,.b,(.i .u64),(.i .u64),(.i .i64),.s]
def qgd (x0:Int)(x1:Bool)(x2 x3 x4 x5:Int)(x6 x7:LU)(x8 x9 x10:Int)(x11:LU)(x12:Bool)(x13 x14 x15:Int)(x16:LU):List AV:=[.int .i64 x0,.bool x1,.int .u64 x2,.int .u64 x3,.int .i64 x4,.int .i64 x5,.str x6,.str x7,.int .i64 x8,.int .i64 x9,.int .i64 x10,.str x11,.bool x12,.int .u64 x13,.int .u64 x14,.int .i64 x15,.str x16]
def S2_:Shp:=⟨[(1,.one (.ptr 0 0)),(2,.one (.ptr 1 0)),(4,.one (.ptr 2 0))],[.box true (lk qd3),.box true (lk qd3),.box true (lk qd3)]⟩
def S3_:Shp:=⟨[(0,.st (lk qd3))],[]⟩
def q49:AV->Option (AV×Bool):=decN [(.st [(.i .i64),.b,(.i .u64),(.i .u64),(.i .i64),(.i .i64),.s,.s,(.i .i64),(.i .i64),(.i .i64),.s,.b,(.i .u64),(.i .u64),(.i .i64),.s]),(.one .b)] fun z=>((gC (tpL z) 0),aB (gC (tpL z) 1))
def qbia (Ad:Int)(Ae:Bool)(Af Ag Ah Ai:Int)(Aj Ak:LU)(Al Am An:Int)(Ao:LU)(Ap:Bool)(Aq Ar As:Int)(At:LU)(Au:Int)(K:Ex->Env->Mem->Option (AV×Bool)):=(fun z_b1_1 z_b1_2 z_b1_3 z_b1_4 z_b1_5 z_b1_6 z_b1_7 z_b1_8 z_b1_9 z_b1_10 z_b1_11 z_b1_12 z_b1_13 z_b1_14 z_b1_15 z_b1_16=>K .norm (qk [(2,(.ptr 0 0)),(4,(.ptr 1 0))]) (qh [(some (.box true (qgd Ad Ae Af Ag Ah Ai Aj Ak Al Am An Ao Ap Aq Ar As At))),(some (.box true (qgd Au z_b1_1 z_b1_2 z_b1_3 z_b1_4 z_b1_5 z_b1_6 z_b1_7 z_b1_8 z_b1_9 z_b1_10 z_b1_11 z_b1_12 z_b1_13 z_b1_14 z_b1_15 z_b1_16)))]))
def qor (Av:Int)(Aw:Bool)(Ax Ay Az A0:Int)(A1 A2:LU)(A3 A4 A5:Int)(A6:LU)(A7:Bool)(A8 A9 Ba:Int)(Bb:LU)(Ad:Int)(Ae:Bool)(Af Ag Ah Ai:Int)(Aj Ak:LU)(Al Am An:Int)(Ao:LU)(Ap:Bool)(Aq Ar As:Int)(At:LU)(Au:Int)(Bc:Bool)(Bd Be Bf Bg:Int)(Bh Bi:LU)(Bj Bl Bm:Int)(Bn:LU)(Bo:Bool)(Bp Bq Br:Int)(Bs:LU)(kn:Bool->Int->Int->Int->Int->(List UInt8)->(List UInt8)->Int->Int->Int->(List UInt8)->Bool->Int->Int->Int->(List UInt8)->Option (AV×Bool)):Option (AV×Bool):=
 (bif(Av==1)then(kn Aw Ax Ay Az A0 A1 A2 A3 Bl Bm Bn Bo Bp Bq Br Bs)else(bif(Av==2)then(kn Aw Ax Ay Az Bg Bh Bi Bj Bl Bm Bn Bo Bp Bq Br Bs)else(bif(Av==3)then(kn Aw Ax Ay Az (0:Int) A1 A2 (0:Int) A4 A5 Bn Bo Bp Bq Br Bs)else(bif(Av==4)then(kn Bc Bd Be Bf Bg Bh Bi Bj Bl Bm A6 A7 A8 A9 Ba Bs)else(bif(Av==5)then(kn Bc Bd Be Bf Bg Bh Bi Bj Bl Bm A6 A7 A8 A9 (0:Int) Bs)else(bif(Av==6)then(kn Bc Bd Be Bf Bg Bh Bi Bj Bl Bm A6 A7 A8 A9 (0:Int) Bb)else(some ((.agg [(.int .i64 Au),(.bool Bc),(.int .u64 Bd),(.int .u64 Be),(.int .i64 Bf),(.int .i64 Bg),(.str Bh),(.str Bi),(.int .i64 Bj),(.int .i64 Bl),(.int .i64 Bm),(.str Bn),(.bool Bo),(.int .u64 Bp),(.int .u64 Bq),(.int .i64 Br),(.str Bs)]),false))))))))
def q7a:=hull (qor)
theorem qbib:q7a=qor:=qa _
def qbkm:SubB Tryz.prog (TIof Tryz.prog) 71 0 (kret [(.cell 2 true 17),.t 3] q49):=jnB tabOk follows Tryz.f35 11 (.s .z (.b (.s .z (.s (.v [.sel [2,4] [1,2]]) (.s .z (.s (.v [.sel [2,4] [1,2]]) (.s .z (.s (.s .z (.d [] [] [] [.sel [2,4] [1,2]])) (.s .z (.s (.v [.sel [2,4] [1,2]]) (.s .z (.s (.v [.sel [2,4] [1,2]]) (.s .z (.s (.s .z (.v [.sel [2,4] [1,2]])) .z)))))))))))))) S2_ (qor) (fun f v K=>f (v.i 3 0) (v.b 3 1) (v.i 3 2) (v.i 3 3) (v.i 3 4) (v.i 3 5) (v.s 3 6) (v.s 3 7) (v.i 3 8) (v.i 3 9) (v.i 3 10) (v.s 3 11) (v.b 3 12) (v.i 3 13) (v.i 3 14) (v.i 3 15) (v.s 3 16) (v.i 7 0) (v.b 7 1) (v.i 7 2) (v.i 7 3) (v.i 7 4) (v.i 7 5) (v.s 7 6) (v.s 7 7) (v.i 7 8) (v.i 7 9) (v.i 7 10) (v.s 7 11) (v.b 7 12) (v.i 7 13) (v.i 7 14) (v.i 7 15) (v.s 7 16) (v.i 11 0) (v.b 11 1) (v.i 11 2) (v.i 11 3) (v.i 11 4) (v.i 11 5) (v.s 11 6) (v.s 11 7) (v.i 11 8) (v.i 11 9) (v.i 11 10) (v.s 11 11) (v.b 11 12) (v.i 11 13) (v.i 11 14) (v.i 11 15) (v.s 11 16) (qbia (v.i 7 0) (v.b 7 1) (v.i 7 2) (v.i 7 3) (v.i 7 4) (v.i 7 5) (v.s 7 6) (v.s 7 7) (v.i 7 8) (v.i 7 9) (v.i 7 10) (v.s 7 11) (v.b 7 12) (v.i 7 13) (v.i 7 14) (v.i 7 15) (v.s 7 16) (v.i 11 0) K))
def quy (Aa:Int)(Ab:Bool)(Ac Bt Bu Bv:Int)(Bw Bx:LU)(By Bz B0:Int)(B1:LU)(B2:Bool)(B3 B4 B5:Int)(B6:LU):Option (AV×Bool):=
 (q7a Aa Ab Ac Bt Bu Bv Bw Bx By Bz B0 B1 B2 B3 B4 B5 B6 (0:Int) false (0:Int) (0:Int) (0:Int) (0:Int) ([]:List UInt8) ([]:List UInt8) (0:Int) (0:Int) (0:Int) ([]:List UInt8) false (0:Int) (0:Int) (0:Int) ([]:List UInt8) Aa false (0:Int) (0:Int) (0:Int) (0:Int) ([]:List UInt8) ([]:List UInt8) (0:Int) (0:Int) (0:Int) ([]:List UInt8) false (0:Int) (0:Int) (0:Int) ([]:List UInt8) (fun b1_1q1 b1_2q2 b1_3q3 b1_4q4 b1_5q5 b1_6q6 b1_7q7 b1_8q8 b1_9q9 b1_10q10 b1_11q11 b1_12q12 b1_13q13 b1_14q14 b1_15q15 b1_16q16=>(some ((.agg [(.int .i64 Aa),(.bool b1_1q1),(.int .u64 b1_2q2),(.int .u64 b1_3q3),(.int .i64 b1_4q4),(.int .i64 b1_5q5),(.str b1_6q6),(.str b1_7q7),(.int .i64 b1_8q8),(.int .i64 b1_9q9),(.int .i64 b1_10q10),(.str b1_11q11),(.bool b1_12q12),(.int .u64 b1_13q13),(.int .u64 b1_14q14),(.int .i64 b1_15q15),(.str b1_16q16)]),true))))
def q6g:=hull quy
theorem qbpi:q6g=quy:=qa _
def qbsk {R:Type}:EntF Tryz.prog R:=entB (nt:=71) (dec:=q49) (enc:=(fun r=>.tup [qcg (.st [(.i .i64),.b,(.i .u64),(.i .u64),(.i .i64),(.i .i64),.s,.s,(.i .i64),(.i .i64),(.i .i64),.s,.b,(.i .u64),(.i .u64),(.i .i64),.s]) r.1,.bool r.2])) tabOk follows Tryz.func35 [(.cell 2 true 17),.t 3] (hdeN fun _=>rfl) (.s .z (.s .z (.s (.sub [.sel [1,2,4] [0,1,2]] qbkm []) .z))) S3_ quy (fun f v=>f (v.i 1 0) (v.b 1 1) (v.i 1 2) (v.i 1 3) (v.i 1 4) (v.i 1 5) (v.s 1 6) (v.s 1 7) (v.i 1 8) (v.i 1 9) (v.i 1 10) (v.s 1 11) (v.b 1 12) (v.i 1 13) (v.i 1 14) (v.i 1 15) (v.s 1 16))
def qr (l:LA):Option (List AV):=q0t 80 l
def qqk {R:Type}(xs:LA)(K:AV->Option R):Option R:=qx2 8 80 xs K
theorem qel {R:Type}:qdi Tryz.prog 87 (qqk (R:=R)):=qbp9 (ρ:=q4j 87 4 22 33) tabOk (qbhb follows "slices.Clone[[]ddi/api.Block,ddi/api.Block]" (by kernel_rfl) (by kernel_rfl) (by kernel_rfl) (by kernel_rfl) (by kernel_rfl) (by kernel_rfl) (by kernel_rfl) (by kernel_rfl)) (by kernel_rfl) (by decide) (by decide)
def qk5 (l:LA):Option (List AV):=q0t 48 l
def qr7 {R:Type}(xs:LA)(K:AV->Option R):Option R:=qx2 5 48 xs K
theorem qt2 {R:Type}:qdi Tryz.prog 88 (qr7 (R:=R)):=qbp9 (ρ:=q4j 88 4 23 35) tabOk (qbhb follows "slices.Clone[[]ddi/api.Host,ddi/api.Host]" (by kernel_rfl) (by kernel_rfl) (by kernel_rfl) (by kernel_rfl) (by kernel_rfl) (by kernel_rfl) (by kernel_rfl) (by kernel_rfl)) (by kernel_rfl) (by decide) (by decide)
def qn9 (l:LA):Option (List AV):=q0t 16 l
def qvj {R:Type}(xs:LA)(K:AV->Option R):Option R:=qx2 1 16 xs K
theorem qwr {R:Type}:qdi Tryz.prog 89 (qvj (R:=R)):=qbp9 (ρ:=q4j 89 4 24 9) tabOk (qbhb follows "slices.Clone[[]string,string]" (by kernel_rfl) (by kernel_rfl) (by kernel_rfl) (by kernel_rfl) (by kernel_rfl) (by kernel_rfl) (by kernel_rfl) (by kernel_rfl)) (by kernel_rfl) (by decide) (by decide)
def S4_:Shp:=⟨[(0,.st (lk qds))],[]⟩
def qws (Aa Ab Ac:LA):Option AV:=
 (oB (qr Aa) fun r1=>(oB (qk5 Ab) fun r2=>(oB (qn9 Ac) fun r3=>(bif hd r1 r1.length then(bif hd r2 r2.length then(bif hd r3 r3.length then(some (.agg [(.fr true 8 r1),(.fr true 5 r2),(.fr true 1 r3)]))else none)else none)else none))))
def qwt:=hull qws
theorem qbsl:qwt=qws:=qa _
def q24 {R:Type}:EntF Tryz.prog R:=entB (nt:=13) (dec:=(decT [(.fr true 8),(.fr true 5),(.fr true 1)])) (enc:=(qcg (.st [(.fr true 8),(.fr true 5),(.fr true 1)]))) tabOk follows Tryz.func36 [(.cell 2 true 3)] hdeT (.s .z (.s (.d3 [] [5,8] [(2,.c (eB qel)),(5,.c (eB qt2))] [(0,.c (eB qwr))] []) .z)) S4_ qws (fun f v=>f (v.l 1 0) (v.l 1 1) (v.l 1 2))
def qd0:List LT:=[.b,(.i .u64),(.i .u64)]
def S5_:Shp:=⟨[(0,.st (lk qd0))],[]⟩
def qwu (Aa:Bool)(Ab Ac:Int):Option Bool:=
 (bif Aa then(some true)else(bif(Ab==0)then(some (decide (Ac<=4294967295)))else(some false)))
def qwv:=hull qwu
theorem qbsm:qwv=qwu:=qa _
def q25 {R:Type}:EntF Tryz.prog R:=entB (nt:=15) (dec:=decB) (enc:=AV.bool) tabOk follows Tryz.func167 [.t 2] hdeB (.z) S5_ qwu (fun f v=>f (v.b 1 0) (v.i 1 1) (v.i 1 2))
def qq0 (Aa:Bool)(Ab Ac:Int):Option Int:=
 (bif Aa then(some (128:Int))else(some (32:Int)))
def qlv:=hull qq0
theorem qbkn:qlv=qq0:=qa _
def qq1 {R:Type}:EntF Tryz.prog R:=entB (nt:=5) (dec:=(decI .i64)) (enc:=(AV.int .i64)) tabOk follows Tryz.func174 [.t 2] hdeI (.z) S5_ qq0 (fun f v=>f (v.b 1 0) (v.i 1 1) (v.i 1 2))
def S6_:Shp:=⟨[(0,.one (.l .b)),(1,.one (.l (.i .i64)))],[]⟩
def qbko:AV->Option (Int×Int):=decN [(.one (.i .u64)),(.one (.i .u64))] fun z=>(aI (gC (tpL z) 0),aI (gC (tpL z) 1))
def qoa (v0:Bool)(v1:Int):Option (Int×Int):=
 (bif(!v0)then(bif decide ((IntKind.u64.wrap (IntKind.i64.wrap ((32:Int)-v1)))<0)then none else(some ((0:Int),(IntKind.u64.wrap ((IntKind.u64.wrap ((1:Int)*2^min (IntKind.u64.wrap (IntKind.i64.wrap ((32:Int)-v1))).toNat IntKind.u64.bits))-1)))))else(bif(decide (v1>=64))then(bif decide ((IntKind.u64.wrap (IntKind.i64.wrap ((128:Int)-v1)))<0)then none else(some ((0:Int),(IntKind.u64.wrap ((IntKind.u64.wrap ((1:Int)*2^min (IntKind.u64.wrap (IntKind.i64.wrap ((128:Int)-v1))).toNat IntKind.u64.bits))-1)))))else(bif decide ((IntKind.u64.wrap (IntKind.i64.wrap ((64:Int)-v1)))<0)then none else(some ((IntKind.u64.wrap ((IntKind.u64.wrap ((1:Int)*2^min (IntKind.u64.wrap (IntKind.i64.wrap ((64:Int)-v1))).toNat IntKind.u64.bits))-1)),(18446744073709551615:Int))))))
def qww:=hull qoa
theorem qbmh:qww=qoa:=qa _
def q7b {R:Type}:EntF Tryz.prog R:=entB (nt:=25) (dec:=qbko) (enc:=(fun r=>.tup [.int .u64 r.1,.int .u64 r.2])) tabOk follows Tryz.func175 [.t 4,.t 5] (hdeN fun _=>rfl) (.z) S6_ qoa (fun f v=>f (v.b 0 0) (v.i 4 0))
def qe:List LT:=[.b,(.i .u64),(.i .u64),(.i .i64)]
def qc (x0:Bool)(x1 x2 x3:Int):List AV:=[.bool x0,.int .u64 x1,.int .u64 x2,.int .i64 x3]
def S7_:Shp:=⟨[(1,.one (.ptr 0 0))],[.box true (lk qe)]⟩
def S8_:Shp:=⟨[(0,.st (lk qe))],[]⟩
def qbeh (Av:Bool)(Aw Ax Ay:Int)(K:Ex->Env->Mem->Option Bool):=(fun z_v21=>K .norm (qk [(1,(.ptr 0 0)),(21,(.bool z_v21))]) (qh [(some (.box true (qc Av Aw Ax Ay)))]))
def qnc (Av:Bool)(Aw Ax Ay:Int)(kn:Bool->Option Bool):Option Bool:=
 (oB (qwv Av Aw Ax) fun r1=>(bif(!r1)then(kn true)else(bif(decide (Ay<0))then(kn true)else(oB (qlv Av Aw Ax) fun r2=>(kn (decide (Ay>r2)))))))
def q5a:=hull (qnc)
theorem qbei:q5a=qnc:=qa _
def qbic:SubB Tryz.prog (TIof Tryz.prog) 45 0 (kret [.t 2] decB):=jnB tabOk follows Tryz.f126 9 (.d [] [(2,.c q25.b),(14,.c qq1.b)] [] [.sel [1,21] [0]]) S7_ (qnc) (fun f v K=>f (v.b 3 0) (v.i 3 1) (v.i 3 2) (v.i 3 3) (qbeh (v.b 3 0) (v.i 3 1) (v.i 3 2) (v.i 3 3) K))
def qs5 (Aa:Bool)(Ab Ac Bt:Int):Option Bool:=
 (q5a Aa Ab Ac Bt (fun v21q1=>(bif v21q1 then(some false)else(oB (qww Aa Bt) fun r2=>(some (((qbi .and .u64 Ab r2.1)==0)&&((qbi .and .u64 Ac r2.2)==0)))))))
def qis:=hull qs5
theorem qbmi:qis=qs5:=qa _
def qky {R:Type}:EntF Tryz.prog R:=entB (nt:=45) (dec:=decB) (enc:=AV.bool) tabOk follows Tryz.func126 [.t 2] hdeB (.s .z (.s (.s (.sub [.sel [1] [0]] qbic []) .z) (.s (.r [(5,.c q7b.b)] []) (.s (.r [(7,.g 6)] []) .z)))) S8_ qs5 (fun f v=>f (v.b 1 0) (v.i 1 1) (v.i 1 2) (v.i 1 3))
def qs6 (Aa:Bool)(Ab Ac Bt:Int):Option Int:=
 (bif Aa then(some (128:Int))else(some (32:Int)))
def q26:=hull qs6
theorem qbmj:q26=qs6:=qa _
def qbpj {R:Type}:EntF Tryz.prog R:=entB (nt:=6) (dec:=(decI .i64)) (enc:=(AV.int .i64)) tabOk follows Tryz.func137 [.t 2] hdeI (.z) S8_ qs6 (fun f v=>f (v.b 1 0) (v.i 1 1) (v.i 1 2) (v.i 1 3))
def S9_:Shp:=⟨[(0,.one (.l .s)),(19,.one (.l (.i .i64))),(20,.one (.l (.i .i64)))],[]⟩
def S10_:Shp:=⟨[(0,.one (.l .s)),(1,.one (.l (.i .i64))),(2,.one (.l (.i .i64)))],[]⟩
def quc (K:Ex->Env->Mem->Option Bool):=(fun(_:Unit)=>K (.exit 0) (qk []) (qh []))
def qge (v0:LU)(v19 v20:Int)(next:Int->Option Bool)(kx0:Unit->Option Bool):Option Bool:=
 (bif(decide (v20<v19))then(oB (ixB v0 v20) fun c1=>(bif(decide ((c1.toNat:Int)<33))then(some false)else(oB (ixB v0 v20) fun c2=>(bif(decide ((c2.toNat:Int)>126))then(some false)else(next (IntKind.i64.wrap (v20+1)))))))else(kx0 ()))
def qgf (v0:LU)(v19:Int)(kx0:Unit->Option Bool):Nat->Int->Option Bool
 |0=>(fun _=>none)
 |n+1=>(fun v20=>qge v0 v19 v20 (qgf v0 v19 kx0 n) kx0)
def qr8:=hull (qgf)
theorem q7c:qr8=qgf:=qa _
def q9q:SubB Tryz.prog (TIof Tryz.prog) 34 0 (kret [.t 6] decB):=lpB tabOk follows Tryz.f138 75 (.s .z (.s (.s .z (.v [.sel [] []])) (.s .z (.v [.sel [0,19,20] []])))) S9_ (qgf) (fun f v K n=>f (v.s 0 0) (v.i 76 0) (quc K) n) (fun v f K=>qge (v.s 0 0) (v.i 76 0) (v.i 80 0) f (quc K)) (fun f v=>f (v.i 80 0)) (fun k v=>(fun z0=>k (v.ui 80 0 z0)))
def qos (v0:LU)(v1 v2:Int):Option Bool:=
 (bif((decide ((v0.length:Int)<v1))||(decide ((v0.length:Int)>v2)))then(some false)else(qr8 v0 (v0.length:Int) (fun(_:Unit)=>(some true)) FU (0:Int)))
def qs7:=hull qos
theorem qbid:qs7=qos:=qa _
def q27 {R:Type}:EntF Tryz.prog R:=entB (nt:=34) (dec:=decB) (enc:=AV.bool) tabOk follows Tryz.func138 [.t 6] hdeB (.s .z (.s (.s (.r [(5,.g 4)] []) .z) (.s (.s .z (.b (.sub [.sel [0,19,20] []] q9q []))) .z))) S10_ qos (fun f v=>f (v.s 0 0) (v.i 4 0) (v.i 8 0))
def qb:List LT:=[.b,(.i .u64),(.i .u64),(.i .i64),(.i .i64),.s,.s,(.i .i64)]
def qn (x0:Bool)(x1 x2 x3 x4:Int)(x5 x6:LU)(x7:Int):List AV:=[.bool x0,.int .u64 x1,.int .u64 x2,.int .i64 x3,.int .i64 x4,.str x5,.str x6,.int .i64 x7]
def S11_:Shp:=⟨[(1,.one (.ptr 0 0))],[.box true (lk qb)]⟩
def S12_:Shp:=⟨[(0,.st (lk qb))],[]⟩
def qbcn (Av:Bool)(Aw Ax Ay Az:Int)(A0 A1:LU)(A2:Int)(K:Ex->Env->Mem->Option Int):=(fun z_v28=>K .norm (qk [(1,(.ptr 0 0)),(28,(.bool z_v28))]) (qh [(some (.box true (qn Av Aw Ax Ay Az A0 A1 A2)))]))
def ql0 (Av:Bool)(Aw Ax Ay Az:Int)(A0 A1:LU)(A2:Int)(kn:Bool->Option Int):Option Int:=
 (bif(decide (Az<1))then(kn true)else(bif(decide (Az>3))then(kn true)else(bif(Az==3)then(oB (q26 Av Aw Ax Ay) fun r1=>(kn (Ay != r1)))else(kn false))))
def q28:=hull (ql0)
theorem qbco:q28=ql0:=qa _
def qbej:SubB Tryz.prog (TIof Tryz.prog) 49 0 (kret [.t 2] (decI .i64)):=jnB tabOk follows Tryz.f90 19 (.d [] [(18,.c qbpj.b)] [] [.sel [1,28] [0]]) S11_ (ql0) (fun f v K=>f (v.b 3 0) (v.i 3 1) (v.i 3 2) (v.i 3 3) (v.i 3 4) (v.s 3 5) (v.s 3 6) (v.i 3 7) (qbcn (v.b 3 0) (v.i 3 1) (v.i 3 2) (v.i 3 3) (v.i 3 4) (v.s 3 5) (v.s 3 6) (v.i 3 7) K))
def qs8 (Aa:Bool)(Ab Ac Bt Bu:Int)(Bv Bw:LU)(Bx:Int):Option Int:=
 (oB (qis Aa Ab Ac Bt) fun r1=>(bif(!r1)then(some (3:Int))else(q28 Aa Ab Ac Bt Bu Bv Bw Bx (fun v28q2=>(bif v28q2 then(some (1:Int))else(oB (qs7 Bv (1:Int) (63:Int)) fun r3=>(bif(!r3)then(some (1:Int))else(oB (qs7 Bw (0:Int) (32:Int)) fun r4=>(bif(((!r4)||(decide (Bx<0)))||(decide (Bx>4294967295)))then(some (1:Int))else(some (0:Int)))))))))))
def qwx:=hull qs8
theorem qbmk:qwx=qs8:=qa _
def qbpk {R:Type}:EntF Tryz.prog R:=entB (nt:=49) (dec:=(decI .i64)) (enc:=(AV.int .i64)) tabOk follows Tryz.func90 [.t 2] hdeI (.s .z (.s (.s (.r [(2,.c qky.b)] []) .z) (.s (.s (.sub [.sel [1] [0]] qbej []) .z) (.s (.s (.r [(2,.c q27.b),(7,.c q27.b),(11,.g 3),(16,.g 3)] []) .z) .z)))) S12_ qs8 (fun f v=>f (v.b 1 0) (v.i 1 1) (v.i 1 2) (v.i 1 3) (v.i 1 4) (v.s 1 5) (v.s 1 6) (v.i 1 7))
def S13_:Shp:=⟨[(0,.st (lk qb)),(1,.one (.ptr 0 0))],[.box true (lk qe)]⟩
def qbie {R:Type}(KK:AV->Mem->Option R):=(fun v3 Av Aw Ax Ay=>KK (.bool v3) (qh [(some (.box true (qc Av Aw Ax Ay)))]))
def qot {R:Type}(Aa:Bool)(Ab Ac Bt Bu:Int)(Bv Bw:LU)(Bx:Int)(Av:Bool)(Aw Ax Ay:Int)(kr:Bool->Bool->Int->Int->Int->Option R):Option R:=
 (kr ((Aa==Av)&&((Ab==Aw)&&((Ac==Ax)&&((Bt==Ay)&&true)))) Av Aw Ax Ay)
def q7d {R:Type}:=hull (qot (R:=R))
theorem qbif {R:Type}:q7d (R:=R)=qot:=qa _
def qbkp {R:Type}:RefB Tryz.prog R:=refB (nt:=8) (nb:=1) tabOk follows Tryz.func139 [.t 3] (fun KK=>.s .z (.s .z (.v [.sel [3] [0]]))) S13_ (qot (R:=R)) (fun f v KK=>f (v.b 1 0) (v.i 1 1) (v.i 1 2) (v.i 1 3) (v.i 1 4) (v.s 1 5) (v.s 1 6) (v.i 1 7) (v.b 3 0) (v.i 3 1) (v.i 3 2) (v.i 3 3) (qbie KK)) (by kernel_rfl) (by kernel_rfl) (fun _=>(by kernel_rfl)) rfl
def S14_:Shp:=⟨[(0,.one (.l (.sl 8))),(1,.one (.fn 139 [(0,0)])),(7,.one (.l (.i .i64))),(8,.one (.l (.i .i64)))],[.box true (lk qe)]⟩
def S15_:Shp:=⟨[(0,.one (.l (.sl 8))),(1,.one (.fn 139 [(0,0)]))],[.box true (lk qe)]⟩
def qc8 {R:Type}(K:Ex->Env->Mem->Option R):=(fun z_b0_0 z_b0_1 z_b0_2 z_b0_3=>K (.exit 0) (qk []) (qh [(some (.box true (qc z_b0_0 z_b0_1 z_b0_2 z_b0_3)))]))
def qdf {R:Type}(KK:AV->Mem->Option R):=(fun v4 Av Aw Ax Ay=>KK (.int .i64 v4) (qh [(some (.box true (qc Av Aw Ax Ay)))]))
def q8 {R:Type}(v0:LA)(v7 v8:Int)(Av:Bool)(Aw Ax Ay:Int)(next:Int->Bool->Int->Int->Int->Option R)(kx0:Bool->Int->Int->Int->Option R)(kr:Int->Bool->Int->Int->Int->Option R):Option R:=
 (bif(decide (v8<v7))then(oB (ixB v0 v8) fun y1=>(bif fitC qb y1.cells then(q7d (gB y1.cells 0) (gI y1.cells 1) (gI y1.cells 2) (gI y1.cells 3) (gI y1.cells 4) (gS y1.cells 5) (gS y1.cells 6) (gI y1.cells 7) Av Aw Ax Ay fun v3q2 b0_0q3 b0_1q4 b0_2q5 b0_3q6=>(bif v3q2 then(kr v8 b0_0q3 b0_1q4 b0_2q5 b0_3q6)else(next (IntKind.i64.wrap (v8+1)) b0_0q3 b0_1q4 b0_2q5 b0_3q6)))else none))else(kx0 Av Aw Ax Ay))
def q9 {R:Type}(v0:LA)(v7:Int)(kx0:Bool->Int->Int->Int->Option R)(kr:Int->Bool->Int->Int->Int->Option R):Nat->Int->Bool->Int->Int->Int->Option R
 |0=>(fun _ _ _ _ _=>none)
 |n+1=>(fun v8 Av Aw Ax Ay=>q8 v0 v7 v8 Av Aw Ax Ay (q9 v0 v7 kx0 kr n) kx0 kr)
def qdt {R:Type}:=hull (q9 (R:=R))
theorem qhn {R:Type}:qdt (R:=R)=q9:=qa _
def qhv {R:Type}(KK:AV->Mem->Option R):SubB Tryz.prog (TIof Tryz.prog) 19 1 (qdo [.t 4] KK):=lpB tabOk follows Tryz.f125 37 (.s .z (.s (.s .z (.v [.sel [] [0]])) (.s (.b (.s .z (.s (.r [(3,.p (.etac 14 qb)),(5,.s (.sel [0,1,5,7,8,11,15] [0])),(5,.r qbkp)] []) (.s (.s .z (.v [.sel [4] [0]])) .z)))) (.v [.sel [0,1,7,8] [0]])))) S14_ (q9 (R:=R)) (fun f v K n=>f (v.l 0 0) (v.i 28 0) (qc8 K) (qdf KK) n) (fun v f K=>q8 (v.l 0 0) (v.i 28 0) (v.i 32 0) (v.b 3 0) (v.i 3 1) (v.i 3 2) (v.i 3 3) f (qc8 K) (qdf KK)) (fun f v=>f (v.i 32 0) (v.b 3 0) (v.i 3 1) (v.i 3 2) (v.i 3 3)) (fun k v=>(fun z0 z1 z2 z3 z4=>k (((((v.ui 32 0 z0).ub 3 0 z1).ui 3 1 z2).ui 3 2 z3).ui 3 3 z4)))
def qif {R:Type}(KK:AV->Mem->Option R):=(fun v4 Av Aw Ax Ay=>KK (.int .i64 v4) (qh [(some (.box true (qc Av Aw Ax Ay)))]))
def qbt {R:Type}(v0:LA)(Av:Bool)(Aw Ax Ay:Int)(kr:Int->Bool->Int->Int->Int->Option R):Option R:=
 (qdt v0 (v0.length:Int) (fun b0_0q1 b0_1q2 b0_2q3 b0_3q4=>(kr (-1:Int) b0_0q1 b0_1q2 b0_2q3 b0_3q4)) kr FU (0:Int) Av Aw Ax Ay)
def qd4 {R:Type}:=hull (qbt (R:=R))
theorem qig {R:Type}:qd4 (R:=R)=qbt:=qa _
def qit {R:Type}:RefB Tryz.prog R:=refB (nt:=19) (nb:=1) tabOk follows Tryz.func125 [.t 4] (fun KK=>.s .z (.s (.s .z (.b (.sub [.sel [0,1,7,8] [0]] (qhv KK) []))) (.s .z (.v [.sel [4] [0]])))) S15_ (qbt (R:=R)) (fun f v KK=>f (v.l 0 0) (v.b 3 0) (v.i 3 1) (v.i 3 2) (v.i 3 3) (qif KK)) (by kernel_rfl) (by kernel_rfl) (fun _=>(by kernel_rfl)) rfl
def S16_:Shp:=⟨[(0,.one (.l (.sl 8))),(1,.st (lk qe))],[]⟩
def qs9 (v0:LA)(B7:Bool)(B8 B9 Ca:Int):Option Int:=
 (qd4 v0 B7 B8 B9 Ca fun v4q1 b0_0q2 b0_1q3 b0_2q4 b0_3q5=>(some v4q1))
def qr9:=hull qs9
theorem qbml:qr9=qs9:=qa _
def qyr {R:Type}:EntF Tryz.prog R:=entB (nt:=8) (dec:=(decI .i64)) (enc:=(AV.int .i64)) tabOk follows Tryz.func91 [.t 4] hdeI (.s .z (.s (.r [(2,.s (.sel [5,6] [0])),(2,.r qit)] []) .z)) S16_ qs9 (fun f v=>f (v.l 0 0) (v.b 5 0) (v.i 5 1) (v.i 5 2) (v.i 5 3))
def qhd (x0:Bool)(x1 x2:Int):List AV:=[.bool x0,.int .u64 x1,.int .u64 x2]
def S17_:Shp:=⟨[(1,.one (.l (.i .i64))),(2,.one (.ptr 0 0)),(4,.one (.ptr 1 0))],[.box true (lk qd0),.box true (lk qe)]⟩
def S18_:Shp:=⟨[(0,.st (lk qd0)),(1,.one (.l (.i .i64)))],[]⟩
def qbcd:AV->Option (AV×Bool):=decN [(.st [.b,(.i .u64),(.i .u64),(.i .i64)]),(.one .b)] fun z=>((gC (tpL z) 0),aB (gC (tpL z) 1))
def qbmm (v1:Int)(Av:Bool)(Aw Ax:Int)(Ad:Bool)(Ae Af Ag:Int)(K:Ex->Env->Mem->Option (AV×Bool)):=(fun z_v20=>K .norm (qk [(1,(.int .i64 v1)),(2,(.ptr 0 0)),(4,(.ptr 1 0)),(20,(.bool z_v20))]) (qh [(some (.box true (qhd Av Aw Ax))),(some (.box true (qc Ad Ae Af Ag)))]))
def qta (v1:Int)(Av:Bool)(Aw Ax:Int)(Ad:Bool)(Ae Af Ag:Int)(kn:Bool->Option (AV×Bool)):Option (AV×Bool):=
 (oB (qwv Av Aw Ax) fun r1=>(bif((!r1)||(decide (v1<0)))then(kn true)else(oB (qlv Av Aw Ax) fun r2=>(kn (decide (v1>r2))))))
def qbek:=hull (qta)
theorem qbmn:qbek=qta:=qa _
def qbpl:SubB Tryz.prog (TIof Tryz.prog) 42 0 (kret [(.cell 4 true 4),.t 5] qbcd):=jnB tabOk follows Tryz.f127 9 (.r [(1,.c q25.b),(4,.g 2),(10,.c qq1.b)] [.sel [1,2,4,20] [0,1]]) S17_ (qta) (fun f v K=>f (v.i 4 0) (v.b 3 0) (v.i 3 1) (v.i 3 2) (v.b 7 0) (v.i 7 1) (v.i 7 2) (v.i 7 3) (qbmm (v.i 4 0) (v.b 3 0) (v.i 3 1) (v.i 3 2) (v.b 7 0) (v.i 7 1) (v.i 7 2) (v.i 7 3) K))
def qzq (Aa:Bool)(Ab Ac v1:Int):Option (AV×Bool):=
 (qbek v1 Aa Ab Ac false (0:Int) (0:Int) (0:Int) (fun v20q1=>(bif v20q1 then(some ((.agg [(.bool false),(.int .u64 (0:Int)),(.int .u64 (0:Int)),(.int .i64 (0:Int))]),false))else(oB (qww Aa v1) fun r2=>(some ((.agg [(.bool Aa),(.int .u64 (qbi .andNot .u64 Ab r2.1)),(.int .u64 (qbi .andNot .u64 Ac r2.2)),(.int .i64 v1)]),true))))))
def qbel:=hull qzq
theorem qbtj:qbel=qzq:=qa _
def qbvs {R:Type}:EntF Tryz.prog R:=entB (nt:=42) (dec:=qbcd) (enc:=(fun r=>.tup [qcg (.st [.b,(.i .u64),(.i .u64),(.i .i64)]) r.1,.bool r.2])) tabOk follows Tryz.func127 [(.cell 4 true 4),.t 5] (hdeN fun _=>rfl) (.s .z (.s (.s (.sub [.sel [1,2,4] [0,1]] qbpl []) .z) (.s (.r [(3,.c q7b.b)] []) .z))) S18_ qzq (fun f v=>f (v.b 1 0) (v.i 1 1) (v.i 1 2) (v.i 4 0))
def S19_:Shp:=⟨[(0,.st (lk qe)),(1,.st (lk qd0))],[]⟩
def qnd (Aa:Bool)(Ab Ac Bt:Int)(B7:Bool)(B8 B9:Int):Option Bool:=
 (oB (qis Aa Ab Ac Bt) fun r1=>(bif((!r1)||(!((Aa==B7)&&true)))then(some false)else(oB (qbel B7 B8 B9 Bt) fun r2=>(some (r2.2&&(((gB r2.1.cells 0)==Aa)&&(((gI r2.1.cells 1)==Ab)&&(((gI r2.1.cells 2)==Ac)&&(((gI r2.1.cells 3)==Bt)&&true)))))))))
def qq2:=hull qnd
theorem qbem:qq2=qnd:=qa _
def q1k {R:Type}:EntF Tryz.prog R:=entB (nt:=31) (dec:=decB) (enc:=AV.bool) tabOk follows Tryz.func67 [.t 4] hdeB (.s .z (.s (.s (.r [(1,.c qky.b),(4,.g 6)] []) .z) (.s (.r [(3,.c qbvs.b)] []) (.s (.r [(2,.g 3)] []) .z)))) S19_ qnd (fun f v=>f (v.b 1 0) (v.i 1 1) (v.i 1 2) (v.i 1 3) (v.b 5 0) (v.i 5 1) (v.i 5 2))
def S20_:Shp:=⟨[(0,.st (lk qe)),(1,.st (lk qe))],[]⟩
def qq3 (Aa:Bool)(Ab Ac Bt:Int)(B7:Bool)(B8 B9 Ca:Int):Option Bool:=
 (oB (qis Aa Ab Ac Bt) fun r1=>(bif r1 then(oB (qis B7 B8 B9 Ca) fun r2=>(bif(r2&&(decide (Bt>=Ca)))then(oB (qq2 B7 B8 B9 Ca Aa Ab Ac) fun r3=>(some r3))else(some false)))else(some false)))
def qlw:=hull qq3
theorem qbkq:qlw=qq3:=qa _
def ql1 {R:Type}:EntF Tryz.prog R:=entB (nt:=24) (dec:=decB) (enc:=AV.bool) tabOk follows Tryz.func122 [.t 4] hdeB (.s .z (.s (.r [(1,.c qky.b),(4,.c qky.b),(7,.g 5),(17,.c q1k.b)] []) .z)) S20_ qq3 (fun f v=>f (v.b 1 0) (v.i 1 1) (v.i 1 2) (v.i 1 3) (v.b 5 0) (v.i 5 1) (v.i 5 2) (v.i 5 3))
def quz (Aa:Bool)(Ab Ac Bt:Int)(B7:Bool)(B8 B9 Ca:Int):Option Bool:=
 (bif(decide (Bt>Ca))then(oB (qlw Aa Ab Ac Bt B7 B8 B9 Ca) fun r1=>(some r1))else(some false))
def qud:=hull quz
theorem qbpm:qud=quz:=qa _
def q04 {R:Type}:EntF Tryz.prog R:=entB (nt:=15) (dec:=decB) (enc:=AV.bool) tabOk follows Tryz.func141 [.t 4] hdeB (.s .z (.s (.r [(8,.c ql1.b)] []) .z)) S20_ quz (fun f v=>f (v.b 1 0) (v.i 1 1) (v.i 1 2) (v.i 1 3) (v.b 5 0) (v.i 5 1) (v.i 5 2) (v.i 5 3))
def S21_:Shp:=⟨[(0,.st (lk qb)),(1,.st (lk qb))],[]⟩
def qq4 (Aa:Bool)(Ab Ac Bt Bu:Int)(Bv Bw:LU)(Bx:Int)(B7:Bool)(B8 B9 Ca Cb:Int)(Cc Cd:LU)(Ce:Int):Option Bool:=
 (bif(Bu==1)then(some true)else(bif(Bu==2)then(some (Cb==3))else(some false)))
def q05:=hull qq4
theorem qbkr:q05=qq4:=qa _
def qbmo {R:Type}:EntF Tryz.prog R:=entB (nt:=18) (dec:=decB) (enc:=AV.bool) tabOk follows Tryz.func142 [.t 4] hdeB (.z) S21_ qq4 (fun f v=>f (v.b 1 0) (v.i 1 1) (v.i 1 2) (v.i 1 3) (v.i 1 4) (v.s 1 5) (v.s 1 6) (v.i 1 7) (v.b 5 0) (v.i 5 1) (v.i 5 2) (v.i 5 3) (v.i 5 4) (v.s 5 5) (v.s 5 6) (v.i 5 7))
def S22_:Shp:=⟨[(0,.st (lk qb)),(1,.one (.ptr 0 0))],[.box true (lk qb)]⟩
def q7e {R:Type}(KK:AV->Mem->Option R):=(fun v3 Av Aw Ax Ay Az A0 A1 A2=>KK (.bool v3) (qh [(some (.box true (qn Av Aw Ax Ay Az A0 A1 A2)))]))
def qj9 {R:Type}(Aa:Bool)(Ab Ac Bt Bu:Int)(Bv Bw:LU)(Bx:Int)(Av:Bool)(Aw Ax Ay Az:Int)(A0 A1:LU)(A2:Int)(kr:Bool->Bool->Int->Int->Int->Int->(List UInt8)->(List UInt8)->Int->Option R):Option R:=
 (oB (qud Av Aw Ax Ay Aa Ab Ac Bt) fun r1=>(bif r1 then(oB (q05 Aa Ab Ac Bt Bu Bv Bw Bx Av Aw Ax Ay Az A0 A1 A2) fun r2=>(kr (!r2) Av Aw Ax Ay Az A0 A1 A2))else(kr false Av Aw Ax Ay Az A0 A1 A2)))
def qsa {R:Type}:=hull (qj9 (R:=R))
theorem q7f {R:Type}:qsa (R:=R)=qj9:=qa _
def q9r {R:Type}:RefB Tryz.prog R:=refB (nt:=15) (nb:=1) tabOk follows Tryz.func140 [.t 3] (fun KK=>.s .z (.s (.r [(4,.c q04.b),(8,.c qbmo.b)] []) (.v [.sel [3] [0]]))) S22_ (qj9 (R:=R)) (fun f v KK=>f (v.b 1 0) (v.i 1 1) (v.i 1 2) (v.i 1 3) (v.i 1 4) (v.s 1 5) (v.s 1 6) (v.i 1 7) (v.b 3 0) (v.i 3 1) (v.i 3 2) (v.i 3 3) (v.i 3 4) (v.s 3 5) (v.s 3 6) (v.i 3 7) (q7e KK)) (by kernel_rfl) (by kernel_rfl) (fun _=>(by kernel_rfl)) rfl
def S23_:Shp:=⟨[(0,.one (.l (.sl 8))),(1,.one (.fn 140 [(0,0)])),(7,.one (.l (.i .i64))),(8,.one (.l (.i .i64)))],[.box true (lk qb)]⟩
def S24_:Shp:=⟨[(0,.one (.l (.sl 8))),(1,.one (.fn 140 [(0,0)]))],[.box true (lk qb)]⟩
def qcu {R:Type}(K:Ex->Env->Mem->Option R):=(fun z_b0_0 z_b0_1 z_b0_2 z_b0_3 z_b0_4 z_b0_5 z_b0_6 z_b0_7=>K (.exit 0) (qk []) (qh [(some (.box true (qn z_b0_0 z_b0_1 z_b0_2 z_b0_3 z_b0_4 z_b0_5 z_b0_6 z_b0_7)))]))
def qcw {R:Type}(KK:AV->Mem->Option R):=(fun v4 Av Aw Ax Ay Az A0 A1 A2=>KK (.int .i64 v4) (qh [(some (.box true (qn Av Aw Ax Ay Az A0 A1 A2)))]))
def qt {R:Type}(v0:LA)(v7 v8:Int)(Av:Bool)(Aw Ax Ay Az:Int)(A0 A1:LU)(A2:Int)(next:Int->Bool->Int->Int->Int->Int->(List UInt8)->(List UInt8)->Int->Option R)(kx0:Bool->Int->Int->Int->Int->(List UInt8)->(List UInt8)->Int->Option R)(kr:Int->Bool->Int->Int->Int->Int->(List UInt8)->(List UInt8)->Int->Option R):Option R:=
 (bif(decide (v8<v7))then(oB (ixB v0 v8) fun y1=>(bif fitC qb y1.cells then(qsa (gB y1.cells 0) (gI y1.cells 1) (gI y1.cells 2) (gI y1.cells 3) (gI y1.cells 4) (gS y1.cells 5) (gS y1.cells 6) (gI y1.cells 7) Av Aw Ax Ay Az A0 A1 A2 fun v3q2 b0_0q3 b0_1q4 b0_2q5 b0_3q6 b0_4q7 b0_5q8 b0_6q9 b0_7q10=>(bif v3q2 then(kr v8 b0_0q3 b0_1q4 b0_2q5 b0_3q6 b0_4q7 b0_5q8 b0_6q9 b0_7q10)else(next (IntKind.i64.wrap (v8+1)) b0_0q3 b0_1q4 b0_2q5 b0_3q6 b0_4q7 b0_5q8 b0_6q9 b0_7q10)))else none))else(kx0 Av Aw Ax Ay Az A0 A1 A2))
def qu {R:Type}(v0:LA)(v7:Int)(kx0:Bool->Int->Int->Int->Int->(List UInt8)->(List UInt8)->Int->Option R)(kr:Int->Bool->Int->Int->Int->Int->(List UInt8)->(List UInt8)->Int->Option R):Nat->Int->Bool->Int->Int->Int->Int->(List UInt8)->(List UInt8)->Int->Option R
 |0=>(fun _ _ _ _ _ _ _ _ _=>none)
 |n+1=>(fun v8 Av Aw Ax Ay Az A0 A1 A2=>qt v0 v7 v8 Av Aw Ax Ay Az A0 A1 A2 (qu v0 v7 kx0 kr n) kx0 kr)
def qc9 {R:Type}:=hull (qu (R:=R))
theorem qf4 {R:Type}:qc9 (R:=R)=qu:=qa _
def qf7 {R:Type}(KK:AV->Mem->Option R):SubB Tryz.prog (TIof Tryz.prog) 19 1 (qdo [.t 4] KK):=lpB tabOk follows Tryz.f125 37 (.s .z (.s (.s .z (.v [.sel [] [0]])) (.s (.b (.s .z (.s (.r [(3,.p (.etac 14 qb)),(5,.s (.sel [0,1,5,7,8,11,15] [0])),(5,.r q9r)] []) (.s (.s .z (.v [.sel [4] [0]])) .z)))) (.v [.sel [0,1,7,8] [0]])))) S23_ (qu (R:=R)) (fun f v K n=>f (v.l 0 0) (v.i 28 0) (qcu K) (qcw KK) n) (fun v f K=>qt (v.l 0 0) (v.i 28 0) (v.i 32 0) (v.b 3 0) (v.i 3 1) (v.i 3 2) (v.i 3 3) (v.i 3 4) (v.s 3 5) (v.s 3 6) (v.i 3 7) f (qcu K) (qcw KK)) (fun f v=>f (v.i 32 0) (v.b 3 0) (v.i 3 1) (v.i 3 2) (v.i 3 3) (v.i 3 4) (v.s 3 5) (v.s 3 6) (v.i 3 7)) (fun k v=>(fun z0 z1 z2 z3 z4 z5 z6 z7 z8=>k (((((((((v.ui 32 0 z0).ub 3 0 z1).ui 3 1 z2).ui 3 2 z3).ui 3 3 z4).ui 3 4 z5).us 3 5 z6).us 3 6 z7).ui 3 7 z8)))
def qha {R:Type}(KK:AV->Mem->Option R):=(fun v4 Av Aw Ax Ay Az A0 A1 A2=>KK (.int .i64 v4) (qh [(some (.box true (qn Av Aw Ax Ay Az A0 A1 A2)))]))
def qbk {R:Type}(v0:LA)(Av:Bool)(Aw Ax Ay Az:Int)(A0 A1:LU)(A2:Int)(kr:Int->Bool->Int->Int->Int->Int->(List UInt8)->(List UInt8)->Int->Option R):Option R:=
 (qc9 v0 (v0.length:Int) (fun b0_0q1 b0_1q2 b0_2q3 b0_3q4 b0_4q5 b0_5q6 b0_6q7 b0_7q8=>(kr (-1:Int) b0_0q1 b0_1q2 b0_2q3 b0_3q4 b0_4q5 b0_5q6 b0_6q7 b0_7q8)) kr FU (0:Int) Av Aw Ax Ay Az A0 A1 A2)
def qb2 {R:Type}:=hull (qbk (R:=R))
theorem qhb {R:Type}:qb2 (R:=R)=qbk:=qa _
def qho {R:Type}:RefB Tryz.prog R:=refB (nt:=19) (nb:=1) tabOk follows Tryz.func125 [.t 4] (fun KK=>.s .z (.s (.s .z (.b (.sub [.sel [0,1,7,8] [0]] (qf7 KK) []))) (.s .z (.v [.sel [4] [0]])))) S24_ (qbk (R:=R)) (fun f v KK=>f (v.l 0 0) (v.b 3 0) (v.i 3 1) (v.i 3 2) (v.i 3 3) (v.i 3 4) (v.s 3 5) (v.s 3 6) (v.i 3 7) (qha KK)) (by kernel_rfl) (by kernel_rfl) (fun _=>(by kernel_rfl)) rfl
def qf5 {R:Type}(KK:AV->Mem->Option R):=(fun v4 Av Aw Ax Ay Az A0 A1 A2=>KK (.bool v4) (qh [(some (.box true (qn Av Aw Ax Ay Az A0 A1 A2)))]))
def qbg {R:Type}(v0:LA)(Av:Bool)(Aw Ax Ay Az:Int)(A0 A1:LU)(A2:Int)(kr:Bool->Bool->Int->Int->Int->Int->(List UInt8)->(List UInt8)->Int->Option R):Option R:=
 (qb2 v0 Av Aw Ax Ay Az A0 A1 A2 fun v4q1 b0_0q2 b0_1q3 b0_2q4 b0_3q5 b0_4q6 b0_5q7 b0_6q8 b0_7q9=>(kr (decide (v4q1>=0)) b0_0q2 b0_1q3 b0_2q4 b0_3q5 b0_4q6 b0_5q7 b0_6q8 b0_7q9))
def qda {R:Type}:=hull (qbg (R:=R))
theorem qf6 {R:Type}:qda (R:=R)=qbg:=qa _
def qf8 {R:Type}:RefB Tryz.prog R:=refB (nt:=9) (nb:=1) tabOk follows Tryz.func65 [.t 4] (fun KK=>.s .z (.s (.r [(2,.s (.sel [5,6] [0])),(2,.r qho)] []) (.v [.sel [4] [0]]))) S24_ (qbg (R:=R)) (fun f v KK=>f (v.l 0 0) (v.b 3 0) (v.i 3 1) (v.i 3 2) (v.i 3 3) (v.i 3 4) (v.s 3 5) (v.s 3 6) (v.i 3 7) (qf5 KK)) (by kernel_rfl) (by kernel_rfl) (fun _=>(by kernel_rfl)) rfl
def S25_:Shp:=⟨[(0,.one (.l (.sl 8))),(1,.st (lk qb))],[]⟩
def ql2 (v0:LA)(B7:Bool)(B8 B9 Ca Cb:Int)(Cc Cd:LU)(Ce:Int):Option Bool:=
 (qda v0 B7 B8 B9 Ca Cb Cc Cd Ce fun v4q1 b0_0q2 b0_1q3 b0_2q4 b0_3q5 b0_4q6 b0_5q7 b0_6q8 b0_7q9=>(some v4q1))
def qou:=hull ql2
theorem qbcp:qou=ql2:=qa _
def qben {R:Type}:EntF Tryz.prog R:=entB (nt:=8) (dec:=decB) (enc:=AV.bool) tabOk follows Tryz.func92 [.t 4] hdeB (.s .z (.s (.r [(2,.s (.sel [5,6] [0])),(2,.r qf8)] []) .z)) S25_ ql2 (fun f v=>f (v.l 0 0) (v.b 5 0) (v.i 5 1) (v.i 5 2) (v.i 5 3) (v.i 5 4) (v.s 5 5) (v.s 5 6) (v.i 5 7))
def q9s {R:Type}(KK:AV->Mem->Option R):=(fun v3 Av Aw Ax Ay=>KK (.bool v3) (qh [(some (.box true (qc Av Aw Ax Ay)))]))
def qla {R:Type}(Aa:Bool)(Ab Ac Bt Bu:Int)(Bv Bw:LU)(Bx:Int)(Av:Bool)(Aw Ax Ay:Int)(kr:Bool->Bool->Int->Int->Int->Option R):Option R:=
 (oB (qud Aa Ab Ac Bt Av Aw Ax Ay) fun r1=>(kr r1 Av Aw Ax Ay))
def qt3 {R:Type}:=hull (qla (R:=R))
theorem q9t {R:Type}:qt3 (R:=R)=qla:=qa _
def qbcq {R:Type}:RefB Tryz.prog R:=refB (nt:=8) (nb:=1) tabOk follows Tryz.func143 [.t 3] (fun KK=>.s .z (.s (.r [(3,.c q04.b)] []) (.v [.sel [3] [0]]))) S13_ (qla (R:=R)) (fun f v KK=>f (v.b 1 0) (v.i 1 1) (v.i 1 2) (v.i 1 3) (v.i 1 4) (v.s 1 5) (v.s 1 6) (v.i 1 7) (v.b 3 0) (v.i 3 1) (v.i 3 2) (v.i 3 3) (q9s KK)) (by kernel_rfl) (by kernel_rfl) (fun _=>(by kernel_rfl)) rfl
def S26_:Shp:=⟨[(0,.one (.l (.sl 8))),(1,.one (.fn 143 [(0,0)])),(7,.one (.l (.i .i64))),(8,.one (.l (.i .i64)))],[.box true (lk qe)]⟩
def S27_:Shp:=⟨[(0,.one (.l (.sl 8))),(1,.one (.fn 143 [(0,0)]))],[.box true (lk qe)]⟩
def qcx {R:Type}(K:Ex->Env->Mem->Option R):=(fun z_b0_0 z_b0_1 z_b0_2 z_b0_3=>K (.exit 0) (qk []) (qh [(some (.box true (qc z_b0_0 z_b0_1 z_b0_2 z_b0_3)))]))
def qc4 {R:Type}(KK:AV->Mem->Option R):=(fun v4 Av Aw Ax Ay=>KK (.int .i64 v4) (qh [(some (.box true (qc Av Aw Ax Ay)))]))
def qw {R:Type}(v0:LA)(v7 v8:Int)(Av:Bool)(Aw Ax Ay:Int)(next:Int->Bool->Int->Int->Int->Option R)(kx0:Bool->Int->Int->Int->Option R)(kr:Int->Bool->Int->Int->Int->Option R):Option R:=
 (bif(decide (v8<v7))then(oB (ixB v0 v8) fun y1=>(bif fitC qb y1.cells then(qt3 (gB y1.cells 0) (gI y1.cells 1) (gI y1.cells 2) (gI y1.cells 3) (gI y1.cells 4) (gS y1.cells 5) (gS y1.cells 6) (gI y1.cells 7) Av Aw Ax Ay fun v3q2 b0_0q3 b0_1q4 b0_2q5 b0_3q6=>(bif v3q2 then(kr v8 b0_0q3 b0_1q4 b0_2q5 b0_3q6)else(next (IntKind.i64.wrap (v8+1)) b0_0q3 b0_1q4 b0_2q5 b0_3q6)))else none))else(kx0 Av Aw Ax Ay))
def qx {R:Type}(v0:LA)(v7:Int)(kx0:Bool->Int->Int->Int->Option R)(kr:Int->Bool->Int->Int->Int->Option R):Nat->Int->Bool->Int->Int->Int->Option R
 |0=>(fun _ _ _ _ _=>none)
 |n+1=>(fun v8 Av Aw Ax Ay=>qw v0 v7 v8 Av Aw Ax Ay (qx v0 v7 kx0 kr n) kx0 kr)
def qdg {R:Type}:=hull (qx (R:=R))
theorem qf9 {R:Type}:qdg (R:=R)=qx:=qa _
def qgg {R:Type}(KK:AV->Mem->Option R):SubB Tryz.prog (TIof Tryz.prog) 19 1 (qdo [.t 4] KK):=lpB tabOk follows Tryz.f125 37 (.s .z (.s (.s .z (.v [.sel [] [0]])) (.s (.b (.s .z (.s (.r [(3,.p (.etac 14 qb)),(5,.s (.sel [0,1,5,7,8,11,15] [0])),(5,.r qbcq)] []) (.s (.s .z (.v [.sel [4] [0]])) .z)))) (.v [.sel [0,1,7,8] [0]])))) S26_ (qx (R:=R)) (fun f v K n=>f (v.l 0 0) (v.i 28 0) (qcx K) (qc4 KK) n) (fun v f K=>qw (v.l 0 0) (v.i 28 0) (v.i 32 0) (v.b 3 0) (v.i 3 1) (v.i 3 2) (v.i 3 3) f (qcx K) (qc4 KK)) (fun f v=>f (v.i 32 0) (v.b 3 0) (v.i 3 1) (v.i 3 2) (v.i 3 3)) (fun k v=>(fun z0 z1 z2 z3 z4=>k (((((v.ui 32 0 z0).ub 3 0 z1).ui 3 1 z2).ui 3 2 z3).ui 3 3 z4)))
def qhp {R:Type}(KK:AV->Mem->Option R):=(fun v4 Av Aw Ax Ay=>KK (.int .i64 v4) (qh [(some (.box true (qc Av Aw Ax Ay)))]))
def qbn {R:Type}(v0:LA)(Av:Bool)(Aw Ax Ay:Int)(kr:Int->Bool->Int->Int->Int->Option R):Option R:=
 (qdg v0 (v0.length:Int) (fun b0_0q1 b0_1q2 b0_2q3 b0_3q4=>(kr (-1:Int) b0_0q1 b0_1q2 b0_2q3 b0_3q4)) kr FU (0:Int) Av Aw Ax Ay)
def qcb {R:Type}:=hull (qbn (R:=R))
theorem qhq {R:Type}:qcb (R:=R)=qbn:=qa _
def qhw {R:Type}:RefB Tryz.prog R:=refB (nt:=19) (nb:=1) tabOk follows Tryz.func125 [.t 4] (fun KK=>.s .z (.s (.s .z (.b (.sub [.sel [0,1,7,8] [0]] (qgg KK) []))) (.s .z (.v [.sel [4] [0]])))) S27_ (qbn (R:=R)) (fun f v KK=>f (v.l 0 0) (v.b 3 0) (v.i 3 1) (v.i 3 2) (v.i 3 3) (qhp KK)) (by kernel_rfl) (by kernel_rfl) (fun _=>(by kernel_rfl)) rfl
def qga {R:Type}(KK:AV->Mem->Option R):=(fun v4 Av Aw Ax Ay=>KK (.bool v4) (qh [(some (.box true (qc Av Aw Ax Ay)))]))
def qbh {R:Type}(v0:LA)(Av:Bool)(Aw Ax Ay:Int)(kr:Bool->Bool->Int->Int->Int->Option R):Option R:=
 (qcb v0 Av Aw Ax Ay fun v4q1 b0_0q2 b0_1q3 b0_2q4 b0_3q5=>(kr (decide (v4q1>=0)) b0_0q2 b0_1q3 b0_2q4 b0_3q5))
def qdh {R:Type}:=hull (qbh (R:=R))
theorem qgb {R:Type}:qdh (R:=R)=qbh:=qa _
def qgh {R:Type}:RefB Tryz.prog R:=refB (nt:=9) (nb:=1) tabOk follows Tryz.func65 [.t 4] (fun KK=>.s .z (.s (.r [(2,.s (.sel [5,6] [0])),(2,.r qhw)] []) (.v [.sel [4] [0]]))) S27_ (qbh (R:=R)) (fun f v KK=>f (v.l 0 0) (v.b 3 0) (v.i 3 1) (v.i 3 2) (v.i 3 3) (qga KK)) (by kernel_rfl) (by kernel_rfl) (fun _=>(by kernel_rfl)) rfl
def qne (v0:LA)(B7:Bool)(B8 B9 Ca:Int):Option Bool:=
 (qdh v0 B7 B8 B9 Ca fun v4q1 b0_0q2 b0_1q3 b0_2q4 b0_3q5=>(some v4q1))
def qq5:=hull qne
theorem qbeo:qq5=qne:=qa _
def q1l {R:Type}:EntF Tryz.prog R:=entB (nt:=8) (dec:=decB) (enc:=AV.bool) tabOk follows Tryz.func93 [.t 4] hdeB (.s .z (.s (.r [(2,.s (.sel [5,6] [0])),(2,.r qgh)] []) .z)) S16_ qne (fun f v=>f (v.l 0 0) (v.b 5 0) (v.i 5 1) (v.i 5 2) (v.i 5 3))
def S28_:Shp:=⟨[(0,.one (.l (.i .u64))),(1,.one (.l (.i .u64)))],[]⟩
def qu0 (v0 v1:Int):Option Int:=
 (bif(decide (v0<v1))then(some (-1:Int))else(bif(decide (v0>v1))then(some (1:Int))else(some (0:Int))))
def q6h:=hull qu0
theorem qbpn:q6h=qu0:=qa _
def qbce {R:Type}:EntF Tryz.prog R:=entB (nt:=13) (dec:=(decI .i64)) (enc:=(AV.int .i64)) tabOk follows Tryz.func184 [.t 4] hdeI (.z) S28_ qu0 (fun f v=>f (v.i 0 0) (v.i 4 0))
def S29_:Shp:=⟨[(0,.st (lk qd0)),(1,.st (lk qd0))],[]⟩
def qtb (Aa:Bool)(Ab Ac:Int)(B7:Bool)(B8 B9:Int):Option Int:=
 (bif((!((Aa==B7)&&true))&&B7)then(some (-1:Int))else(bif(!((Aa==B7)&&true))then(some (1:Int))else(bif(Ab != B8)then(oB (q6h Ab B8) fun r1=>(some r1))else(oB (q6h Ac B9) fun r2=>(some r2)))))
def qsb:=hull qtb
theorem qbmp:qsb=qtb:=qa _
def qys {R:Type}:EntF Tryz.prog R:=entB (nt:=37) (dec:=(decI .i64)) (enc:=(AV.int .i64)) tabOk follows Tryz.func166 [.t 4] hdeI (.s .z (.s (.b (.s (.r [(6,.g 2)] []) (.s .z (.s .z (.s .z (.s .z (.s (.s (.r [(4,.c qbce.b)] []) .z) .z))))))) (.s (.r [(4,.c qbce.b)] []) .z))) S29_ qtb (fun f v=>f (v.b 1 0) (v.i 1 1) (v.i 1 2) (v.b 5 0) (v.i 5 1) (v.i 5 2))
def qov (Aa:Bool)(Ab Ac Bt:Int)(B7:Bool)(B8 B9 Ca:Int):Option Int:=
 (oB (qsb Aa Ab Ac B7 B8 B9) fun r1=>(bif(r1 != (0:Int))then(some r1)else(bif(decide (Bt<Ca))then(some (-1:Int))else(bif(decide (Bt>Ca))then(some (1:Int))else(some (0:Int))))))
def qyt:=hull qov
theorem qbig:qyt=qov:=qa _
def qbks {R:Type}:EntF Tryz.prog R:=entB (nt:=26) (dec:=(decI .i64)) (enc:=(AV.int .i64)) tabOk follows Tryz.func110 [.t 4] hdeI (.s .z (.s (.s (.r [(4,.c qys.b)] []) .z) .z)) S20_ qov (fun f v=>f (v.b 1 0) (v.i 1 1) (v.i 1 2) (v.i 1 3) (v.b 5 0) (v.i 5 1) (v.i 5 2) (v.i 5 3))
def qbep {R:Type}(KK:AV->Mem->Option R):=(fun v3 Av Aw Ax Ay Az A0 A1 A2=>KK (.bool v3) (qh [(some (.box true (qn Av Aw Ax Ay Az A0 A1 A2)))]))
def qnf {R:Type}(Aa:Bool)(Ab Ac Bt Bu:Int)(Bv Bw:LU)(Bx:Int)(Av:Bool)(Aw Ax Ay Az:Int)(A0 A1:LU)(A2:Int)(kr:Bool->Bool->Int->Int->Int->Int->(List UInt8)->(List UInt8)->Int->Option R):Option R:=
 (oB (qyt Aa Ab Ac Bt Av Aw Ax Ay) fun r1=>(kr (decide (r1>0)) Av Aw Ax Ay Az A0 A1 A2))
def qwy {R:Type}:=hull (qnf (R:=R))
theorem qbeq {R:Type}:qwy (R:=R)=qnf:=qa _
def qbih {R:Type}:RefB Tryz.prog R:=refB (nt:=10) (nb:=1) tabOk follows Tryz.func144 [.t 3] (fun KK=>.s .z (.s (.r [(4,.c qbks.b)] []) (.v [.sel [3] [0]]))) S22_ (qnf (R:=R)) (fun f v KK=>f (v.b 1 0) (v.i 1 1) (v.i 1 2) (v.i 1 3) (v.i 1 4) (v.s 1 5) (v.s 1 6) (v.i 1 7) (v.b 3 0) (v.i 3 1) (v.i 3 2) (v.i 3 3) (v.i 3 4) (v.s 3 5) (v.s 3 6) (v.i 3 7) (qbep KK)) (by kernel_rfl) (by kernel_rfl) (fun _=>(by kernel_rfl)) rfl
def S30_:Shp:=⟨[(0,.one (.l (.sl 8))),(1,.one (.fn 144 [(0,0)])),(7,.one (.l (.i .i64))),(8,.one (.l (.i .i64)))],[.box true (lk qb)]⟩
def S31_:Shp:=⟨[(0,.one (.l (.sl 8))),(1,.one (.fn 144 [(0,0)]))],[.box true (lk qb)]⟩
def qc5 {R:Type}(K:Ex->Env->Mem->Option R):=(fun z_b0_0 z_b0_1 z_b0_2 z_b0_3 z_b0_4 z_b0_5 z_b0_6 z_b0_7=>K (.exit 0) (qk []) (qh [(some (.box true (qn z_b0_0 z_b0_1 z_b0_2 z_b0_3 z_b0_4 z_b0_5 z_b0_6 z_b0_7)))]))
def qdb {R:Type}(KK:AV->Mem->Option R):=(fun v4 Av Aw Ax Ay Az A0 A1 A2=>KK (.int .i64 v4) (qh [(some (.box true (qn Av Aw Ax Ay Az A0 A1 A2)))]))
def qy {R:Type}(v0:LA)(v7 v8:Int)(Av:Bool)(Aw Ax Ay Az:Int)(A0 A1:LU)(A2:Int)(next:Int->Bool->Int->Int->Int->Int->(List UInt8)->(List UInt8)->Int->Option R)(kx0:Bool->Int->Int->Int->Int->(List UInt8)->(List UInt8)->Int->Option R)(kr:Int->Bool->Int->Int->Int->Int->(List UInt8)->(List UInt8)->Int->Option R):Option R:=
 (bif(decide (v8<v7))then(oB (ixB v0 v8) fun y1=>(bif fitC qb y1.cells then(qwy (gB y1.cells 0) (gI y1.cells 1) (gI y1.cells 2) (gI y1.cells 3) (gI y1.cells 4) (gS y1.cells 5) (gS y1.cells 6) (gI y1.cells 7) Av Aw Ax Ay Az A0 A1 A2 fun v3q2 b0_0q3 b0_1q4 b0_2q5 b0_3q6 b0_4q7 b0_5q8 b0_6q9 b0_7q10=>(bif v3q2 then(kr v8 b0_0q3 b0_1q4 b0_2q5 b0_3q6 b0_4q7 b0_5q8 b0_6q9 b0_7q10)else(next (IntKind.i64.wrap (v8+1)) b0_0q3 b0_1q4 b0_2q5 b0_3q6 b0_4q7 b0_5q8 b0_6q9 b0_7q10)))else none))else(kx0 Av Aw Ax Ay Az A0 A1 A2))
def qz {R:Type}(v0:LA)(v7:Int)(kx0:Bool->Int->Int->Int->Int->(List UInt8)->(List UInt8)->Int->Option R)(kr:Int->Bool->Int->Int->Int->Int->(List UInt8)->(List UInt8)->Int->Option R):Nat->Int->Bool->Int->Int->Int->Int->(List UInt8)->(List UInt8)->Int->Option R
 |0=>(fun _ _ _ _ _ _ _ _ _=>none)
 |n+1=>(fun v8 Av Aw Ax Ay Az A0 A1 A2=>qy v0 v7 v8 Av Aw Ax Ay Az A0 A1 A2 (qz v0 v7 kx0 kr n) kx0 kr)
def qdp {R:Type}:=hull (qz (R:=R))
theorem qhc {R:Type}:qdp (R:=R)=qz:=qa _
def qhr {R:Type}(KK:AV->Mem->Option R):SubB Tryz.prog (TIof Tryz.prog) 19 1 (qdo [.t 4] KK):=lpB tabOk follows Tryz.f125 37 (.s .z (.s (.s .z (.v [.sel [] [0]])) (.s (.b (.s .z (.s (.r [(3,.p (.etac 14 qb)),(5,.s (.sel [0,1,5,7,8,11,15] [0])),(5,.r qbih)] []) (.s (.s .z (.v [.sel [4] [0]])) .z)))) (.v [.sel [0,1,7,8] [0]])))) S30_ (qz (R:=R)) (fun f v K n=>f (v.l 0 0) (v.i 28 0) (qc5 K) (qdb KK) n) (fun v f K=>qy (v.l 0 0) (v.i 28 0) (v.i 32 0) (v.b 3 0) (v.i 3 1) (v.i 3 2) (v.i 3 3) (v.i 3 4) (v.s 3 5) (v.s 3 6) (v.i 3 7) f (qc5 K) (qdb KK)) (fun f v=>f (v.i 32 0) (v.b 3 0) (v.i 3 1) (v.i 3 2) (v.i 3 3) (v.i 3 4) (v.s 3 5) (v.s 3 6) (v.i 3 7)) (fun k v=>(fun z0 z1 z2 z3 z4 z5 z6 z7 z8=>k (((((((((v.ui 32 0 z0).ub 3 0 z1).ui 3 1 z2).ui 3 2 z3).ui 3 3 z4).ui 3 4 z5).us 3 5 z6).us 3 6 z7).ui 3 7 z8)))
def qh6 {R:Type}(KK:AV->Mem->Option R):=(fun v4 Av Aw Ax Ay Az A0 A1 A2=>KK (.int .i64 v4) (qh [(some (.box true (qn Av Aw Ax Ay Az A0 A1 A2)))]))
def qbr {R:Type}(v0:LA)(Av:Bool)(Aw Ax Ay Az:Int)(A0 A1:LU)(A2:Int)(kr:Int->Bool->Int->Int->Int->Int->(List UInt8)->(List UInt8)->Int->Option R):Option R:=
 (qdp v0 (v0.length:Int) (fun b0_0q1 b0_1q2 b0_2q3 b0_3q4 b0_4q5 b0_5q6 b0_6q7 b0_7q8=>(kr (-1:Int) b0_0q1 b0_1q2 b0_2q3 b0_3q4 b0_4q5 b0_5q6 b0_6q7 b0_7q8)) kr FU (0:Int) Av Aw Ax Ay Az A0 A1 A2)
def qcd {R:Type}:=hull (qbr (R:=R))
theorem qh7 {R:Type}:qcd (R:=R)=qbr:=qa _
def qih {R:Type}:RefB Tryz.prog R:=refB (nt:=19) (nb:=1) tabOk follows Tryz.func125 [.t 4] (fun KK=>.s .z (.s (.s .z (.b (.sub [.sel [0,1,7,8] [0]] (qhr KK) []))) (.s .z (.v [.sel [4] [0]])))) S31_ (qbr (R:=R)) (fun f v KK=>f (v.l 0 0) (v.b 3 0) (v.i 3 1) (v.i 3 2) (v.i 3 3) (v.i 3 4) (v.s 3 5) (v.s 3 6) (v.i 3 7) (qh6 KK)) (by kernel_rfl) (by kernel_rfl) (fun _=>(by kernel_rfl)) rfl
def qbsn {R:Type}(vs:LA)(m:Mem)(K:AV->Mem->Option R):Option R:=q0v 8 80 vs m K
theorem qbso {R:Type}:qm4 Tryz.prog 145 (qbsn (R:=R)):=qbrv (ρ:=q55 145 177 178 0 3 4 22 33) tabOk (qbon follows "slices.Insert[[]ddi/api.Block,ddi/api.Block]" (by kernel_rfl) (by kernel_rfl) Tryz.func177 (by kernel_rfl) (by kernel_rfl) (by kernel_rfl) (by kernel_rfl) (by kernel_rfl) (by kernel_rfl) (by kernel_rfl) (by kernel_rfl) (by kernel_rfl) (by kernel_rfl) (by kernel_rfl) (by kernel_rfl) (by kernel_rfl) (by kernel_rfl) (by kernel_rfl) (by kernel_rfl) (by kernel_rfl)) (by kernel_rfl) (by kernel_rfl) (by decide) (by decide)
def S32_:Shp:=⟨[(0,.one (.l (.sl 8))),(3,.one (.ptr 0 0)),(5,.one (.l (.i .i64)))],[.box true (lk qb)]⟩
def qbcr (v0:LA)(Av:Bool)(Aw Ax Ay Az:Int)(A0 A1:LU)(A2:Int)(K:Ex->Env->Mem->Option (List AV)):=(fun z_v5=>K .norm (qk [(0,(.sl 8 v0)),(3,(.ptr 0 0)),(5,(.int .i64 z_v5))]) (qh [(some (.box true (qn Av Aw Ax Ay Az A0 A1 A2)))]))
def ql3 (v0:LA)(v5:Int)(Av:Bool)(Aw Ax Ay Az:Int)(A0 A1:LU)(A2:Int)(kn:Int->Option (List AV)):Option (List AV):=
 (bif(decide (v5<0))then(kn (v0.length:Int))else(kn v5))
def q29:=hull (ql3)
theorem qbcs:q29=ql3:=qa _
def qber:SubB Tryz.prog (TIof Tryz.prog) 19 0 (kret [.t 4] (decF true 8)):=jnB tabOk follows Tryz.f94 11 (.s .z (.s (.v [.sel [0,3,5] [0]]) (.v [.sel [0,3,5] [0]]))) S32_ (ql3) (fun f v K=>f (v.l 0 0) (v.i 20 0) (v.b 3 0) (v.i 3 1) (v.i 3 2) (v.i 3 3) (v.i 3 4) (v.s 3 5) (v.s 3 6) (v.i 3 7) (qbcr (v.l 0 0) (v.b 3 0) (v.i 3 1) (v.i 3 2) (v.i 3 3) (v.i 3 4) (v.s 3 5) (v.s 3 6) (v.i 3 7) K))
def qq6 (v0:LA)(B7:Bool)(B8 B9 Ca Cb:Int)(Cc Cd:LU)(Ce:Int):Option (List AV):=
 (qcd v0 B7 B8 B9 Ca Cb Cc Cd Ce fun v4q1 b0_0q2 b0_1q3 b0_2q4 b0_3q5 b0_4q6 b0_5q7 b0_6q8 b0_7q9=>(q29 v0 v4q1 b0_0q2 b0_1q3 b0_2q4 b0_3q5 b0_4q6 b0_5q7 b0_6q8 b0_7q9 (fun v5q10=>(oB (qr v0) fun r11=>(bif hd r11 r11.length then(bif hd ([(.agg [(.bool b0_0q2),(.int .u64 b0_1q3),(.int .u64 b0_2q4),(.int .i64 b0_3q5),(.int .i64 b0_4q6),(.str b0_5q7),(.str b0_6q8),(.int .i64 b0_7q9)])]:List AV) (([(.agg [(.bool b0_0q2),(.int .u64 b0_1q3),(.int .u64 b0_2q4),(.int .i64 b0_3q5),(.int .i64 b0_4q6),(.str b0_5q7),(.str b0_6q8),(.int .i64 b0_7q9)])]:List AV).length)then(oB (qoi 80 r11 v5q10 ([(.agg [(.bool b0_0q2),(.int .u64 b0_1q3),(.int .u64 b0_2q4),(.int .i64 b0_3q5),(.int .i64 b0_4q6),(.str b0_5q7),(.str b0_6q8),(.int .i64 b0_7q9)])]:List AV)) fun r12=>(bif hd r12 r12.length then(some r12)else none))else none)else none)))))
def q06:=hull qq6
theorem qbkt:q06=qq6:=qa _
def qbmq {R:Type}:EntF Tryz.prog R:=entB (nt:=19) (dec:=(decF true 8)) (enc:=(AV.fr true 8)) tabOk follows Tryz.func94 [.t 4] hdeF (.s .z (.s (.r [(2,.s (.sel [0,3,6,7] [0])),(2,.r qih)] []) (.s (.sub [.sel [0,3,5] [0]] qber []) (.s (.d3 [] [14,17] [(1,.c (eB qel))] [(0,.r (rB qbso))] []) .z)))) S25_ qq6 (fun f v=>f (v.l 0 0) (v.b 5 0) (v.i 5 1) (v.i 5 2) (v.i 5 3) (v.i 5 4) (v.s 5 5) (v.s 5 6) (v.i 5 7))
def S33_:Shp:=⟨[(0,.one (.l (.sl 8))),(3,.one (.ptr 0 0))],[.box true (lk qb)]⟩
def q7g:AV->Option ((List AV)×Int):=decN [(.one (.sl 8)),(.one (.i .i64))] fun z=>(aL (gC (tpL z) 0),aI (gC (tpL z) 1))
def qbii (v0:LA)(Av:Bool)(Aw Ax Ay Az:Int)(A0 A1:LU)(A2:Int)(K:Ex->Env->Mem->Option ((List AV)×Int)):=(fun z_v25=>K .norm (qk [(0,(.sl 8 v0)),(3,(.ptr 0 0)),(25,(.bool z_v25))]) (qh [(some (.box true (qn Av Aw Ax Ay Az A0 A1 A2)))]))
def qow (v0:LA)(Av:Bool)(Aw Ax Ay Az:Int)(A0 A1:LU)(A2:Int)(kn:Bool->Option ((List AV)×Int)):Option ((List AV)×Int):=
 (oB (qou v0 Av Aw Ax Ay Az A0 A1 A2) fun r1=>(bif r1 then(kn true)else(oB (qq5 v0 Av Aw Ax Ay) fun r2=>(kn r2))))
def q7h:=hull (qow)
theorem qbij:q7h=qow:=qa _
def qbku:SubB Tryz.prog (TIof Tryz.prog) 32 0 (kret [.t 4,.t 5] q7g):=jnB tabOk follows Tryz.f37 39 (.r [(2,.c qben.b),(7,.c q1l.b)] [.sel [0,3,25] [0]]) S33_ (qow) (fun f v K=>f (v.l 0 0) (v.b 3 0) (v.i 3 1) (v.i 3 2) (v.i 3 3) (v.i 3 4) (v.s 3 5) (v.s 3 6) (v.i 3 7) (qbii (v.l 0 0) (v.b 3 0) (v.i 3 1) (v.i 3 2) (v.i 3 3) (v.i 3 4) (v.s 3 5) (v.s 3 6) (v.i 3 7) K))
def qwz (v0:LA)(B7:Bool)(B8 B9 Ca Cb:Int)(Cc Cd:LU)(Ce:Int):Option ((List AV)×Int):=
 (oB (qwx B7 B8 B9 Ca Cb Cc Cd Ce) fun r1=>(bif(r1 != (0:Int))then(some (([]:List AV),r1))else(oB (qr9 v0 B7 B8 B9 Ca) fun r2=>(bif(decide (r2>=0))then(some (([]:List AV),(12:Int)))else(q7h v0 B7 B8 B9 Ca Cb Cc Cd Ce (fun v25q3=>(bif v25q3 then(some (([]:List AV),(24:Int)))else(bif(decide ((v0.length:Int)>=512))then(some (([]:List AV),(9:Int)))else(oB (q06 v0 B7 B8 B9 Ca Cb Cc Cd Ce) fun r4=>(some (r4,(0:Int))))))))))))
def q2a:=hull qwz
theorem qbsp:q2a=qwz:=qa _
def qbes {R:Type}:EntF Tryz.prog R:=entB (nt:=32) (dec:=q7g) (enc:=(fun r=>.tup [.sl 8 r.1,.int .i64 r.2])) tabOk follows Tryz.func37 [.t 4,.t 5] (hdeN fun _=>rfl) (.s .z (.s (.s (.r [(1,.c qbpk.b)] []) (.s .z (.s (.s .z (.v [.eta 4 (.one (.sl 8))])) .z))) (.s (.s (.r [(3,.c qyr.b)] []) (.s (.s .z (.v [.eta 4 (.one (.sl 8))])) .z)) (.s (.s (.sub [.sel [0,3] [0]] qbku []) (.s (.s .z (.v [.eta 4 (.one (.sl 8))])) .z)) (.s (.s .z (.s (.s .z (.v [.eta 4 (.one (.sl 8))])) .z)) (.s (.r [(2,.k qbmq.b)] []) .z)))))) S25_ qwz (fun f v=>f (v.l 0 0) (v.b 5 0) (v.i 5 1) (v.i 5 2) (v.i 5 3) (v.i 5 4) (v.s 5 5) (v.s 5 6) (v.i 5 7))
def qbsq {R:Type}(vs:LA)(m:Mem)(K:AV->Mem->Option R):Option R:=q0u 8 vs m K
theorem qbsr {R:Type}:qm4 Tryz.prog 146 (qbsq (R:=R)):=qbru (ρ:=q54 146 0 3 4 22 33) tabOk (qbom follows "slices.Delete[[]ddi/api.Block,ddi/api.Block]" (by kernel_rfl) (by kernel_rfl) (by kernel_rfl) (by kernel_rfl) (by kernel_rfl) (by kernel_rfl) (by kernel_rfl) (by kernel_rfl) (by kernel_rfl) (by kernel_rfl) (by kernel_rfl) (by kernel_rfl) (by kernel_rfl) (by kernel_rfl)) (by kernel_rfl) (by decide)
def S34_:Shp:=⟨[(0,.one (.l (.sl 8))),(1,.one (.l (.i .i64)))],[]⟩
def qox (v0:LA)(v1:Int):Option (List AV):=
 (oB (qr v0) fun r1=>(bif hd r1 r1.length then(oB (qwn r1 v1 (IntKind.i64.wrap (v1+1))) fun r2=>(bif hd r2 r2.length then(some r2)else none))else none))
def qtc:=hull qox
theorem qbik:qtc=qox:=qa _
def qbkv {R:Type}:EntF Tryz.prog R:=entB (nt:=11) (dec:=(decF true 8)) (enc:=(AV.fr true 8)) tabOk follows Tryz.func95 [.t 4] hdeF (.s .z (.s (.r [(1,.c (eB qel)),(5,.r (rB qbsr))] []) .z)) S34_ qox (fun f v=>f (v.l 0 0) (v.i 4 0))
def qbil:AV->Option ((List AV)×Int):=decN [(.one (.sl 8)),(.one (.i .i64))] fun z=>(aL (gC (tpL z) 0),aI (gC (tpL z) 1))
def qq7 (v0:LA)(B7:Bool)(B8 B9 Ca:Int):Option ((List AV)×Int):=
 (oB (qr9 v0 B7 B8 B9 Ca) fun r1=>(bif(decide (r1<0))then(some (([]:List AV),(11:Int)))else(oB (qq5 v0 B7 B8 B9 Ca) fun r2=>(bif r2 then(some (([]:List AV),(25:Int)))else(oB (qtc v0 r1) fun r3=>(some (r3,(0:Int))))))))
def q07:=hull qq7
theorem qbkw:q07=qq7:=qa _
def qbmr {R:Type}:EntF Tryz.prog R:=entB (nt:=18) (dec:=qbil) (enc:=(fun r=>.tup [.sl 8 r.1,.int .i64 r.2])) tabOk follows Tryz.func38 [.t 4,.t 5] (hdeN fun _=>rfl) (.s .z (.s (.r [(2,.c qyr.b)] []) (.s (.s .z (.s (.s .z (.v [.eta 4 (.one (.sl 8))])) .z)) (.s (.s (.r [(2,.c q1l.b)] []) (.s (.s .z (.v [.eta 4 (.one (.sl 8))])) .z)) (.s (.r [(2,.k qbkv.b)] []) .z))))) S16_ qq7 (fun f v=>f (v.l 0 0) (v.b 5 0) (v.i 5 1) (v.i 5 2) (v.i 5 3))
def qj:List LT:=[.s,.b,(.i .u64),(.i .u64),(.i .i64)]
def S35_:Shp:=⟨[(0,.st (lk qb)),(1,.one (.ptr 1 0))],[.box true (lk qb),.box true (lk qd0),.box true (lk qb),.box true (lk qb),.box true (lk qb)]⟩
def qbet {R:Type}(KK:AV->Mem->Option R):=(fun v3 Av Aw Ax Ay Az A0 A1 A2 Ad Ae Af Au Bc Bd Be Bf Bg Bh Bi Cf Cg Ch Ci Cj Ck Cl Cm Cn Co Cp Cq Cr Cs Ct Cu=>KK (.bool v3) (qh [(some (.box true (qn Av Aw Ax Ay Az A0 A1 A2))),(some (.box true (qhd Ad Ae Af))),(some (.box true (qn Au Bc Bd Be Bf Bg Bh Bi))),(some (.box true (qn Cf Cg Ch Ci Cj Ck Cl Cm))),(some (.box true (qn Cn Co Cp Cq Cr Cs Ct Cu)))]))
def qng {R:Type}(Aa:Bool)(Ab Ac Bt Bu:Int)(Bv Bw:LU)(Bx:Int)(Av:Bool)(Aw Ax Ay Az:Int)(A0 A1:LU)(A2:Int)(Ad:Bool)(Ae Af:Int)(Au:Bool)(Bc Bd Be Bf:Int)(Bg Bh:LU)(Bi:Int)(Cf:Bool)(Cg Ch Ci Cj:Int)(Ck Cl:LU)(Cm:Int)(Cn:Bool)(Co Cp Cq Cr:Int)(Cs Ct:LU)(Cu:Int)(kr:Bool->Bool->Int->Int->Int->Int->(List UInt8)->(List UInt8)->Int->Bool->Int->Int->Bool->Int->Int->Int->Int->(List UInt8)->(List UInt8)->Int->Bool->Int->Int->Int->Int->(List UInt8)->(List UInt8)->Int->Bool->Int->Int->Int->Int->(List UInt8)->(List UInt8)->Int->Option R):Option R:=
 (oB (qq2 Aa Ab Ac Bt Ad Ae Af) fun r1=>(kr r1 Av Aw Ax Ay Az A0 A1 A2 Ad Ae Af Au Bc Bd Be Bf Bg Bh Bi Cf Cg Ch Ci Cj Ck Cl Cm Cn Co Cp Cq Cr Cs Ct Cu))
def q5b {R:Type}:=hull (qng (R:=R))
theorem qbeu {R:Type}:q5b (R:=R)=qng:=qa _
def qbim {R:Type}:RefB Tryz.prog R:=refB (nt:=8) (nb:=5) tabOk follows Tryz.func148 [.t 3] (fun KK=>.s .z (.s (.r [(3,.c q1k.b)] []) (.v [.sel [3] [0,1,2,3,4]]))) S35_ (qng (R:=R)) (fun f v KK=>f (v.b 1 0) (v.i 1 1) (v.i 1 2) (v.i 1 3) (v.i 1 4) (v.s 1 5) (v.s 1 6) (v.i 1 7) (v.b 3 0) (v.i 3 1) (v.i 3 2) (v.i 3 3) (v.i 3 4) (v.s 3 5) (v.s 3 6) (v.i 3 7) (v.b 7 0) (v.i 7 1) (v.i 7 2) (v.b 11 0) (v.i 11 1) (v.i 11 2) (v.i 11 3) (v.i 11 4) (v.s 11 5) (v.s 11 6) (v.i 11 7) (v.b 15 0) (v.i 15 1) (v.i 15 2) (v.i 15 3) (v.i 15 4) (v.s 15 5) (v.s 15 6) (v.i 15 7) (v.b 19 0) (v.i 19 1) (v.i 19 2) (v.i 19 3) (v.i 19 4) (v.s 19 5) (v.s 19 6) (v.i 19 7) (qbet KK)) (by kernel_rfl) (by kernel_rfl) (fun _=>(by kernel_rfl)) rfl
def S36_:Shp:=⟨[(1,.one (.fn 148 [(1,0)])),(4,.one (.ptr 2 0)),(6,.one (.ptr 3 0)),(7,.one (.l .b)),(9,.one (.ptr 4 0)),(10,.one (.l (.sl 8))),(11,.one (.l (.i .i64))),(12,.one (.l (.i .i64)))],[.box true (lk qb),.box true (lk qd0),.box true (lk qb),.box true (lk qb),.box true (lk qb)]⟩
def S37_:Shp:=⟨[(1,.one (.fn 148 [(1,0)])),(4,.one (.ptr 2 0)),(6,.one (.ptr 3 0)),(7,.one (.l .b)),(10,.one (.l (.sl 8))),(11,.one (.l (.i .i64))),(12,.one (.l (.i .i64)))],[.box true (lk qb),.box true (lk qd0),.box true (lk qb),.box true (lk qb)]⟩
def S38_:Shp:=⟨[(0,.one (.l (.sl 8))),(1,.one (.fn 148 [(1,0)]))],[.box true (lk qb),.box true (lk qd0)]⟩
def qql {R:Type}(v7:Bool)(v10:LA)(v11 v12:Int)(K:Ex->Env->Mem->Option R):=(fun z_v31 z_b0_0 z_b0_1 z_b0_2 z_b0_3 z_b0_4 z_b0_5 z_b0_6 z_b0_7 z_b1_0 z_b1_1 z_b1_2 z_b2_0 z_b2_1 z_b2_2 z_b2_3 z_b2_4 z_b2_5 z_b2_6 z_b2_7 z_b3_0 z_b3_1 z_b3_2 z_b3_3 z_b3_4 z_b3_5 z_b3_6 z_b3_7 z_b4_0 z_b4_1 z_b4_2 z_b4_3 z_b4_4 z_b4_5 z_b4_6 z_b4_7=>K .norm (qk [(1,(.func 148 [(.ptr 1 0)])),(4,(.ptr 2 0)),(6,(.ptr 3 0)),(7,(.bool v7)),(9,(.ptr 4 0)),(10,(.sl 8 v10)),(11,(.int .i64 v11)),(12,(.int .i64 v12)),(31,(.bool z_v31))]) (qh [(some (.box true (qn z_b0_0 z_b0_1 z_b0_2 z_b0_3 z_b0_4 z_b0_5 z_b0_6 z_b0_7))),(some (.box true (qhd z_b1_0 z_b1_1 z_b1_2))),(some (.box true (qn z_b2_0 z_b2_1 z_b2_2 z_b2_3 z_b2_4 z_b2_5 z_b2_6 z_b2_7))),(some (.box true (qn z_b3_0 z_b3_1 z_b3_2 z_b3_3 z_b3_4 z_b3_5 z_b3_6 z_b3_7))),(some (.box true (qn z_b4_0 z_b4_1 z_b4_2 z_b4_3 z_b4_4 z_b4_5 z_b4_6 z_b4_7)))]))
def qc1 {R:Type}(v7:Bool)(v10:LA)(v11 v12:Int)(Av:Bool)(Aw Ax Ay Az:Int)(A0 A1:LU)(A2:Int)(Ad:Bool)(Ae Af:Int)(Au:Bool)(Bc Bd Be Bf:Int)(Bg Bh:LU)(Bi:Int)(Cf:Bool)(Cg Ch Ci Cj:Int)(Ck Cl:LU)(Cm:Int)(Cn:Bool)(Co Cp Cq Cr:Int)(Cs Ct:LU)(Cu:Int)(kn:Bool->Bool->Int->Int->Int->Int->(List UInt8)->(List UInt8)->Int->Bool->Int->Int->Bool->Int->Int->Int->Int->(List UInt8)->(List UInt8)->Int->Bool->Int->Int->Int->Int->(List UInt8)->(List UInt8)->Int->Bool->Int->Int->Int->Int->(List UInt8)->(List UInt8)->Int->Option R):Option R:=
 (q5b Cn Co Cp Cq Cr Cs Ct Cu Av Aw Ax Ay Az A0 A1 A2 Ad Ae Af Au Bc Bd Be Bf Bg Bh Bi Cf Cg Ch Ci Cj Ck Cl Cm Cn Co Cp Cq Cr Cs Ct Cu fun v3q1 b0_0q2 b0_1q3 b0_2q4 b0_3q5 b0_4q6 b0_5q7 b0_6q8 b0_7q9 b1_0q10 b1_1q11 b1_2q12 b2_0q13 b2_1q14 b2_2q15 b2_3q16 b2_4q17 b2_5q18 b2_6q19 b2_7q20 b3_0q21 b3_1q22 b3_2q23 b3_3q24 b3_4q25 b3_5q26 b3_6q27 b3_7q28 b4_0q29 b4_1q30 b4_2q31 b4_3q32 b4_4q33 b4_5q34 b4_6q35 b4_7q36=>(bif v3q1 then(bif(!v7)then(kn true b0_0q2 b0_1q3 b0_2q4 b0_3q5 b0_4q6 b0_5q7 b0_6q8 b0_7q9 b1_0q10 b1_1q11 b1_2q12 b2_0q13 b2_1q14 b2_2q15 b2_3q16 b2_4q17 b2_5q18 b2_6q19 b2_7q20 b3_0q21 b3_1q22 b3_2q23 b3_3q24 b3_4q25 b3_5q26 b3_6q27 b3_7q28 b4_0q29 b4_1q30 b4_2q31 b4_3q32 b4_4q33 b4_5q34 b4_6q35 b4_7q36)else(kn (decide (b4_3q32>b3_3q24)) b0_0q2 b0_1q3 b0_2q4 b0_3q5 b0_4q6 b0_5q7 b0_6q8 b0_7q9 b1_0q10 b1_1q11 b1_2q12 b2_0q13 b2_1q14 b2_2q15 b2_3q16 b2_4q17 b2_5q18 b2_6q19 b2_7q20 b3_0q21 b3_1q22 b3_2q23 b3_3q24 b3_4q25 b3_5q26 b3_6q27 b3_7q28 b4_0q29 b4_1q30 b4_2q31 b4_3q32 b4_4q33 b4_5q34 b4_6q35 b4_7q36))else(kn false b0_0q2 b0_1q3 b0_2q4 b0_3q5 b0_4q6 b0_5q7 b0_6q8 b0_7q9 b1_0q10 b1_1q11 b1_2q12 b2_0q13 b2_1q14 b2_2q15 b2_3q16 b2_4q17 b2_5q18 b2_6q19 b2_7q20 b3_0q21 b3_1q22 b3_2q23 b3_3q24 b3_4q25 b3_5q26 b3_6q27 b3_7q28 b4_0q29 b4_1q30 b4_2q31 b4_3q32 b4_4q33 b4_5q34 b4_6q35 b4_7q36)))
def qjd {R:Type}:=hull (qc1 (R:=R))
theorem qqm {R:Type}:qjd (R:=R)=qc1:=qa _
def qr2 {R:Type}(KK:AV->Mem->Option R):SubB Tryz.prog (TIof Tryz.prog) 36 2 (qdo [(.cell 4 true 8),.t 5] KK):=jnB tabOk follows Tryz.f147 10647 (.r [(2,.s (.sel [1,4,6,7,9,10,11,12,16,17] [0,1,2,3,4])),(2,.r qbim)] [.sel [1,4,6,7,9,10,11,12,31] [0,1,2,3,4]]) S36_ (qc1 (R:=R)) (fun f v K=>f (v.b 28 0) (v.l 40 0) (v.i 44 0) (v.i 48 0) (v.b 3 0) (v.i 3 1) (v.i 3 2) (v.i 3 3) (v.i 3 4) (v.s 3 5) (v.s 3 6) (v.i 3 7) (v.b 7 0) (v.i 7 1) (v.i 7 2) (v.b 11 0) (v.i 11 1) (v.i 11 2) (v.i 11 3) (v.i 11 4) (v.s 11 5) (v.s 11 6) (v.i 11 7) (v.b 15 0) (v.i 15 1) (v.i 15 2) (v.i 15 3) (v.i 15 4) (v.s 15 5) (v.s 15 6) (v.i 15 7) (v.b 19 0) (v.i 19 1) (v.i 19 2) (v.i 19 3) (v.i 19 4) (v.s 19 5) (v.s 19 6) (v.i 19 7) (qql (v.b 28 0) (v.l 40 0) (v.i 44 0) (v.i 48 0) K))
def qhe {R:Type}(K:Ex->Env->Mem->Option R):=(fun z_v7 z_b0_0 z_b0_1 z_b0_2 z_b0_3 z_b0_4 z_b0_5 z_b0_6 z_b0_7 z_b1_0 z_b1_1 z_b1_2 z_b2_0 z_b2_1 z_b2_2 z_b2_3 z_b2_4 z_b2_5 z_b2_6 z_b2_7 z_b3_0 z_b3_1 z_b3_2 z_b3_3 z_b3_4 z_b3_5 z_b3_6 z_b3_7=>K (.exit 0) (qk [(4,(.ptr 2 0)),(6,(.ptr 3 0)),(7,(.bool z_v7))]) (qh [(some (.box true (qn z_b0_0 z_b0_1 z_b0_2 z_b0_3 z_b0_4 z_b0_5 z_b0_6 z_b0_7))),(some (.box true (qhd z_b1_0 z_b1_1 z_b1_2))),(some (.box true (qn z_b2_0 z_b2_1 z_b2_2 z_b2_3 z_b2_4 z_b2_5 z_b2_6 z_b2_7))),(some (.box true (qn z_b3_0 z_b3_1 z_b3_2 z_b3_3 z_b3_4 z_b3_5 z_b3_6 z_b3_7)))]))
def qb4 {R:Type}(v7:Bool)(v10:LA)(v11 v12:Int)(Av:Bool)(Aw Ax Ay Az:Int)(A0 A1:LU)(A2:Int)(Ad:Bool)(Ae Af:Int)(Au:Bool)(Bc Bd Be Bf:Int)(Bg Bh:LU)(Bi:Int)(Cf:Bool)(Cg Ch Ci Cj:Int)(Ck Cl:LU)(Cm:Int)(next:Bool->Int->Bool->Int->Int->Int->Int->(List UInt8)->(List UInt8)->Int->Bool->Int->Int->Bool->Int->Int->Int->Int->(List UInt8)->(List UInt8)->Int->Bool->Int->Int->Int->Int->(List UInt8)->(List UInt8)->Int->Option R)(kx0:Bool->Bool->Int->Int->Int->Int->(List UInt8)->(List UInt8)->Int->Bool->Int->Int->Bool->Int->Int->Int->Int->(List UInt8)->(List UInt8)->Int->Bool->Int->Int->Int->Int->(List UInt8)->(List UInt8)->Int->Option R):Option R:=
 (bif(decide (v12<v11))then(oB (ixB v10 v12) fun y1=>(bif fitC qb y1.cells then(qjd v7 v10 v11 v12 Av Aw Ax Ay Az A0 A1 A2 Ad Ae Af Au Bc Bd Be Bf Bg Bh Bi Cf Cg Ch Ci Cj Ck Cl Cm (gB y1.cells 0) (gI y1.cells 1) (gI y1.cells 2) (gI y1.cells 3) (gI y1.cells 4) (gS y1.cells 5) (gS y1.cells 6) (gI y1.cells 7) (fun v31q2 b0_0q3 b0_1q4 b0_2q5 b0_3q6 b0_4q7 b0_5q8 b0_6q9 b0_7q10 b1_0q11 b1_1q12 b1_2q13 b2_0q14 b2_1q15 b2_2q16 b2_3q17 b2_4q18 b2_5q19 b2_6q20 b2_7q21 b3_0q22 b3_1q23 b3_2q24 b3_3q25 b3_4q26 b3_5q27 b3_6q28 b3_7q29 b4_0q30 b4_1q31 b4_2q32 b4_3q33 b4_4q34 b4_5q35 b4_6q36 b4_7q37=>(bif v31q2 then(next true (IntKind.i64.wrap (v12+1)) b0_0q3 b0_1q4 b0_2q5 b0_3q6 b0_4q7 b0_5q8 b0_6q9 b0_7q10 b1_0q11 b1_1q12 b1_2q13 b2_0q14 b2_1q15 b2_2q16 b2_3q17 b2_4q18 b2_5q19 b2_6q20 b2_7q21 b4_0q30 b4_1q31 b4_2q32 b4_3q33 b4_4q34 b4_5q35 b4_6q36 b4_7q37)else(next v7 (IntKind.i64.wrap (v12+1)) b0_0q3 b0_1q4 b0_2q5 b0_3q6 b0_4q7 b0_5q8 b0_6q9 b0_7q10 b1_0q11 b1_1q12 b1_2q13 b2_0q14 b2_1q15 b2_2q16 b2_3q17 b2_4q18 b2_5q19 b2_6q20 b2_7q21 b3_0q22 b3_1q23 b3_2q24 b3_3q25 b3_4q26 b3_5q27 b3_6q28 b3_7q29))))else none))else(kx0 v7 Av Aw Ax Ay Az A0 A1 A2 Ad Ae Af Au Bc Bd Be Bf Bg Bh Bi Cf Cg Ch Ci Cj Ck Cl Cm))
def qbx {R:Type}(v10:LA)(v11:Int)(kx0:Bool->Bool->Int->Int->Int->Int->(List UInt8)->(List UInt8)->Int->Bool->Int->Int->Bool->Int->Int->Int->Int->(List UInt8)->(List UInt8)->Int->Bool->Int->Int->Int->Int->(List UInt8)->(List UInt8)->Int->Option R):Nat->Bool->Int->Bool->Int->Int->Int->Int->(List UInt8)->(List UInt8)->Int->Bool->Int->Int->Bool->Int->Int->Int->Int->(List UInt8)->(List UInt8)->Int->Bool->Int->Int->Int->Int->(List UInt8)->(List UInt8)->Int->Option R
 |0=>(fun _ _ _ _ _ _ _ _ _ _ _ _ _ _ _ _ _ _ _ _ _ _ _ _ _ _ _ _ _=>none)
 |n+1=>(fun v7 v12 Av Aw Ax Ay Az A0 A1 A2 Ad Ae Af Au Bc Bd Be Bf Bg Bh Bi Cf Cg Ch Ci Cj Ck Cl Cm=>qb4 v7 v10 v11 v12 Av Aw Ax Ay Az A0 A1 A2 Ad Ae Af Au Bc Bd Be Bf Bg Bh Bi Cf Cg Ch Ci Cj Ck Cl Cm (qbx v10 v11 kx0 n) kx0)
def qje {R:Type}:=hull (qbx (R:=R))
theorem qqn {R:Type}:qje (R:=R)=qbx:=qa _
def qr3 {R:Type}(KK:AV->Mem->Option R):SubB Tryz.prog (TIof Tryz.prog) 36 2 (qdo [(.cell 4 true 8),.t 5] KK):=lpB tabOk follows Tryz.f147 151 (.s .z (.s (.s .z (.v [.sel [4,6,7] [0,1,2,3]])) (.s (.b (.s (.r [(0,.p (.etac 14 qb))] []) (.s (.sub [.sel [1,4,6,7,9,10,11,12] [0,1,2,3,4]] (qr2 KK) []) .z))) (.v [.sel [1,4,6,7,10,11,12] [0,1,2,3]])))) S37_ (qbx (R:=R)) (fun f v K n=>f (v.l 40 0) (v.i 44 0) (qhe K) n) (fun v f K=>qb4 (v.b 28 0) (v.l 40 0) (v.i 44 0) (v.i 48 0) (v.b 3 0) (v.i 3 1) (v.i 3 2) (v.i 3 3) (v.i 3 4) (v.s 3 5) (v.s 3 6) (v.i 3 7) (v.b 7 0) (v.i 7 1) (v.i 7 2) (v.b 11 0) (v.i 11 1) (v.i 11 2) (v.i 11 3) (v.i 11 4) (v.s 11 5) (v.s 11 6) (v.i 11 7) (v.b 15 0) (v.i 15 1) (v.i 15 2) (v.i 15 3) (v.i 15 4) (v.s 15 5) (v.s 15 6) (v.i 15 7) f (qhe K)) (fun f v=>f (v.b 28 0) (v.i 48 0) (v.b 3 0) (v.i 3 1) (v.i 3 2) (v.i 3 3) (v.i 3 4) (v.s 3 5) (v.s 3 6) (v.i 3 7) (v.b 7 0) (v.i 7 1) (v.i 7 2) (v.b 11 0) (v.i 11 1) (v.i 11 2) (v.i 11 3) (v.i 11 4) (v.s 11 5) (v.s 11 6) (v.i 11 7) (v.b 15 0) (v.i 15 1) (v.i 15 2) (v.i 15 3) (v.i 15 4) (v.s 15 5) (v.s 15 6) (v.i 15 7)) (fun k v=>(fun z0 z1 z2 z3 z4 z5 z6 z7 z8 z9 z10 z11 z12 z13 z14 z15 z16 z17 z18 z19 z20 z21 z22 z23 z24 z25 z26 z27 z28=>k (((((((((((((((((((((((((((((v.ub 28 0 z0).ui 48 0 z1).ub 3 0 z2).ui 3 1 z3).ui 3 2 z4).ui 3 3 z5).ui 3 4 z6).us 3 5 z7).us 3 6 z8).ui 3 7 z9).ub 7 0 z10).ui 7 1 z11).ui 7 2 z12).ub 11 0 z13).ui 11 1 z14).ui 11 2 z15).ui 11 3 z16).ui 11 4 z17).us 11 5 z18).us 11 6 z19).ui 11 7 z20).ub 15 0 z21).ui 15 1 z22).ui 15 2 z23).ui 15 3 z24).ui 15 4 z25).us 15 5 z26).us 15 6 z27).ui 15 7 z28)))
def qt4 {R:Type}(KK:AV->Mem->Option R):=(fun v5 Av Aw Ax Ay Az A0 A1 A2 Ad Ae Af Au Bc Bd Be Bf Bg Bh Bi=>KK (.tup [(.agg [(.bool Au),(.int .u64 Bc),(.int .u64 Bd),(.int .i64 Be),(.int .i64 Bf),(.str Bg),(.str Bh),(.int .i64 Bi)]),(.bool v5)]) (qh [(some (.box true (qn Av Aw Ax Ay Az A0 A1 A2))),(some (.box true (qhd Ad Ae Af))),(some (.box true (qn Au Bc Bd Be Bf Bg Bh Bi)))]))
def qdu {R:Type}(v0:LA)(Av:Bool)(Aw Ax Ay Az:Int)(A0 A1:LU)(A2:Int)(Ad:Bool)(Ae Af:Int)(kr:Bool->Bool->Int->Int->Int->Int->(List UInt8)->(List UInt8)->Int->Bool->Int->Int->Bool->Int->Int->Int->Int->(List UInt8)->(List UInt8)->Int->Option R):Option R:=
 (qje v0 (v0.length:Int) (fun v7q1 b0_0q2 b0_1q3 b0_2q4 b0_3q5 b0_4q6 b0_5q7 b0_6q8 b0_7q9 b1_0q10 b1_1q11 b1_2q12 b2_0q13 b2_1q14 b2_2q15 b2_3q16 b2_4q17 b2_5q18 b2_6q19 b2_7q20 b3_0q21 b3_1q22 b3_2q23 b3_3q24 b3_4q25 b3_5q26 b3_6q27 b3_7q28=>(kr v7q1 b0_0q2 b0_1q3 b0_2q4 b0_3q5 b0_4q6 b0_5q7 b0_6q8 b0_7q9 b1_0q10 b1_1q11 b1_2q12 b3_0q21 b3_1q22 b3_2q23 b3_3q24 b3_4q25 b3_5q26 b3_6q27 b3_7q28)) FU false (0:Int) Av Aw Ax Ay Az A0 A1 A2 Ad Ae Af false (0:Int) (0:Int) (0:Int) (0:Int) ([]:List UInt8) ([]:List UInt8) (0:Int) false (0:Int) (0:Int) (0:Int) (0:Int) ([]:List UInt8) ([]:List UInt8) (0:Int))
def qlt {R:Type}:=hull (qdu (R:=R))
theorem qt5 {R:Type}:qlt (R:=R)=qdu:=qa _
def que {R:Type}:RefB Tryz.prog R:=refB (nt:=36) (nb:=2) tabOk follows Tryz.func147 [(.cell 4 true 8),.t 5] (fun KK=>.s .z (.s .z (.s .z (.s (.s .z (.b (.sub [.sel [1,4,6,7,10,11,12] [0,1,2,3]] (qr3 KK) []))) (.s .z (.v [.sel [4,5] [0,1,2]])))))) S38_ (qdu (R:=R)) (fun f v KK=>f (v.l 0 0) (v.b 3 0) (v.i 3 1) (v.i 3 2) (v.i 3 3) (v.i 3 4) (v.s 3 5) (v.s 3 6) (v.i 3 7) (v.b 7 0) (v.i 7 1) (v.i 7 2) (qt4 KK)) (by kernel_rfl) (by kernel_rfl) (fun _=>(by kernel_rfl)) rfl
def S39_:Shp:=⟨[(0,.one (.l (.sl 8))),(1,.st (lk qd0))],[]⟩
def qbin:AV->Option (AV×Bool):=decN [(.st [.b,(.i .u64),(.i .u64),(.i .i64),(.i .i64),.s,.s,(.i .i64)]),(.one .b)] fun z=>((gC (tpL z) 0),aB (gC (tpL z) 1))
def qq8 (v0:LA)(B7:Bool)(B8 B9:Int):Option (AV×Bool):=
 (qlt v0 false (0:Int) (0:Int) (0:Int) (0:Int) ([]:List UInt8) ([]:List UInt8) (0:Int) B7 B8 B9 fun v5q1 b0_0q2 b0_1q3 b0_2q4 b0_3q5 b0_4q6 b0_5q7 b0_6q8 b0_7q9 b1_0q10 b1_1q11 b1_2q12 b2_0q13 b2_1q14 b2_2q15 b2_3q16 b2_4q17 b2_5q18 b2_6q19 b2_7q20=>(some ((.agg [(.bool b2_0q13),(.int .u64 b2_1q14),(.int .u64 b2_2q15),(.int .i64 b2_3q16),(.int .i64 b2_4q17),(.str b2_5q18),(.str b2_6q19),(.int .i64 b2_7q20)]),v5q1)))
def q08:=hull qq8
theorem qbkx:q08=qq8:=qa _
def qbms {R:Type}:EntF Tryz.prog R:=entB (nt:=11) (dec:=qbin) (enc:=(fun r=>.tup [qcg (.st [.b,(.i .u64),(.i .u64),(.i .i64),(.i .i64),.s,.s,(.i .i64)]) r.1,.bool r.2])) tabOk follows Tryz.func97 [(.cell 4 true 8),.t 5] (hdeN fun _=>rfl) (.s .z (.s (.r [(2,.s (.sel [4,6,7] [1,0])),(2,.r que)] []) .z)) S39_ qq8 (fun f v=>f (v.l 0 0) (v.b 5 0) (v.i 5 1) (v.i 5 2))
def S40_:Shp:=⟨[(0,.one (.l (.sl 8))),(1,.st (lk qj))],[]⟩
def qnh (v0:LA)(B7:LU)(B8:Bool)(B9 Ca Cb:Int):Option Bool:=
 (oB (q08 v0 B8 B9 Ca) fun r1=>(bif r1.2 then(bif((gI r1.1.cells 4)==2)then(some true)else(some ((gI r1.1.cells 4)==3)))else(some false)))
def qq9:=hull qnh
theorem qbev:qq9=qnh:=qa _
def q1m {R:Type}:EntF Tryz.prog R:=entB (nt:=25) (dec:=decB) (enc:=AV.bool) tabOk follows Tryz.func41 [.t 4] hdeB (.s .z (.s (.r [(3,.c qbms.b)] []) .z)) S40_ qnh (fun f v=>f (v.l 0 0) (v.s 5 0) (v.b 5 1) (v.i 5 2) (v.i 5 3) (v.i 5 4))
def qcl (x0 x1 x2:LA):List AV:=[.sl 8 x0,.sl 5 x1,.sl 1 x2]
def S41_:Shp:=⟨[(0,.st (lk qj)),(1,.one (.ptr 0 0))],[.box true (lk qds),.box true [(.l .nil),(.l .nil),(.l .nil)]]⟩
def qbio {R:Type}(KK:AV->Mem->Option R):=(fun v3 Av Aw Ax=>KK (.bool v3) (qh [(some (.box true (qcl Av Aw Ax))),(some (.box true [.nils,.nils,.nils]))]))
def qoy {R:Type}(Aa:LU)(Ab:Bool)(Ac Bt Bu:Int)(Av Aw Ax:LA)(kr:Bool->(List AV)->(List AV)->(List AV)->Option R):Option R:=
 (oB (qq9 Av Aa Ab Ac Bt Bu) fun r1=>(kr (!r1) Av Aw Ax))
def q7i {R:Type}:=hull (qoy (R:=R))
theorem qbip {R:Type}:q7i (R:=R)=qoy:=qa _
def qbky {R:Type}:RefB Tryz.prog R:=refB (nt:=9) (nb:=2) tabOk follows Tryz.func40 [.t 3] (fun KK=>.s .z (.s (.r [(3,.c q1m.b)] []) (.v [.sel [3] [0,1]]))) S41_ (qoy (R:=R)) (fun f v KK=>f (v.s 1 0) (v.b 1 1) (v.i 1 2) (v.i 1 3) (v.i 1 4) (v.l 3 0) (v.l 3 1) (v.l 3 2) (qbio KK)) (by kernel_rfl) (by kernel_rfl) (fun _=>(by kernel_rfl)) rfl
def S42_:Shp:=⟨[(0,.one (.l (.sl 5))),(1,.one (.fn 40 [(0,0)])),(7,.one (.l (.i .i64))),(8,.one (.l (.i .i64)))],[.box true (lk qds),.box true [(.l .nil),(.l .nil),(.l .nil)]]⟩
def S43_:Shp:=⟨[(0,.one (.l (.sl 5))),(1,.one (.fn 40 [(0,0)]))],[.box true (lk qds),.box true [(.l .nil),(.l .nil),(.l .nil)]]⟩
def qdj {R:Type}(K:Ex->Env->Mem->Option R):=(fun z_b0_0 z_b0_1 z_b0_2=>K (.exit 0) (qk []) (qh [(some (.box true (qcl z_b0_0 z_b0_1 z_b0_2))),(some (.box true [.nils,.nils,.nils]))]))
def qdq {R:Type}(KK:AV->Mem->Option R):=(fun v4 Av Aw Ax=>KK (.int .i64 v4) (qh [(some (.box true (qcl Av Aw Ax))),(some (.box true [.nils,.nils,.nils]))]))
def qba {R:Type}(v0:LA)(v7 v8:Int)(Av Aw Ax:LA)(next:Int->(List AV)->(List AV)->(List AV)->Option R)(kx0:(List AV)->(List AV)->(List AV)->Option R)(kr:Int->(List AV)->(List AV)->(List AV)->Option R):Option R:=
 (bif(decide (v8<v7))then(oB (ixB v0 v8) fun y1=>(bif fitC qj y1.cells then(q7i (gS y1.cells 0) (gB y1.cells 1) (gI y1.cells 2) (gI y1.cells 3) (gI y1.cells 4) Av Aw Ax fun v3q2 b0_0q3 b0_1q4 b0_2q5=>(bif v3q2 then(kr v8 b0_0q3 b0_1q4 b0_2q5)else(next (IntKind.i64.wrap (v8+1)) b0_0q3 b0_1q4 b0_2q5)))else none))else(kx0 Av Aw Ax))
def qbb {R:Type}(v0:LA)(v7:Int)(kx0:(List AV)->(List AV)->(List AV)->Option R)(kr:Int->(List AV)->(List AV)->(List AV)->Option R):Nat->Int->(List AV)->(List AV)->(List AV)->Option R
 |0=>(fun _ _ _ _=>none)
 |n+1=>(fun v8 Av Aw Ax=>qba v0 v7 v8 Av Aw Ax (qbb v0 v7 kx0 kr n) kx0 kr)
def qd2 {R:Type}:=hull (qbb (R:=R))
theorem qh8 {R:Type}:qd2 (R:=R)=qbb:=qa _
def qii {R:Type}(KK:AV->Mem->Option R):SubB Tryz.prog (TIof Tryz.prog) 19 2 (qdo [.t 4] KK):=lpB tabOk follows Tryz.f96 37 (.s .z (.s (.s .z (.v [.sel [] [0,1]])) (.s (.b (.s .z (.s (.r [(3,.p (.etac 14 qj)),(5,.s (.sel [0,1,5,7,8,11,15] [0,1])),(5,.r qbky)] []) (.s (.s .z (.v [.sel [4] [0,1]])) .z)))) (.v [.sel [0,1,7,8] [0,1]])))) S42_ (qbb (R:=R)) (fun f v K n=>f (v.l 0 0) (v.i 28 0) (qdj K) (qdq KK) n) (fun v f K=>qba (v.l 0 0) (v.i 28 0) (v.i 32 0) (v.l 3 0) (v.l 3 1) (v.l 3 2) f (qdj K) (qdq KK)) (fun f v=>f (v.i 32 0) (v.l 3 0) (v.l 3 1) (v.l 3 2)) (fun k v=>(fun z0 z1 z2 z3=>k ((((v.ui 32 0 z0).ul 3 0 z1).ul 3 1 z2).ul 3 2 z3)))
def qi9 {R:Type}(KK:AV->Mem->Option R):=(fun v4 Av Aw Ax=>KK (.int .i64 v4) (qh [(some (.box true (qcl Av Aw Ax))),(some (.box true [.nils,.nils,.nils]))]))
def qbw {R:Type}(v0 Av Aw Ax:LA)(kr:Int->(List AV)->(List AV)->(List AV)->Option R):Option R:=
 (qd2 v0 (v0.length:Int) (fun b0_0q1 b0_1q2 b0_2q3=>(kr (-1:Int) b0_0q1 b0_1q2 b0_2q3)) kr FU (0:Int) Av Aw Ax)
def qeg {R:Type}:=hull (qbw (R:=R))
theorem qja {R:Type}:qeg (R:=R)=qbw:=qa _
def qjq {R:Type}:RefB Tryz.prog R:=refB (nt:=19) (nb:=2) tabOk follows Tryz.func96 [.t 4] (fun KK=>.s .z (.s (.s .z (.b (.sub [.sel [0,1,7,8] [0,1]] (qii KK) []))) (.s .z (.v [.sel [4] [0,1]])))) S43_ (qbw (R:=R)) (fun f v KK=>f (v.l 0 0) (v.l 3 0) (v.l 3 1) (v.l 3 2) (qi9 KK)) (by kernel_rfl) (by kernel_rfl) (fun _=>(by kernel_rfl)) rfl
def qh9 {R:Type}(KK:AV->Mem->Option R):=(fun v4 Av Aw Ax=>KK (.bool v4) (qh [(some (.box true (qcl Av Aw Ax))),(some (.box true [.nils,.nils,.nils]))]))
def qbs {R:Type}(v0 Av Aw Ax:LA)(kr:Bool->(List AV)->(List AV)->(List AV)->Option R):Option R:=
 (qeg v0 Av Aw Ax fun v4q1 b0_0q2 b0_1q3 b0_2q4=>(kr (decide (v4q1>=0)) b0_0q2 b0_1q3 b0_2q4))
def qce {R:Type}:=hull (qbs (R:=R))
theorem qia {R:Type}:qce (R:=R)=qbs:=qa _
def qij {R:Type}:RefB Tryz.prog R:=refB (nt:=9) (nb:=2) tabOk follows Tryz.func39 [.t 4] (fun KK=>.s .z (.s (.r [(2,.s (.sel [5,6] [0,1])),(2,.r qjq)] []) (.v [.sel [4] [0,1]]))) S43_ (qbs (R:=R)) (fun f v KK=>f (v.l 0 0) (v.l 3 0) (v.l 3 1) (v.l 3 2) (qh9 KK)) (by kernel_rfl) (by kernel_rfl) (fun _=>(by kernel_rfl)) rfl
def qbmt:AV->Option (AV×Bool):=decN [(.st [.b,(.i .u64),(.i .u64),(.i .i64),(.i .i64),.s,.s,(.i .i64)]),(.one .b)] fun z=>((gC (tpL z) 0),aB (gC (tpL z) 1))
def qu1 (v0:LA)(B7:Bool)(B8 B9 Ca:Int):Option (AV×Bool):=
 (oB (qr9 v0 B7 B8 B9 Ca) fun r1=>(bif(decide (r1>=0))then(oB (ixB v0 r1) fun y2=>(bif fitC qb y2.cells then(some ((.agg [(.bool (gB y2.cells 0)),(.int .u64 (gI y2.cells 1)),(.int .u64 (gI y2.cells 2)),(.int .i64 (gI y2.cells 3)),(.int .i64 (gI y2.cells 4)),(.str (gS y2.cells 5)),(.str (gS y2.cells 6)),(.int .i64 (gI y2.cells 7))]),true))else none))else(some ((.agg [(.bool false),(.int .u64 (0:Int)),(.int .u64 (0:Int)),(.int .i64 (0:Int)),(.int .i64 (0:Int)),(.str ([]:List UInt8)),(.str ([]:List UInt8)),(.int .i64 (0:Int))]),false))))
def qqf:=hull qu1
theorem qbpo:qqf=qu1:=qa _
def qu2 {R:Type}:EntF Tryz.prog R:=entB (nt:=17) (dec:=qbmt) (enc:=(fun r=>.tup [qcg (.st [.b,(.i .u64),(.i .u64),(.i .i64),(.i .i64),.s,.s,(.i .i64)]) r.1,.bool r.2])) tabOk follows Tryz.func51 [(.cell 4 true 8),.t 5] (hdeN fun _=>rfl) (.s .z (.s (.s (.r [(2,.c qyr.b)] []) (.s .z (.s (.s (.r [(2,.p (.etac 14 qb))] []) .z) .z))) .z)) S16_ qu1 (fun f v=>f (v.l 0 0) (v.b 5 0) (v.i 5 1) (v.i 5 2) (v.i 5 3))
def qni (Aa:Bool)(Ab Ac Bt:Int):Option Int:=
 (bif Aa then(some (128:Int))else(some (32:Int)))
def qw0:=hull qni
theorem qbew:qw0=qni:=qa _
def qbiq {R:Type}:EntF Tryz.prog R:=entB (nt:=6) (dec:=(decI .i64)) (enc:=(AV.int .i64)) tabOk follows Tryz.func149 [.t 2] hdeI (.z) S8_ qni (fun f v=>f (v.b 1 0) (v.i 1 1) (v.i 1 2) (v.i 1 3))
def qoz (Aa:Bool)(Ab Ac Bt:Int)(B7:Bool)(B8 B9 Ca:Int):Option Bool:=
 (oB (qlw Aa Ab Ac Bt B7 B8 B9 Ca) fun r1=>(bif r1 then(some true)else(oB (qlw B7 B8 B9 Ca Aa Ab Ac Bt) fun r2=>(some r2))))
def qyu:=hull qoz
theorem qbir:qyu=qoz:=qa _
def q3a {R:Type}:EntF Tryz.prog R:=entB (nt:=13) (dec:=decB) (enc:=AV.bool) tabOk follows Tryz.func190 [.t 4] hdeB (.s .z (.s (.r [(2,.c ql1.b),(6,.c ql1.b)] []) .z)) S20_ qoz (fun f v=>f (v.b 1 0) (v.i 1 1) (v.i 1 2) (v.i 1 3) (v.b 5 0) (v.i 5 1) (v.i 5 2) (v.i 5 3))
def S44_:Shp:=⟨[(1,.one (.l (.i .i64))),(2,.one (.l (.i .u64))),(3,.one (.ptr 0 0)),(6,.one (.ptr 1 0))],[.box true (lk qe),.box true (lk qe)]⟩
def S45_:Shp:=⟨[(1,.one (.l (.i .i64))),(2,.one (.l (.i .u64))),(3,.one (.ptr 0 0)),(6,.one (.ptr 1 0)),(8,.one (.l (.i .i64)))],[.box true (lk qe),.box true (lk qe)]⟩
def S46_:Shp:=⟨[(1,.one (.l (.i .i64))),(2,.one (.l (.i .u64))),(3,.one (.ptr 0 0)),(6,.one (.ptr 1 0)),(9,.one (.l (.i .u64))),(10,.one (.l (.i .u64))),(11,.one (.l (.i .u64)))],[.box true (lk qe),.box true (lk qe)]⟩
def S47_:Shp:=⟨[(0,.st (lk qe)),(1,.one (.l (.i .i64))),(2,.one (.l (.i .u64)))],[]⟩
def qra:AV->Option (AV×Bool):=decN [(.st [.b,(.i .u64),(.i .u64),(.i .i64)]),(.one .b)] fun z=>((gC (tpL z) 0),aB (gC (tpL z) 1))
def qbis (v1 v2:Int)(Av:Bool)(Aw Ax Ay:Int)(Ad:Bool)(Ae Af Ag:Int)(K:Ex->Env->Mem->Option (AV×Bool)):=(fun z_v28=>K .norm (qk [(1,(.int .i64 v1)),(2,(.int .u64 v2)),(3,(.ptr 0 0)),(6,(.ptr 1 0)),(28,(.bool z_v28))]) (qh [(some (.box true (qc Av Aw Ax Ay))),(some (.box true (qc Ad Ae Af Ag)))]))
def qo0 (v1 v2:Int)(Av:Bool)(Aw Ax Ay:Int)(Ad:Bool)(Ae Af Ag:Int)(kn:Bool->Option (AV×Bool)):Option (AV×Bool):=
 (oB (qis Av Aw Ax Ay) fun r1=>(bif((!r1)||(decide (v1<Ay)))then(kn true)else(oB (qlv Av Aw Ax) fun r2=>(kn (decide (v1>r2))))))
def qyv:=hull (qo0)
theorem qbit:qyv=qo0:=qa _
def qbkz:SubB Tryz.prog (TIof Tryz.prog) 81 0 (kret [(.cell 6 true 4),.t 7] qra):=jnB tabOk follows Tryz.f156 9 (.r [(1,.c qky.b),(4,.g 4),(13,.c qq1.b)] [.sel [1,2,3,6,28] [0,1]]) S44_ (qo0) (fun f v K=>f (v.i 4 0) (v.i 8 0) (v.b 3 0) (v.i 3 1) (v.i 3 2) (v.i 3 3) (v.b 7 0) (v.i 7 1) (v.i 7 2) (v.i 7 3) (qbis (v.i 4 0) (v.i 8 0) (v.b 3 0) (v.i 3 1) (v.i 3 2) (v.i 3 3) (v.b 7 0) (v.i 7 1) (v.i 7 2) (v.i 7 3) K))
def qbex (v1 v2:Int)(Av:Bool)(Aw Ax Ay:Int)(Ad:Bool)(Ae Af Ag:Int)(K:Ex->Env->Mem->Option (AV×Bool)):=(fun z_v42=>K .norm (qk [(1,(.int .i64 v1)),(2,(.int .u64 v2)),(3,(.ptr 0 0)),(6,(.ptr 1 0)),(42,(.bool z_v42))]) (qh [(some (.box true (qc Av Aw Ax Ay))),(some (.box true (qc Ad Ae Af Ag)))]))
def qju (v1 v2 v8:Int)(Av:Bool)(Aw Ax Ay:Int)(Ad:Bool)(Ae Af Ag:Int)(kn:Bool->Option (AV×Bool)):Option (AV×Bool):=
 (bif(decide (v8<64))then(bif decide ((IntKind.u64.wrap v8)<0)then none else(kn ((v2.fdiv (2^min (IntKind.u64.wrap v8).toNat IntKind.u64.bits)) != (0:Int))))else(kn false))
def q5c:=hull (qju)
theorem qz5:q5c=qju:=qa _
def qbiu:SubB Tryz.prog (TIof Tryz.prog) 81 0 (kret [(.cell 6 true 4),.t 7] qra):=jnB tabOk follows Tryz.f156 43 (.v [.sel [1,2,3,6,42] [0,1]]) S45_ (qju) (fun f v K=>f (v.i 4 0) (v.i 8 0) (v.i 32 0) (v.b 3 0) (v.i 3 1) (v.i 3 2) (v.i 3 3) (v.b 7 0) (v.i 7 1) (v.i 7 2) (v.i 7 3) (qbex (v.i 4 0) (v.i 8 0) (v.b 3 0) (v.i 3 1) (v.i 3 2) (v.i 3 3) (v.b 7 0) (v.i 7 1) (v.i 7 2) (v.i 7 3) K))
def qbey (v1:Int)(Av:Bool)(Aw Ax Ay:Int)(Ad:Bool)(Ae Af Ag:Int)(K:Ex->Env->Mem->Option (AV×Bool)):=(fun z_v10 z_v11=>K .norm (qk [(1,(.int .i64 v1)),(3,(.ptr 0 0)),(6,(.ptr 1 0)),(10,(.int .u64 z_v10)),(11,(.int .u64 z_v11))]) (qh [(some (.box true (qc Av Aw Ax Ay))),(some (.box true (qc Ad Ae Af Ag)))]))
def qjv (v1 v2 v9 v10 v11:Int)(Av:Bool)(Aw Ax Ay:Int)(Ad:Bool)(Ae Af Ag:Int)(kn:Int->Int->Option (AV×Bool)):Option (AV×Bool):=
 (bif(decide (v9>=64))then(bif decide ((IntKind.u64.wrap (v9-64))<0)then none else(kn (IntKind.u64.wrap (v2*2^min (IntKind.u64.wrap (v9-64)).toNat IntKind.u64.bits)) (0:Int)))else(bif(decide (v9>0))then(bif decide ((IntKind.u64.wrap ((64:Int)-v9))<0)then none else(bif decide (v9<0)then none else(kn (v2.fdiv (2^min (IntKind.u64.wrap ((64:Int)-v9)).toNat IntKind.u64.bits)) (IntKind.u64.wrap (v2*2^min v9.toNat IntKind.u64.bits)))))else(kn v10 v11)))
def ql4:=hull (qjv)
theorem qz6:ql4=qjv:=qa _
def qbiv:SubB Tryz.prog (TIof Tryz.prog) 81 0 (kret [(.cell 6 true 4),.t 7] qra):=jnB tabOk follows Tryz.f156 95 (.s .z (.s (.v [.sel [1,3,6,10,11] [0,1]]) (.s .z (.s (.v [.sel [1,3,6,10,11] [0,1]]) (.v [.sel [1,3,6,10,11] [0,1]]))))) S46_ (qjv) (fun f v K=>f (v.i 4 0) (v.i 8 0) (v.i 36 0) (v.i 40 0) (v.i 44 0) (v.b 3 0) (v.i 3 1) (v.i 3 2) (v.i 3 3) (v.b 7 0) (v.i 7 1) (v.i 7 2) (v.i 7 3) (qbey (v.i 4 0) (v.b 3 0) (v.i 3 1) (v.i 3 2) (v.i 3 3) (v.b 7 0) (v.i 7 1) (v.i 7 2) (v.i 7 3) K))
def qp2 (Aa:Bool)(Ab Ac Bt v1 v2:Int):Option (AV×Bool):=
 (qyv v1 v2 Aa Ab Ac Bt false (0:Int) (0:Int) (0:Int) (fun v28q1=>(bif v28q1 then(some ((.agg [(.bool false),(.int .u64 (0:Int)),(.int .u64 (0:Int)),(.int .i64 (0:Int))]),false))else(q5c v1 v2 (IntKind.i64.wrap (v1-Bt)) Aa Ab Ac Bt false (0:Int) (0:Int) (0:Int) (fun v42q2=>(bif v42q2 then(some ((.agg [(.bool false),(.int .u64 (0:Int)),(.int .u64 (0:Int)),(.int .i64 (0:Int))]),false))else(oB (qlv Aa Ab Ac) fun r3=>(ql4 v1 v2 (IntKind.u64.wrap (IntKind.i64.wrap (r3-v1))) (0:Int) v2 Aa Ab Ac Bt false (0:Int) (0:Int) (0:Int) (fun v10q4 v11q5=>(some ((.agg [(.bool Aa),(.int .u64 (qbi .or .u64 Ab v10q4)),(.int .u64 (qbi .or .u64 Ac v11q5)),(.int .i64 v1)]),true)))))))))))
def qea:=hull qp2
theorem q7j:qea=qp2:=qa _
def q09 {R:Type}:EntF Tryz.prog R:=entB (nt:=81) (dec:=qra) (enc:=(fun r=>.tup [qcg (.st [.b,(.i .u64),(.i .u64),(.i .i64)]) r.1,.bool r.2])) tabOk follows Tryz.func156 [(.cell 6 true 4),.t 7] (hdeN fun _=>rfl) (.s .z (.s (.s (.sub [.sel [1,2,3,6] [0,1]] qbkz []) .z) (.s (.s .z (.s (.sub [.sel [1,2,3,6,8] [0,1]] qbiu []) .z)) (.s (.r [(2,.c qq1.b)] []) (.s .z (.s (.sub [.sel [1,2,3,6,9,10,11] [0,1]] qbiv []) .z)))))) S47_ qp2 (fun f v=>f (v.b 1 0) (v.i 1 1) (v.i 1 2) (v.i 1 3) (v.i 4 0) (v.i 8 0))
def S48_:Shp:=⟨[(1,.one (.ptr 0 0)),(2,.one (.ptr 1 0)),(3,.one (.ptr 2 0)),(5,.one (.ptr 3 0)),(6,.one (.l .b))],[.box true (lk qe),.box true (lk qe),.box true (lk qe),.box true (lk qe)]⟩
def q1n:AV->Option (AV×AV×Bool):=decN [(.st [.b,(.i .u64),(.i .u64),(.i .i64)]),(.st [.b,(.i .u64),(.i .u64),(.i .i64)]),(.one .b)] fun z=>((gC (tpL z) 0),(gC (tpL z) 1),aB (gC (tpL z) 2))
def qbct (Av:Bool)(Aw Ax Ay:Int)(Ad:Bool)(Ae Af Ag:Int)(Au:Bool)(Bc Bd Be:Int)(Cf:Bool)(Cg Ch Ci:Int)(K:Ex->Env->Mem->Option (AV×AV×Bool)):=(fun z_v22=>K .norm (qk [(1,(.ptr 0 0)),(2,(.ptr 1 0)),(3,(.ptr 2 0)),(5,(.ptr 3 0)),(22,(.bool z_v22))]) (qh [(some (.box true (qc Av Aw Ax Ay))),(some (.box true (qc Ad Ae Af Ag))),(some (.box true (qc Au Bc Bd Be))),(some (.box true (qc Cf Cg Ch Ci)))]))
def ql5 (v6 Av:Bool)(Aw Ax Ay:Int)(Ad:Bool)(Ae Af Ag:Int)(Au:Bool)(Bc Bd Be:Int)(Cf:Bool)(Cg Ch Ci:Int)(kn:Bool->Option (AV×AV×Bool)):Option (AV×AV×Bool):=
 (bif(!v6)then(kn true)else(oB (qis Av Aw Ax Ay) fun r1=>(kn (!r1))))
def q3b:=hull (ql5)
theorem qbcu:q3b=ql5:=qa _
def qbez:SubB Tryz.prog (TIof Tryz.prog) 36 0 (kret [(.cell 2 true 4),(.cell 3 true 4),.t 4] q1n):=jnB tabOk follows Tryz.f155 19 (.r [(4,.c qky.b)] [.sel [1,2,3,5,22] [0,1,2,3]]) S48_ (ql5) (fun f v K=>f (v.b 24 0) (v.b 3 0) (v.i 3 1) (v.i 3 2) (v.i 3 3) (v.b 7 0) (v.i 7 1) (v.i 7 2) (v.i 7 3) (v.b 11 0) (v.i 11 1) (v.i 11 2) (v.i 11 3) (v.b 15 0) (v.i 15 1) (v.i 15 2) (v.i 15 3) (qbct (v.b 3 0) (v.i 3 1) (v.i 3 2) (v.i 3 3) (v.b 7 0) (v.i 7 1) (v.i 7 2) (v.i 7 3) (v.b 11 0) (v.i 11 1) (v.i 11 2) (v.i 11 3) (v.b 15 0) (v.i 15 1) (v.i 15 2) (v.i 15 3) K))
def qrb (Aa:Bool)(Ab Ac Bt:Int):Option (AV×AV×Bool):=
 (oB (qea Aa Ab Ac Bt (IntKind.i64.wrap (Bt+1)) (0:Int)) fun r1=>(q3b r1.2 Aa Ab Ac Bt false (0:Int) (0:Int) (0:Int) false (0:Int) (0:Int) (0:Int) (gB r1.1.cells 0) (gI r1.1.cells 1) (gI r1.1.cells 2) (gI r1.1.cells 3) (fun v22q2=>(bif v22q2 then(some ((.agg [(.bool false),(.int .u64 (0:Int)),(.int .u64 (0:Int)),(.int .i64 (0:Int))]),(.agg [(.bool false),(.int .u64 (0:Int)),(.int .u64 (0:Int)),(.int .i64 (0:Int))]),false))else(oB (qea Aa Ab Ac Bt (IntKind.i64.wrap (Bt+1)) (1:Int)) fun r3=>(some ((.agg [(.bool (gB r1.1.cells 0)),(.int .u64 (gI r1.1.cells 1)),(.int .u64 (gI r1.1.cells 2)),(.int .i64 (gI r1.1.cells 3))]),(.agg [(.bool (gB r3.1.cells 0)),(.int .u64 (gI r3.1.cells 1)),(.int .u64 (gI r3.1.cells 2)),(.int .i64 (gI r3.1.cells 3))]),r3.2)))))))
def qjr:=hull qrb
theorem qbk0:qjr=qrb:=qa _
def qw1 {R:Type}:EntF Tryz.prog R:=entB (nt:=36) (dec:=q1n) (enc:=(fun r=>.tup [qcg (.st [.b,(.i .u64),(.i .u64),(.i .i64)]) r.1,qcg (.st [.b,(.i .u64),(.i .u64),(.i .i64)]) r.2.1,.bool r.2.2])) tabOk follows Tryz.func155 [(.cell 2 true 4),(.cell 3 true 4),.t 4] (hdeN fun _=>rfl) (.s .z (.s (.r [(4,.c q09.b)] []) (.s (.s (.sub [.sel [1,2,3,5,6] [0,1,2,3]] qbez []) .z) (.s (.r [(4,.c q09.b)] []) .z)))) S8_ qrb (fun f v=>f (v.b 1 0) (v.i 1 1) (v.i 1 2) (v.i 1 3))
def q5d {β:Type}(cs:LA)(f:Bool->Int->Int->Int->β):β:=f (gB cs 0) (gI cs 1) (gI cs 2) (gI cs 3)
def qw2:Shp:=⟨[(0,.one (.own 0)),(1,.one (.l (.sl 8))),(2,.st (lk qe))],[.arr true 4]⟩
def qfi (rec:(List AV)->(List AV)->Bool->Int->Int->Int->Option (List AV))(xs cl:LA):Option (List AV):=chk (q2g qw2 (qbp (.own 0 xs.length::cl)) (M1 4 xs)) (cond (hdS qw2 (qbp (.own 0 xs.length::cl)) (M1 4 xs)) (rec xs (gL [(qbp (.own 0 xs.length::cl)) 1] 0) (gB ((qbp (.own 0 xs.length::cl)) 2).cells 0) (gI ((qbp (.own 0 xs.length::cl)) 2).cells 1) (gI ((qbp (.own 0 xs.length::cl)) 2).cells 2) (gI ((qbp (.own 0 xs.length::cl)) 2).cells 3)) none)
def ql6 (a0:LA)(Ad:Bool)(Ae Af Ag:Int)(K:Ex->Env->Mem->Option (List AV)):=(fun z_a2=>K (.exit 0) (qk [(0,(.own 0 a0.length)),(5,(.ptr 1 0)),(7,(.own 2 z_a2.length))]) (qh [(some (.arr true 4 a0)),(some (.box true (qc Ad Ae Af Ag))),(some (.arr true 8 z_a2))]))
def qbe0:Shp:=⟨[(0,.one (.own 0)),(5,.one (.ptr 1 0)),(7,.one (.own 2)),(13,.one (.l (.sl 8))),(14,.one (.l (.i .i64))),(15,.one (.l (.i .i64)))],[.arr true 4,.box true (lk qe),.arr true 8]⟩
def qt6 (v13:LA)(v14 v15:Int)(a0:LA)(Ad:Bool)(Ae Af Ag:Int)(a2:LA):Env:=qk [(0,(.own 0 a0.length)),(5,(.ptr 1 0)),(7,(.own 2 a2.length)),(13,(.sl 8 v13)),(14,(.int .i64 v14)),(15,(.int .i64 v15))]
def qt7 (v13:LA)(v14 v15:Int)(a0:LA)(Ad:Bool)(Ae Af Ag:Int)(a2:LA):Mem:=qh [(some (.arr true 4 a0)),(some (.box true (qc Ad Ae Af Ag))),(some (.arr true 8 a2))]
def qib (rec:(List AV)->(List AV)->Bool->Int->Int->Int->Option (List AV))(v13:LA)(v14 v15:Int)(a0:LA)(Ad:Bool)(Ae Af Ag:Int)(a2:LA)(next:Int->(List AV)->Option (List AV))(kx0:(List AV)->Option (List AV)):Option (List AV):=
 (bif(decide (v15<v14))then(oB (ixB v13 v15) fun y1=>(bif fitC qb y1.cells then(oB (qlw Ad Ae Af Ag (gB y1.cells 0) (gI y1.cells 1) (gI y1.cells 2) (gI y1.cells 3)) fun r2=>(bif r2 then(bif hd a0 a0.length then(some a0)else none)else(oB (qyu (gB y1.cells 0) (gI y1.cells 1) (gI y1.cells 2) (gI y1.cells 3) Ad Ae Af Ag) fun r3=>(bif r3 then(bif hd a2 a2.length then(bif hd ([(.agg [(.bool (gB y1.cells 0)),(.int .u64 (gI y1.cells 1)),(.int .u64 (gI y1.cells 2)),(.int .i64 (gI y1.cells 3)),(.int .i64 (gI y1.cells 4)),(.str (gS y1.cells 5)),(.str (gS y1.cells 6)),(.int .i64 (gI y1.cells 7))])]:List AV) (([(.agg [(.bool (gB y1.cells 0)),(.int .u64 (gI y1.cells 1)),(.int .u64 (gI y1.cells 2)),(.int .i64 (gI y1.cells 3)),(.int .i64 (gI y1.cells 4)),(.str (gS y1.cells 5)),(.str (gS y1.cells 6)),(.int .i64 (gI y1.cells 7))])]:List AV).length)then(bif decide ((a2.length+([(.agg [(.bool (gB y1.cells 0)),(.int .u64 (gI y1.cells 1)),(.int .u64 (gI y1.cells 2)),(.int .i64 (gI y1.cells 3)),(.int .i64 (gI y1.cells 4)),(.str (gS y1.cells 5)),(.str (gS y1.cells 6)),(.int .i64 (gI y1.cells 7))])]:List AV).length)*80<=140737488355328)then(next (IntKind.i64.wrap (v15+1)) (a2++([(.agg [(.bool (gB y1.cells 0)),(.int .u64 (gI y1.cells 1)),(.int .u64 (gI y1.cells 2)),(.int .i64 (gI y1.cells 3)),(.int .i64 (gI y1.cells 4)),(.str (gS y1.cells 5)),(.str (gS y1.cells 6)),(.int .i64 (gI y1.cells 7))])]:List AV)))else none)else none)else none)else(next (IntKind.i64.wrap (v15+1)) a2)))))else none))else(kx0 a2))
def qo1 (rec:(List AV)->(List AV)->Bool->Int->Int->Int->Option (List AV))(v13:LA)(v14:Int)(a0:LA)(Ad:Bool)(Ae Af Ag:Int)(kx0:(List AV)->Option (List AV)):Nat->Int->(List AV)->Option (List AV)
 |0=>(fun _ _=>none)
 |n+1=>(fun v15 a2=>qib rec v13 v14 v15 a0 Ad Ae Af Ag a2 (qo1 rec v13 v14 a0 Ad Ae Af Ag kx0 n) kx0)
def qob (rec:(List AV)->(List AV)->Bool->Int->Int->Int->Option (List AV)):=hull (qo1 rec)
theorem q1o (rec:(List AV)->(List AV)->Bool->Int->Int->Int->Option (List AV)):qob rec=qo1 rec:=qa _
def qic (rec:(List AV)->(List AV)->Bool->Int->Int->Int->Option (List AV)):AC (List AV):=
 .seq (.reg [ao 16 (.bin .lss 15 14)]) (.seq (.cond 16 (.skip) (.seq (.view [.sel [0,5,7] [0,1,2]]) (.exit 0))) (.seq (.block 1 (.seq (.reg [ao 17 (.ia 8 13 15),
 .st (.etac 17 qb),
 ao 18 (.load true 8 17),
 ao 9 (.alloc [(.bool false),(.int .u64 0),(.int .u64 0),(.int .i64 0),(.int .i64 0),(.str []),(.str []),(.int .i64 0)]),
 an (.store 8 9 18)]) (.seq (.seq (.reg [ao 19 (.load true 4 5),
 ao 20 (.fa 0 9),
 ao 21 (.load true 4 20),
 .call (po 22 (.call 122 [19,21])) 122 ql1.e]) (.cond 22 (.seq (.reg [ao 23 (.mv 0),
 ao 6 (.mv 23)]) (.ret)) (.skip))) (.seq (.reg [ao 24 (.fa 0 9),
 ao 25 (.load true 4 24),
 ao 26 (.load true 4 5),
 .call (po 27 (.call 190 [25,26])) 190 q3a.e]) (.cond 27 (.reg [ao 28 (.mv 7),
 ao 29 (.load true 8 9),
 ao 30 (.bsl 8 [29]),
 ao 31 (.app 8 80 28 30),
 ao 7 (.mv 31)]) (.skip)))))) (.seq (.reg [ao 32 (.bin .add 15 (.c (.int .i64 1))),
 ao 15 (.mv 32)]) (.view [.sel [0,5,7,13,14,15] [0,1,2]]))))
theorem qbiw (rec:(List AV)->(List AV)->Bool->Int->Int->Int->Option (List AV))(hrec:qsx Tryz.prog 179 4 (qfi rec)):AC.ok Tryz.prog (TIof Tryz.prog) 56 1 (qdo [.t 6] (grK 4)) (qic rec):=qbti (zA (qdi.ok ql1.h) (zA (qdi.ok q3a.h) trivial))
theorem qbe1 (rec:(List AV)->(List AV)->Bool->Int->Int->Int->Option (List AV))(v13:LA)(v14 v15:Int)(a0:LA)(Ad:Bool)(Ae Af Ag:Int)(a2:LA)(K:Ex->Env->Mem->Option (List AV)):den 1 (qdo [.t 6] (grK 4)) (qic rec) (qt6 v13 v14 v15 a0 Ad Ae Af Ag a2) (qt7 v13 v14 v15 a0 Ad Ae Af Ag a2) K=qib rec v13 v14 v15 a0 Ad Ae Af Ag a2 (fun z_v15 z_a2=>K .norm (qt6 v13 v14 z_v15 a0 Ad Ae Af Ag z_a2) (qt7 v13 v14 z_v15 a0 Ad Ae Af Ag z_a2)) (ql6 a0 Ad Ae Af Ag K):=by kernel_rfl
theorem qbk1 (rec:(List AV)->(List AV)->Bool->Int->Int->Int->Option (List AV))(v13:LA)(v14:Int)(a0:LA)(Ad:Bool)(Ae Af Ag:Int)(K:Ex->Env->Mem->Option (List AV)):∀(n:Nat) (v15:Int) (a2:LA),qvg (den 1 (qdo [.t 6] (grK 4)) (qic rec)) n (qt6 v13 v14 v15 a0 Ad Ae Af Ag a2) (qt7 v13 v14 v15 a0 Ad Ae Af Ag a2) K=qob rec v13 v14 a0 Ad Ae Af Ag (ql6 a0 Ad Ae Af Ag K) n v15 a2:=by
 rw[q1o]
 intro n
 induction n with
 |zero=>intros;rfl
 |succ n ih=>
 intro v15 a2
 exact(qbe1 rec v13 v14 v15 a0 Ad Ae Af Ag a2 (itK (den 1 (qdo [.t 6] (grK 4)) (qic rec)) n K)).trans (congrArg (fun q=>qib rec v13 v14 v15 a0 Ad Ae Af Ag a2 q (ql6 a0 Ad Ae Af Ag K)) (funext fun v15=>funext fun a2=>ih v15 a2))
def q3c (rec:(List AV)->(List AV)->Bool->Int->Int->Int->Option (List AV)):=subE (R:=List AV) qbe0 fun t m K=>q5d (bxC (m.s 1)) (qob rec (gL [t 13] 0) (gI [t 14] 0) (arL (m.s 0))) (ql6 (arL (m.s 0)) (gB (bxC (m.s 1)) 0) (gI (bxC (m.s 1)) 1) (gI (bxC (m.s 1)) 2) (gI (bxC (m.s 1)) 3) K) FU (gI [t 15] 0) (arL (m.s 2))
theorem qbk2 (rec:(List AV)->(List AV)->Bool->Int->Int->Int->Option (List AV))(hrec:qsx Tryz.prog 179 4 (qfi rec)):q2j Tryz.prog (TIof Tryz.prog) 56 1 (qdo [.t 6] (grK 4)) (.loop (scOf (qic rec))) (q3c rec):=
 qbqb tabOk follows (qbiw rec hrec) (qbhy (by kernel_rfl)) fun t m K=>qbk1 rec _ _ _ _ _ _ _ K FU _ _
def qu3 (rec:(List AV)->(List AV)->Bool->Int->Int->Int->Option (List AV))(a0 v1:LA)(Cw:Bool)(Cx Cy Cz:Int):Option (List AV):=
 (bif(hd a0 (a0.length)&&(hd ([]:List AV) (([]:List AV).length)&&true))then(qob rec v1 (v1.length:Int) a0 Cw Cx Cy Cz (fun a2q1=>(bif((a2q1.length:Int)==0)then(bif hd a0 a0.length then(bif hd ([(.agg [(.bool Cw),(.int .u64 Cx),(.int .u64 Cy),(.int .i64 Cz)])]:List AV) (([(.agg [(.bool Cw),(.int .u64 Cx),(.int .u64 Cy),(.int .i64 Cz)])]:List AV).length)then(bif decide ((a0.length+([(.agg [(.bool Cw),(.int .u64 Cx),(.int .u64 Cy),(.int .i64 Cz)])]:List AV).length)*32<=140737488355328)then(bif hd (a0++([(.agg [(.bool Cw),(.int .u64 Cx),(.int .u64 Cy),(.int .i64 Cz)])]:List AV)) ((a0++([(.agg [(.bool Cw),(.int .u64 Cx),(.int .u64 Cy),(.int .i64 Cz)])]:List AV)).length)then(some (a0++([(.agg [(.bool Cw),(.int .u64 Cx),(.int .u64 Cy),(.int .i64 Cz)])]:List AV)))else none)else none)else none)else none)else(oB (qjr Cw Cx Cy Cz) fun r2=>(bif(!r2.2.2)then(bif hd a0 a0.length then(some a0)else none)else(bif hd a2q1 a2q1.length then(bif hd a0 a0.length then(oB (bif(hd a0 (a0.length)&&true)then(rec a0 a2q1 (gB r2.1.cells 0) (gI r2.1.cells 1) (gI r2.1.cells 2) (gI r2.1.cells 3))else none) fun r3=>(bif hd r3 r3.length then(oB (bif(hd r3 (r3.length)&&true)then(rec r3 a2q1 (gB r2.2.1.cells 0) (gI r2.2.1.cells 1) (gI r2.2.1.cells 2) (gI r2.2.1.cells 3))else none) fun r4=>(bif hd r4 r4.length then(some r4)else none))else none))else none)else none))))) FU (0:Int) ([]:List AV))else none)
def qd5:Nat->(List AV)->(List AV)->Bool->Int->Int->Int->Option (List AV)
 |0=>(fun _ _ _ _ _ _=>none)
 |n+1=>(fun a0 v1 Cw Cx Cy Cz=>qu3 (qd5 n) a0 v1 Cw Cx Cy Cz)
def q6i:(List AV)->(List AV)->Bool->Int->Int->Int->Option (List AV):=hull (qd5 FU)
theorem q7k:q6i=qd5 FU:=qa _
def qp3 (rec:(List AV)->(List AV)->Bool->Int->Int->Int->Option (List AV)):AC (List AV):=
 .seq (.reg [ao 5 (.box 2),
 ao 6 (.mv (.c .nils))]) (.seq (.reg [ao 7 (.mv (.c .nils))]) (.seq (.seq (.reg [ao 13 (.mv 1),
 ao 14 (.len false 13),
 ao 15 (.mv (.c (.int .i64 0)))]) (.block 0 (.seq (.view [.own 7 8,.sel [0,5,7,13,14,15] [0,1,2]]) (.sub (.loop (scOf (qic rec))) (q3c rec))))) (.seq (.seq (.reg [ao 33 (.mv 7),
 ao 34 (.len false 33),
 ao 35 (.bin .eql 34 (.c (.int .i64 0)))]) (.cond 35 (.seq (.reg [ao 36 (.mv 0),
 ao 37 (.load true 4 5),
 ao 38 (.bsl 4 [37]),
 ao 39 (.app 4 32 36 38),
 ao 6 (.mv 39)]) (.ret)) (.skip))) (.seq (.reg [ao 41 (.load true 4 5),
 .call (po 42 (.call 155 [41])) 155 qw1.e,
 ao 40 (.mv 42),
 ao 43 (.ext 40 0),
 ao 44 (.ext 40 1),
 ao 45 (.ext 40 2),
 ao 10 (.alloc [(.bool false),(.int .u64 0),(.int .u64 0),(.int .i64 0)]),
 ao 11 (.alloc [(.bool false),(.int .u64 0),(.int .u64 0),(.int .i64 0)]),
 an (.store 4 10 43),
 an (.store 4 11 44),
 ao 12 (.mv 45)]) (.seq (.seq (.reg [ao 46 (.mv 12),
 ao 47 (.un .not 46)]) (.cond 47 (.seq (.reg [ao 48 (.mv 0),
 ao 6 (.mv 48)]) (.ret)) (.skip))) (.seq (.seq (.view [.snap 7]) (.draw4 [(po 49 (.mv 0)),(po 50 (.mv 7)),(po 51 (.load true 4 10))] 52 179 4 49 [50,51] (qfi rec) [(po 53 (.mv 7)),(po 54 (.load true 4 11))] [.callr (po 55 (.call 179 [52,53,54])) 179 (qbu1 4 (qfi rec)),
 ao 6 (.mv 55)])) (.ret)))))))
theorem qbpp (rec:(List AV)->(List AV)->Bool->Int->Int->Int->Option (List AV))(hrec:qsx Tryz.prog 179 4 (qfi rec)):AC.ok Tryz.prog (TIof Tryz.prog) 56 1 (qdo [.t 6] (grK 4)) (qp3 rec):=qbti (zA (qbk2 rec hrec) (zA (qdi.ok qw1.h) (zA hrec (zA (qbrw hrec) trivial))))
theorem qbss (rec:(List AV)->(List AV)->Bool->Int->Int->Int->Option (List AV))(v1:LA)(Cw:Bool)(Cx Cy Cz:Int)(a0:LA):den 1 (qdo [.t 6] (grK 4)) (qp3 rec) (qk [(0,(.own 0 a0.length)),(1,(.sl 8 v1)),(2,.agg (qc Cw Cx Cy Cz))]) (qh [(some (.arr true 4 a0))]) (kend (qdo [.t 6] (grK 4)))=qu3 rec a0 v1 Cw Cx Cy Cz:=by
 kernel_rfl
theorem qbst:cFn (TIof Tryz.prog) Tryz.f179=some ⟨56,[.t 6],scOf (qp3 (fun _ _ _ _ _ _=>none))⟩:=by kernel_rfl
theorem qbsu (rec:(List AV)->(List AV)->Bool->Int->Int->Int->Option (List AV)):(qp3 rec).er=some (scOf (qp3 (fun _ _ _ _ _ _=>none))):=by kernel_rfl
theorem q7l:∀(k:Nat),qsx Tryz.prog 179 4 (qfi (qd5 k))
 |0=>fun xs cl zs h=>by
  unfold qfi at h
  obtain⟨h1,h2⟩:=qk9 h
  obtain⟨h3,h4⟩:=qo h2
  cases h4
 |k+1=>fun xs cl zs h=>by
  unfold qfi at h
  obtain⟨h1,h2⟩:=qk9 h
  obtain⟨h3,h4⟩:=qo h2
  exact qbol tabOk follows Tryz.func179 (by kernel_rfl) qbst (qbpp (qd5 k) (q7l k)) (qbsu (qd5 k)) qw2 (q9i h1 h3) ((qbss (qd5 k) (gL [(qbp (.own 0 xs.length::cl)) 1] 0) (gB ((qbp (.own 0 xs.length::cl)) 2).cells 0) (gI ((qbp (.own 0 xs.length::cl)) 2).cells 1) (gI ((qbp (.own 0 xs.length::cl)) 2).cells 2) (gI ((qbp (.own 0 xs.length::cl)) 2).cells 3) (arL ((M1 4 xs).s 0))).trans h4)
theorem qbsv:qsx Tryz.prog 179 4 (qfi q6i):=by
 have h:=q7l FU
 rw[<-q7k]at h
 exact h
def S49_:Shp:=⟨[(3,.one (.ptr 0 0)),(7,.one (.own 1)),(23,.one (.l (.sl 8))),(24,.one (.l (.i .i64))),(25,.one (.l (.i .i64)))],[.box true (lk qe),.arr true 8]⟩
def qx9 (Av:Bool)(Aw Ax Ay:Int)(K:Ex->Env->Mem->Option (List AV)):=(fun z_a1=>K (.exit 0) (qk [(3,(.ptr 0 0)),(7,(.own 1 z_a1.length))]) (qh [(some (.box true (qc Av Aw Ax Ay))),(some (.arr true 8 z_a1))]))
def qjw (v23:LA)(v24 v25:Int)(Av:Bool)(Aw Ax Ay:Int)(a1:LA)(next:Int->(List AV)->Option (List AV))(kx0:(List AV)->Option (List AV)):Option (List AV):=
 (bif(decide (v25<v24))then(oB (ixB v23 v25) fun y1=>(bif fitC qb y1.cells then(oB (qud (gB y1.cells 0) (gI y1.cells 1) (gI y1.cells 2) (gI y1.cells 3) Av Aw Ax Ay) fun r2=>(bif r2 then(bif hd a1 a1.length then(bif hd ([(.agg [(.bool (gB y1.cells 0)),(.int .u64 (gI y1.cells 1)),(.int .u64 (gI y1.cells 2)),(.int .i64 (gI y1.cells 3)),(.int .i64 (gI y1.cells 4)),(.str (gS y1.cells 5)),(.str (gS y1.cells 6)),(.int .i64 (gI y1.cells 7))])]:List AV) (([(.agg [(.bool (gB y1.cells 0)),(.int .u64 (gI y1.cells 1)),(.int .u64 (gI y1.cells 2)),(.int .i64 (gI y1.cells 3)),(.int .i64 (gI y1.cells 4)),(.str (gS y1.cells 5)),(.str (gS y1.cells 6)),(.int .i64 (gI y1.cells 7))])]:List AV).length)then(bif decide ((a1.length+([(.agg [(.bool (gB y1.cells 0)),(.int .u64 (gI y1.cells 1)),(.int .u64 (gI y1.cells 2)),(.int .i64 (gI y1.cells 3)),(.int .i64 (gI y1.cells 4)),(.str (gS y1.cells 5)),(.str (gS y1.cells 6)),(.int .i64 (gI y1.cells 7))])]:List AV).length)*80<=140737488355328)then(next (IntKind.i64.wrap (v25+1)) (a1++([(.agg [(.bool (gB y1.cells 0)),(.int .u64 (gI y1.cells 1)),(.int .u64 (gI y1.cells 2)),(.int .i64 (gI y1.cells 3)),(.int .i64 (gI y1.cells 4)),(.str (gS y1.cells 5)),(.str (gS y1.cells 6)),(.int .i64 (gI y1.cells 7))])]:List AV)))else none)else none)else none)else(next (IntKind.i64.wrap (v25+1)) a1)))else none))else(kx0 a1))
def qjx (v23:LA)(v24:Int)(Av:Bool)(Aw Ax Ay:Int)(kx0:(List AV)->Option (List AV)):Nat->Int->(List AV)->Option (List AV)
 |0=>(fun _ _=>none)
 |n+1=>(fun v25 a1=>qjw v23 v24 v25 Av Aw Ax Ay a1 (qjx v23 v24 Av Aw Ax Ay kx0 n) kx0)
def qw3:=hull (qjx)
theorem qbe2:qw3=qjx:=qa _
def qbix:SubB Tryz.prog (TIof Tryz.prog) 41 0 (kret [.t 4] (decF true 4)):=lpB tabOk follows Tryz.f154 151 (.s .z (.s (.s .z (.v [.sel [3,7] [0,1]])) (.s (.b (.s (.r [(0,.p (.etac 27 qb))] []) (.s (.r [(3,.c q04.b)] []) .z))) (.v [.sel [3,7,23,24,25] [0,1]])))) S49_ (qjx) (fun f v K n=>f (v.l 92 0) (v.i 96 0) (v.b 3 0) (v.i 3 1) (v.i 3 2) (v.i 3 3) (qx9 (v.b 3 0) (v.i 3 1) (v.i 3 2) (v.i 3 3) K) n) (fun v f K=>qjw (v.l 92 0) (v.i 96 0) (v.i 100 0) (v.b 3 0) (v.i 3 1) (v.i 3 2) (v.i 3 3) (v.r 1) f (qx9 (v.b 3 0) (v.i 3 1) (v.i 3 2) (v.i 3 3) K)) (fun f v=>f (v.i 100 0) (v.r 1)) (fun k v=>(fun z0 z1=>k ((v.ui 100 0 z0).ur 1 z1)))
def qu4 (v0:LA)(B7:Bool)(B8 B9 Ca:Int):Option (List AV):=
 (oB (qqf v0 B7 B8 B9 Ca) fun r1=>(bif((!r1.2)||((gI r1.1.cells 4) != (1:Int)))then(bif hd ([]:List AV) (([]:List AV).length)then(some ([]:List AV))else none)else(bif(hd ([]:List AV) (([]:List AV).length)&&true)then(qw3 v0 (v0.length:Int) B7 B8 B9 Ca (fun a1q2=>(bif hd a1q2 a1q2.length then(oB (bif(hd ([]:List AV) (([]:List AV).length)&&true)then(q6i ([]:List AV) a1q2 B7 B8 B9 Ca)else none) fun r3=>(bif hd r3 r3.length then(some r3)else none))else none)) FU (0:Int) ([]:List AV))else none)))
def qzr:=hull qu4
theorem qbpq:qzr=qu4:=qa _
def qbsw {R:Type}:EntF Tryz.prog R:=entB (nt:=41) (dec:=(decF true 4)) (enc:=(AV.fr true 4)) tabOk follows Tryz.func154 [.t 4] hdeF (.s .z (.s (.s (.r [(2,.c qu2.b)] []) (.s (.r [(3,.g 3)] []) (.s (.s .z (.v [.own 4 4])) .z))) (.s .z (.s (.s .z (.b (.sub [.own 7 8,.sel [3,7,23,24,25] [0,2]] qbix []))) (.s (.r [(2,.s (.snap 38)),(2,.r (rB (qbrw qbsv)))] []) .z))))) S16_ qu4 (fun f v=>f (v.l 0 0) (v.b 5 0) (v.i 5 1) (v.i 5 2) (v.i 5 3))
def S50_:Shp:=⟨[(0,.one (.l (.i .i64))),(1,.one (.l (.i .i64)))],[]⟩
def qlb (v0 v1:Int):Option Bool:=
 (some (decide (v0<v1)))
def q1p:=hull qlb
theorem q9u:q1p=qlb:=qa _
def qbcv {R:Type}:EntF Tryz.prog R:=entB (nt:=8) (dec:=decB) (enc:=AV.bool) tabOk follows Tryz.func152 [.t 4] hdeB (.z) S50_ qlb (fun f v=>f (v.i 0 0) (v.i 4 0))
def S51_:Shp:=⟨[(1,.one (.l (.i .i64))),(2,.one (.fn 152 [])),(6,.one (.ptr 0 0)),(8,.one (.ptr 1 0)),(9,.one (.l .b)),(11,.one (.ptr 2 0)),(13,.one (.l (.sl 4))),(14,.one (.l (.i .i64))),(15,.one (.l (.i .i64)))],[.box true (lk qe),.box true (lk qe),.box true (lk qe)]⟩
def S52_:Shp:=⟨[(1,.one (.l (.i .i64))),(2,.one (.fn 152 [])),(6,.one (.ptr 0 0)),(8,.one (.ptr 1 0)),(9,.one (.l .b)),(13,.one (.l (.sl 4))),(14,.one (.l (.i .i64))),(15,.one (.l (.i .i64)))],[.box true (lk qe),.box true (lk qe)]⟩
def S53_:Shp:=⟨[(0,.one (.l (.sl 4))),(1,.one (.l (.i .i64))),(2,.one (.fn 152 []))],[]⟩
def qem:AV->Option (AV×Bool):=decN [(.st [.b,(.i .u64),(.i .u64),(.i .i64)]),(.one .b)] fun z=>((gC (tpL z) 0),aB (gC (tpL z) 1))
def qp4 (v1:Int)(v9:Bool)(v13:LA)(v14 v15:Int)(Av:Bool)(Aw Ax Ay:Int)(Ad:Bool)(Ae Af Ag:Int)(Au:Bool)(Bc Bd Be:Int)(K:Ex->Env->Mem->Option (AV×Bool)):=(fun z_v34=>K .norm (qk [(1,(.int .i64 v1)),(2,(.func 152 [])),(6,(.ptr 0 0)),(8,(.ptr 1 0)),(9,(.bool v9)),(11,(.ptr 2 0)),(13,(.sl 4 v13)),(14,(.int .i64 v14)),(15,(.int .i64 v15)),(34,(.bool z_v34))]) (qh [(some (.box true (qc Av Aw Ax Ay))),(some (.box true (qc Ad Ae Af Ag))),(some (.box true (qc Au Bc Bd Be)))]))
def qcr (v1:Int)(v9:Bool)(v13:LA)(v14 v15:Int)(Av:Bool)(Aw Ax Ay:Int)(Ad:Bool)(Ae Af Ag:Int)(Au:Bool)(Bc Bd Be:Int)(kn:Bool->Option (AV×Bool)):Option (AV×Bool):=
 (bif(decide (Be<=v1))then(bif(!v9)then(kn true)else(oB (q1p Be Ag) fun r1=>(kn r1)))else(kn false))
def qiu:=hull (qcr)
theorem qp5:qiu=qcr:=qa _
def qqo:SubB Tryz.prog (TIof Tryz.prog) 39 0 (kret [(.cell 6 true 4),.t 7] qem):=jnB tabOk follows Tryz.f153 5323 (.r [(13,.c qbcv.b)] [.sel [1,2,6,8,9,11,13,14,15,34] [0,1,2]]) S51_ (qcr) (fun f v K=>f (v.i 4 0) (v.b 36 0) (v.l 52 0) (v.i 56 0) (v.i 60 0) (v.b 3 0) (v.i 3 1) (v.i 3 2) (v.i 3 3) (v.b 7 0) (v.i 7 1) (v.i 7 2) (v.i 7 3) (v.b 11 0) (v.i 11 1) (v.i 11 2) (v.i 11 3) (qp4 (v.i 4 0) (v.b 36 0) (v.l 52 0) (v.i 56 0) (v.i 60 0) (v.b 3 0) (v.i 3 1) (v.i 3 2) (v.i 3 3) (v.b 7 0) (v.i 7 1) (v.i 7 2) (v.i 7 3) (v.b 11 0) (v.i 11 1) (v.i 11 2) (v.i 11 3) K))
def qhf (Av:Bool)(Aw Ax Ay:Int)(K:Ex->Env->Mem->Option (AV×Bool)):=(fun z_v9 z_b1_0 z_b1_1 z_b1_2 z_b1_3=>K (.exit 0) (qk [(6,(.ptr 0 0)),(8,(.ptr 1 0)),(9,(.bool z_v9))]) (qh [(some (.box true (qc Av Aw Ax Ay))),(some (.box true (qc z_b1_0 z_b1_1 z_b1_2 z_b1_3)))]))
def qb5 (v1:Int)(v9:Bool)(v13:LA)(v14 v15:Int)(Av:Bool)(Aw Ax Ay:Int)(Ad:Bool)(Ae Af Ag:Int)(next:Bool->Int->Bool->Int->Int->Int->Option (AV×Bool))(kx0:Bool->Bool->Int->Int->Int->Option (AV×Bool)):Option (AV×Bool):=
 (bif(decide (v15<v14))then(oB (ixB v13 v15) fun y1=>(bif fitC qe y1.cells then(qiu v1 v9 v13 v14 v15 Av Aw Ax Ay Ad Ae Af Ag (gB y1.cells 0) (gI y1.cells 1) (gI y1.cells 2) (gI y1.cells 3) (fun v34q2=>(bif v34q2 then(next true (IntKind.i64.wrap (v15+1)) (gB y1.cells 0) (gI y1.cells 1) (gI y1.cells 2) (gI y1.cells 3))else(next v9 (IntKind.i64.wrap (v15+1)) Ad Ae Af Ag))))else none))else(kx0 v9 Ad Ae Af Ag))
def qb6 (v1:Int)(v13:LA)(v14:Int)(Av:Bool)(Aw Ax Ay:Int)(kx0:Bool->Bool->Int->Int->Int->Option (AV×Bool)):Nat->Bool->Int->Bool->Int->Int->Int->Option (AV×Bool)
 |0=>(fun _ _ _ _ _ _=>none)
 |n+1=>(fun v9 v15 Ad Ae Af Ag=>qb5 v1 v9 v13 v14 v15 Av Aw Ax Ay Ad Ae Af Ag (qb6 v1 v13 v14 Av Aw Ax Ay kx0 n) kx0)
def qjf:=hull (qb6)
theorem qqp:qjf=qb6:=qa _
def qr4:SubB Tryz.prog (TIof Tryz.prog) 39 0 (kret [(.cell 6 true 4),.t 7] qem):=lpB tabOk follows Tryz.f153 75 (.s .z (.s (.s .z (.v [.sel [6,8,9] [0,1]])) (.s (.b (.s (.r [(0,.p (.etac 17 qe))] []) (.s (.sub [.sel [1,2,6,8,9,11,13,14,15] [0,1,2]] qqo []) .z))) (.v [.sel [1,2,6,8,9,13,14,15] [0,1]])))) S52_ (qb6) (fun f v K n=>f (v.i 4 0) (v.l 52 0) (v.i 56 0) (v.b 3 0) (v.i 3 1) (v.i 3 2) (v.i 3 3) (qhf (v.b 3 0) (v.i 3 1) (v.i 3 2) (v.i 3 3) K) n) (fun v f K=>qb5 (v.i 4 0) (v.b 36 0) (v.l 52 0) (v.i 56 0) (v.i 60 0) (v.b 3 0) (v.i 3 1) (v.i 3 2) (v.i 3 3) (v.b 7 0) (v.i 7 1) (v.i 7 2) (v.i 7 3) f (qhf (v.b 3 0) (v.i 3 1) (v.i 3 2) (v.i 3 3) K)) (fun f v=>f (v.b 36 0) (v.i 60 0) (v.b 7 0) (v.i 7 1) (v.i 7 2) (v.i 7 3)) (fun k v=>(fun z0 z1 z2 z3 z4 z5=>k ((((((v.ub 36 0 z0).ui 60 0 z1).ub 7 0 z2).ui 7 1 z3).ui 7 2 z4).ui 7 3 z5)))
def qdk (v0:LA)(v1:Int):Option (AV×Bool):=
 (qjf v1 v0 (v0.length:Int) false (0:Int) (0:Int) (0:Int) (fun v9q1 b1_0q2 b1_1q3 b1_2q4 b1_3q5=>(some ((.agg [(.bool b1_0q2),(.int .u64 b1_1q3),(.int .u64 b1_2q4),(.int .i64 b1_3q5)]),v9q1))) FU false (0:Int) false (0:Int) (0:Int) (0:Int))
def qfk:=hull qdk
theorem qtd:qfk=qdk:=qa _
def qjy {R:Type}:EntF Tryz.prog R:=entB (nt:=39) (dec:=qem) (enc:=(fun r=>.tup [qcg (.st [.b,(.i .u64),(.i .u64),(.i .i64)]) r.1,.bool r.2])) tabOk follows Tryz.func153 [(.cell 6 true 4),.t 7] (hdeN fun _=>rfl) (.s .z (.s .z (.s (.s .z (.b (.sub [.sel [1,2,6,8,9,13,14,15] [0,1]] qr4 []))) .z))) S53_ qdk (fun f v=>f (v.l 0 0) (v.i 4 0))
def qlc (v0 v1:Int):Option Bool:=
 (some (decide (v0>v1)))
def q1q:=hull qlc
theorem q9v:q1q=qlc:=qa _
def qbcw {R:Type}:EntF Tryz.prog R:=entB (nt:=8) (dec:=decB) (enc:=AV.bool) tabOk follows Tryz.func151 [.t 4] hdeB (.z) S50_ qlc (fun f v=>f (v.i 0 0) (v.i 4 0))
def S54_:Shp:=⟨[(1,.one (.l (.i .i64))),(2,.one (.fn 151 [])),(6,.one (.ptr 0 0)),(8,.one (.ptr 1 0)),(9,.one (.l .b)),(11,.one (.ptr 2 0)),(13,.one (.l (.sl 4))),(14,.one (.l (.i .i64))),(15,.one (.l (.i .i64)))],[.box true (lk qe),.box true (lk qe),.box true (lk qe)]⟩
def S55_:Shp:=⟨[(1,.one (.l (.i .i64))),(2,.one (.fn 151 [])),(6,.one (.ptr 0 0)),(8,.one (.ptr 1 0)),(9,.one (.l .b)),(13,.one (.l (.sl 4))),(14,.one (.l (.i .i64))),(15,.one (.l (.i .i64)))],[.box true (lk qe),.box true (lk qe)]⟩
def S56_:Shp:=⟨[(0,.one (.l (.sl 4))),(1,.one (.l (.i .i64))),(2,.one (.fn 151 []))],[]⟩
def qen:AV->Option (AV×Bool):=decN [(.st [.b,(.i .u64),(.i .u64),(.i .i64)]),(.one .b)] fun z=>((gC (tpL z) 0),aB (gC (tpL z) 1))
def qp6 (v1:Int)(v9:Bool)(v13:LA)(v14 v15:Int)(Av:Bool)(Aw Ax Ay:Int)(Ad:Bool)(Ae Af Ag:Int)(Au:Bool)(Bc Bd Be:Int)(K:Ex->Env->Mem->Option (AV×Bool)):=(fun z_v34=>K .norm (qk [(1,(.int .i64 v1)),(2,(.func 151 [])),(6,(.ptr 0 0)),(8,(.ptr 1 0)),(9,(.bool v9)),(11,(.ptr 2 0)),(13,(.sl 4 v13)),(14,(.int .i64 v14)),(15,(.int .i64 v15)),(34,(.bool z_v34))]) (qh [(some (.box true (qc Av Aw Ax Ay))),(some (.box true (qc Ad Ae Af Ag))),(some (.box true (qc Au Bc Bd Be)))]))
def qcs (v1:Int)(v9:Bool)(v13:LA)(v14 v15:Int)(Av:Bool)(Aw Ax Ay:Int)(Ad:Bool)(Ae Af Ag:Int)(Au:Bool)(Bc Bd Be:Int)(kn:Bool->Option (AV×Bool)):Option (AV×Bool):=
 (bif(decide (Be<=v1))then(bif(!v9)then(kn true)else(oB (q1q Be Ag) fun r1=>(kn r1)))else(kn false))
def qiv:=hull (qcs)
theorem qp7:qiv=qcs:=qa _
def qqq:SubB Tryz.prog (TIof Tryz.prog) 39 0 (kret [(.cell 6 true 4),.t 7] qen):=jnB tabOk follows Tryz.f153 5323 (.r [(13,.c qbcw.b)] [.sel [1,2,6,8,9,11,13,14,15,34] [0,1,2]]) S54_ (qcs) (fun f v K=>f (v.i 4 0) (v.b 36 0) (v.l 52 0) (v.i 56 0) (v.i 60 0) (v.b 3 0) (v.i 3 1) (v.i 3 2) (v.i 3 3) (v.b 7 0) (v.i 7 1) (v.i 7 2) (v.i 7 3) (v.b 11 0) (v.i 11 1) (v.i 11 2) (v.i 11 3) (qp6 (v.i 4 0) (v.b 36 0) (v.l 52 0) (v.i 56 0) (v.i 60 0) (v.b 3 0) (v.i 3 1) (v.i 3 2) (v.i 3 3) (v.b 7 0) (v.i 7 1) (v.i 7 2) (v.i 7 3) (v.b 11 0) (v.i 11 1) (v.i 11 2) (v.i 11 3) K))
def qhg (Av:Bool)(Aw Ax Ay:Int)(K:Ex->Env->Mem->Option (AV×Bool)):=(fun z_v9 z_b1_0 z_b1_1 z_b1_2 z_b1_3=>K (.exit 0) (qk [(6,(.ptr 0 0)),(8,(.ptr 1 0)),(9,(.bool z_v9))]) (qh [(some (.box true (qc Av Aw Ax Ay))),(some (.box true (qc z_b1_0 z_b1_1 z_b1_2 z_b1_3)))]))
def qb7 (v1:Int)(v9:Bool)(v13:LA)(v14 v15:Int)(Av:Bool)(Aw Ax Ay:Int)(Ad:Bool)(Ae Af Ag:Int)(next:Bool->Int->Bool->Int->Int->Int->Option (AV×Bool))(kx0:Bool->Bool->Int->Int->Int->Option (AV×Bool)):Option (AV×Bool):=
 (bif(decide (v15<v14))then(oB (ixB v13 v15) fun y1=>(bif fitC qe y1.cells then(qiv v1 v9 v13 v14 v15 Av Aw Ax Ay Ad Ae Af Ag (gB y1.cells 0) (gI y1.cells 1) (gI y1.cells 2) (gI y1.cells 3) (fun v34q2=>(bif v34q2 then(next true (IntKind.i64.wrap (v15+1)) (gB y1.cells 0) (gI y1.cells 1) (gI y1.cells 2) (gI y1.cells 3))else(next v9 (IntKind.i64.wrap (v15+1)) Ad Ae Af Ag))))else none))else(kx0 v9 Ad Ae Af Ag))
def qb8 (v1:Int)(v13:LA)(v14:Int)(Av:Bool)(Aw Ax Ay:Int)(kx0:Bool->Bool->Int->Int->Int->Option (AV×Bool)):Nat->Bool->Int->Bool->Int->Int->Int->Option (AV×Bool)
 |0=>(fun _ _ _ _ _ _=>none)
 |n+1=>(fun v9 v15 Ad Ae Af Ag=>qb7 v1 v9 v13 v14 v15 Av Aw Ax Ay Ad Ae Af Ag (qb8 v1 v13 v14 Av Aw Ax Ay kx0 n) kx0)
def qjg:=hull (qb8)
theorem qqr:qjg=qb8:=qa _
def qr5:SubB Tryz.prog (TIof Tryz.prog) 39 0 (kret [(.cell 6 true 4),.t 7] qen):=lpB tabOk follows Tryz.f153 75 (.s .z (.s (.s .z (.v [.sel [6,8,9] [0,1]])) (.s (.b (.s (.r [(0,.p (.etac 17 qe))] []) (.s (.sub [.sel [1,2,6,8,9,11,13,14,15] [0,1,2]] qqq []) .z))) (.v [.sel [1,2,6,8,9,13,14,15] [0,1]])))) S55_ (qb8) (fun f v K n=>f (v.i 4 0) (v.l 52 0) (v.i 56 0) (v.b 3 0) (v.i 3 1) (v.i 3 2) (v.i 3 3) (qhg (v.b 3 0) (v.i 3 1) (v.i 3 2) (v.i 3 3) K) n) (fun v f K=>qb7 (v.i 4 0) (v.b 36 0) (v.l 52 0) (v.i 56 0) (v.i 60 0) (v.b 3 0) (v.i 3 1) (v.i 3 2) (v.i 3 3) (v.b 7 0) (v.i 7 1) (v.i 7 2) (v.i 7 3) f (qhg (v.b 3 0) (v.i 3 1) (v.i 3 2) (v.i 3 3) K)) (fun f v=>f (v.b 36 0) (v.i 60 0) (v.b 7 0) (v.i 7 1) (v.i 7 2) (v.i 7 3)) (fun k v=>(fun z0 z1 z2 z3 z4 z5=>k ((((((v.ub 36 0 z0).ui 60 0 z1).ub 7 0 z2).ui 7 1 z3).ui 7 2 z4).ui 7 3 z5)))
def qdl (v0:LA)(v1:Int):Option (AV×Bool):=
 (qjg v1 v0 (v0.length:Int) false (0:Int) (0:Int) (0:Int) (fun v9q1 b1_0q2 b1_1q3 b1_2q4 b1_3q5=>(some ((.agg [(.bool b1_0q2),(.int .u64 b1_1q3),(.int .u64 b1_2q4),(.int .i64 b1_3q5)]),v9q1))) FU false (0:Int) false (0:Int) (0:Int) (0:Int))
def qfl:=hull qdl
theorem qte:qfl=qdl:=qa _
def qjz {R:Type}:EntF Tryz.prog R:=entB (nt:=39) (dec:=qen) (enc:=(fun r=>.tup [qcg (.st [.b,(.i .u64),(.i .u64),(.i .i64)]) r.1,.bool r.2])) tabOk follows Tryz.func153 [(.cell 6 true 4),.t 7] (hdeN fun _=>rfl) (.s .z (.s .z (.s (.s .z (.b (.sub [.sel [1,2,6,8,9,13,14,15] [0,1]] qr5 []))) .z))) S56_ qdl (fun f v=>f (v.l 0 0) (v.i 4 0))
def qld (v0 v1:Int):Option Bool:=
 (some false)
def q1r:=hull qld
theorem q9w:q1r=qld:=qa _
def qbcx {R:Type}:EntF Tryz.prog R:=entB (nt:=5) (dec:=decB) (enc:=AV.bool) tabOk follows Tryz.func150 [.t 4] hdeB (.z) S50_ qld (fun f v=>f (v.i 0 0) (v.i 4 0))
def S57_:Shp:=⟨[(1,.one (.l (.i .i64))),(2,.one (.fn 150 [])),(6,.one (.ptr 0 0)),(8,.one (.ptr 1 0)),(9,.one (.l .b)),(11,.one (.ptr 2 0)),(13,.one (.l (.sl 4))),(14,.one (.l (.i .i64))),(15,.one (.l (.i .i64)))],[.box true (lk qe),.box true (lk qe),.box true (lk qe)]⟩
def S58_:Shp:=⟨[(1,.one (.l (.i .i64))),(2,.one (.fn 150 [])),(6,.one (.ptr 0 0)),(8,.one (.ptr 1 0)),(9,.one (.l .b)),(13,.one (.l (.sl 4))),(14,.one (.l (.i .i64))),(15,.one (.l (.i .i64)))],[.box true (lk qe),.box true (lk qe)]⟩
def S59_:Shp:=⟨[(0,.one (.l (.sl 4))),(1,.one (.l (.i .i64))),(2,.one (.fn 150 []))],[]⟩
def qeo:AV->Option (AV×Bool):=decN [(.st [.b,(.i .u64),(.i .u64),(.i .i64)]),(.one .b)] fun z=>((gC (tpL z) 0),aB (gC (tpL z) 1))
def qp8 (v1:Int)(v9:Bool)(v13:LA)(v14 v15:Int)(Av:Bool)(Aw Ax Ay:Int)(Ad:Bool)(Ae Af Ag:Int)(Au:Bool)(Bc Bd Be:Int)(K:Ex->Env->Mem->Option (AV×Bool)):=(fun z_v34=>K .norm (qk [(1,(.int .i64 v1)),(2,(.func 150 [])),(6,(.ptr 0 0)),(8,(.ptr 1 0)),(9,(.bool v9)),(11,(.ptr 2 0)),(13,(.sl 4 v13)),(14,(.int .i64 v14)),(15,(.int .i64 v15)),(34,(.bool z_v34))]) (qh [(some (.box true (qc Av Aw Ax Ay))),(some (.box true (qc Ad Ae Af Ag))),(some (.box true (qc Au Bc Bd Be)))]))
def qct (v1:Int)(v9:Bool)(v13:LA)(v14 v15:Int)(Av:Bool)(Aw Ax Ay:Int)(Ad:Bool)(Ae Af Ag:Int)(Au:Bool)(Bc Bd Be:Int)(kn:Bool->Option (AV×Bool)):Option (AV×Bool):=
 (bif(decide (Be<=v1))then(bif(!v9)then(kn true)else(oB (q1r Be Ag) fun r1=>(kn r1)))else(kn false))
def qiw:=hull (qct)
theorem qp9:qiw=qct:=qa _
def qqs:SubB Tryz.prog (TIof Tryz.prog) 39 0 (kret [(.cell 6 true 4),.t 7] qeo):=jnB tabOk follows Tryz.f153 5323 (.r [(13,.c qbcx.b)] [.sel [1,2,6,8,9,11,13,14,15,34] [0,1,2]]) S57_ (qct) (fun f v K=>f (v.i 4 0) (v.b 36 0) (v.l 52 0) (v.i 56 0) (v.i 60 0) (v.b 3 0) (v.i 3 1) (v.i 3 2) (v.i 3 3) (v.b 7 0) (v.i 7 1) (v.i 7 2) (v.i 7 3) (v.b 11 0) (v.i 11 1) (v.i 11 2) (v.i 11 3) (qp8 (v.i 4 0) (v.b 36 0) (v.l 52 0) (v.i 56 0) (v.i 60 0) (v.b 3 0) (v.i 3 1) (v.i 3 2) (v.i 3 3) (v.b 7 0) (v.i 7 1) (v.i 7 2) (v.i 7 3) (v.b 11 0) (v.i 11 1) (v.i 11 2) (v.i 11 3) K))
def qhh (Av:Bool)(Aw Ax Ay:Int)(K:Ex->Env->Mem->Option (AV×Bool)):=(fun z_v9 z_b1_0 z_b1_1 z_b1_2 z_b1_3=>K (.exit 0) (qk [(6,(.ptr 0 0)),(8,(.ptr 1 0)),(9,(.bool z_v9))]) (qh [(some (.box true (qc Av Aw Ax Ay))),(some (.box true (qc z_b1_0 z_b1_1 z_b1_2 z_b1_3)))]))
def qb9 (v1:Int)(v9:Bool)(v13:LA)(v14 v15:Int)(Av:Bool)(Aw Ax Ay:Int)(Ad:Bool)(Ae Af Ag:Int)(next:Bool->Int->Bool->Int->Int->Int->Option (AV×Bool))(kx0:Bool->Bool->Int->Int->Int->Option (AV×Bool)):Option (AV×Bool):=
 (bif(decide (v15<v14))then(oB (ixB v13 v15) fun y1=>(bif fitC qe y1.cells then(qiw v1 v9 v13 v14 v15 Av Aw Ax Ay Ad Ae Af Ag (gB y1.cells 0) (gI y1.cells 1) (gI y1.cells 2) (gI y1.cells 3) (fun v34q2=>(bif v34q2 then(next true (IntKind.i64.wrap (v15+1)) (gB y1.cells 0) (gI y1.cells 1) (gI y1.cells 2) (gI y1.cells 3))else(next v9 (IntKind.i64.wrap (v15+1)) Ad Ae Af Ag))))else none))else(kx0 v9 Ad Ae Af Ag))
def qca (v1:Int)(v13:LA)(v14:Int)(Av:Bool)(Aw Ax Ay:Int)(kx0:Bool->Bool->Int->Int->Int->Option (AV×Bool)):Nat->Bool->Int->Bool->Int->Int->Int->Option (AV×Bool)
 |0=>(fun _ _ _ _ _ _=>none)
 |n+1=>(fun v9 v15 Ad Ae Af Ag=>qb9 v1 v9 v13 v14 v15 Av Aw Ax Ay Ad Ae Af Ag (qca v1 v13 v14 Av Aw Ax Ay kx0 n) kx0)
def qjh:=hull (qca)
theorem qqt:qjh=qca:=qa _
def qr6:SubB Tryz.prog (TIof Tryz.prog) 39 0 (kret [(.cell 6 true 4),.t 7] qeo):=lpB tabOk follows Tryz.f153 75 (.s .z (.s (.s .z (.v [.sel [6,8,9] [0,1]])) (.s (.b (.s (.r [(0,.p (.etac 17 qe))] []) (.s (.sub [.sel [1,2,6,8,9,11,13,14,15] [0,1,2]] qqs []) .z))) (.v [.sel [1,2,6,8,9,13,14,15] [0,1]])))) S58_ (qca) (fun f v K n=>f (v.i 4 0) (v.l 52 0) (v.i 56 0) (v.b 3 0) (v.i 3 1) (v.i 3 2) (v.i 3 3) (qhh (v.b 3 0) (v.i 3 1) (v.i 3 2) (v.i 3 3) K) n) (fun v f K=>qb9 (v.i 4 0) (v.b 36 0) (v.l 52 0) (v.i 56 0) (v.i 60 0) (v.b 3 0) (v.i 3 1) (v.i 3 2) (v.i 3 3) (v.b 7 0) (v.i 7 1) (v.i 7 2) (v.i 7 3) f (qhh (v.b 3 0) (v.i 3 1) (v.i 3 2) (v.i 3 3) K)) (fun f v=>f (v.b 36 0) (v.i 60 0) (v.b 7 0) (v.i 7 1) (v.i 7 2) (v.i 7 3)) (fun k v=>(fun z0 z1 z2 z3 z4 z5=>k ((((((v.ub 36 0 z0).ui 60 0 z1).ub 7 0 z2).ui 7 1 z3).ui 7 2 z4).ui 7 3 z5)))
def qdm (v0:LA)(v1:Int):Option (AV×Bool):=
 (qjh v1 v0 (v0.length:Int) false (0:Int) (0:Int) (0:Int) (fun v9q1 b1_0q2 b1_1q3 b1_2q4 b1_3q5=>(some ((.agg [(.bool b1_0q2),(.int .u64 b1_1q3),(.int .u64 b1_2q4),(.int .i64 b1_3q5)]),v9q1))) FU false (0:Int) false (0:Int) (0:Int) (0:Int))
def qfm:=hull qdm
theorem qtf:qfm=qdm:=qa _
def qj0 {R:Type}:EntF Tryz.prog R:=entB (nt:=39) (dec:=qeo) (enc:=(fun r=>.tup [qcg (.st [.b,(.i .u64),(.i .u64),(.i .i64)]) r.1,.bool r.2])) tabOk follows Tryz.func153 [(.cell 6 true 4),.t 7] (hdeN fun _=>rfl) (.s .z (.s .z (.s (.s .z (.b (.sub [.sel [1,2,6,8,9,13,14,15] [0,1]] qr6 []))) .z))) S59_ qdm (fun f v=>f (v.l 0 0) (v.i 4 0))
def q4u {R:Type}:List AV->(AV->Option R)->Option R:=(fun xs K=>bif fnAt xs 2 152 then qjy.e xs K else(fun xs K=>bif fnAt xs 2 151 then qjz.e xs K else qj0.e xs K) xs K)
theorem q7m {R:Type}:qdi Tryz.prog 153 (q4u (R:=R)):=(qbwy (fun xs=>fnAt xs 2 152) qjy.h (qbwy (fun xs=>fnAt xs 2 151) qjz.h qj0.h))
def S60_:Shp:=⟨[(0,.one (.l (.sl 8))),(1,.st (lk qe)),(2,.one (.l (.i .i64))),(3,.one (.l (.i .i64)))],[]⟩
def qbcy:AV->Option (AV×Int):=decN [(.st [.b,(.i .u64),(.i .u64),(.i .i64)]),(.one (.i .i64))] fun z=>((gC (tpL z) 0),aI (gC (tpL z) 1))
def qnj (v0:LA)(B7:Bool)(B8 B9 Ca v2 v3:Int):Option (AV×Int):=
 (oB (qqf v0 B7 B8 B9 Ca) fun r1=>(bif(!r1.2)then(some ((.agg [(.bool false),(.int .u64 (0:Int)),(.int .u64 (0:Int)),(.int .i64 (0:Int))]),(11:Int)))else(bif((gI r1.1.cells 4) != (1:Int))then(some ((.agg [(.bool false),(.int .u64 (0:Int)),(.int .u64 (0:Int)),(.int .i64 (0:Int))]),(21:Int)))else(bif(decide (v2<Ca))then(some ((.agg [(.bool false),(.int .u64 (0:Int)),(.int .u64 (0:Int)),(.int .i64 (0:Int))]),(1:Int)))else(oB (qw0 B7 B8 B9 Ca) fun r2=>(bif(((decide (v2>r2))||(decide (v3<1)))||(decide (v3>3)))then(some ((.agg [(.bool false),(.int .u64 (0:Int)),(.int .u64 (0:Int)),(.int .i64 (0:Int))]),(1:Int)))else(oB (qzr v0 B7 B8 B9 Ca) fun r6=>(bif((v3==1)&&true)then(oB (qfm r6 v2) fun r9=>(bif(!r9.2)then(some ((.agg [(.bool false),(.int .u64 (0:Int)),(.int .u64 (0:Int)),(.int .i64 (0:Int))]),(22:Int)))else(bif((v3==3)&&(decide ((gI r9.1.cells 3)<v2)))then(oB (qjr (gB r9.1.cells 0) (gI r9.1.cells 1) (gI r9.1.cells 2) (gI r9.1.cells 3)) fun r16=>(oB (qea (gB r16.2.1.cells 0) (gI r16.2.1.cells 1) (gI r16.2.1.cells 2) (gI r16.2.1.cells 3) v2 (0:Int)) fun r17=>(some ((.agg [(.bool (gB r17.1.cells 0)),(.int .u64 (gI r17.1.cells 1)),(.int .u64 (gI r17.1.cells 2)),(.int .i64 (gI r17.1.cells 3))]),(0:Int)))))else(oB (qea (gB r9.1.cells 0) (gI r9.1.cells 1) (gI r9.1.cells 2) (gI r9.1.cells 3) v2 (0:Int)) fun r18=>(some ((.agg [(.bool (gB r18.1.cells 0)),(.int .u64 (gI r18.1.cells 1)),(.int .u64 (gI r18.1.cells 2)),(.int .i64 (gI r18.1.cells 3))]),(0:Int)))))))else(bif((v3==2)&&true)then(oB (qfl r6 v2) fun r8=>(bif(!r8.2)then(some ((.agg [(.bool false),(.int .u64 (0:Int)),(.int .u64 (0:Int)),(.int .i64 (0:Int))]),(22:Int)))else(bif((v3==3)&&(decide ((gI r8.1.cells 3)<v2)))then(oB (qjr (gB r8.1.cells 0) (gI r8.1.cells 1) (gI r8.1.cells 2) (gI r8.1.cells 3)) fun r13=>(oB (qea (gB r13.2.1.cells 0) (gI r13.2.1.cells 1) (gI r13.2.1.cells 2) (gI r13.2.1.cells 3) v2 (0:Int)) fun r14=>(some ((.agg [(.bool (gB r14.1.cells 0)),(.int .u64 (gI r14.1.cells 1)),(.int .u64 (gI r14.1.cells 2)),(.int .i64 (gI r14.1.cells 3))]),(0:Int)))))else(oB (qea (gB r8.1.cells 0) (gI r8.1.cells 1) (gI r8.1.cells 2) (gI r8.1.cells 3) v2 (0:Int)) fun r15=>(some ((.agg [(.bool (gB r15.1.cells 0)),(.int .u64 (gI r15.1.cells 1)),(.int .u64 (gI r15.1.cells 2)),(.int .i64 (gI r15.1.cells 3))]),(0:Int)))))))else(bif((v3==3)&&true)then(oB (qfk r6 v2) fun r7=>(bif(!r7.2)then(some ((.agg [(.bool false),(.int .u64 (0:Int)),(.int .u64 (0:Int)),(.int .i64 (0:Int))]),(22:Int)))else(bif((v3==3)&&(decide ((gI r7.1.cells 3)<v2)))then(oB (qjr (gB r7.1.cells 0) (gI r7.1.cells 1) (gI r7.1.cells 2) (gI r7.1.cells 3)) fun r10=>(oB (qea (gB r10.2.1.cells 0) (gI r10.2.1.cells 1) (gI r10.2.1.cells 2) (gI r10.2.1.cells 3) v2 (0:Int)) fun r11=>(some ((.agg [(.bool (gB r11.1.cells 0)),(.int .u64 (gI r11.1.cells 1)),(.int .u64 (gI r11.1.cells 2)),(.int .i64 (gI r11.1.cells 3))]),(0:Int)))))else(oB (qea (gB r7.1.cells 0) (gI r7.1.cells 1) (gI r7.1.cells 2) (gI r7.1.cells 3) v2 (0:Int)) fun r12=>(some ((.agg [(.bool (gB r12.1.cells 0)),(.int .u64 (gI r12.1.cells 1)),(.int .u64 (gI r12.1.cells 2)),(.int .i64 (gI r12.1.cells 3))]),(0:Int)))))))else none))))))))))
def qw4:=hull qnj
theorem qbe3:qw4=qnj:=qa _
def qbiy {R:Type}:EntF Tryz.prog R:=entB (nt:=86) (dec:=qbcy) (enc:=(fun r=>.tup [qcg (.st [.b,(.i .u64),(.i .u64),(.i .i64)]) r.1,.int .i64 r.2])) tabOk follows Tryz.func98 [(.cell 8 true 4),.t 9] (hdeN fun _=>rfl) (.s .z (.s (.r [(2,.c qu2.b)] []) (.s (.b (.s .z (.s .z (.s .z (.s .z (.s (.r [(7,.c qbiq.b),(11,.g 2),(15,.g 2)] []) .z)))))) (.s .z (.s (.d [] [(2,.c qbsw.b),(7,.c (eB q7m))] [] []) (.s .z (.s (.s (.r [(3,.g 4)] []) (.s (.r [(1,.c qw1.b)] []) .z)) (.s (.r [(2,.c q09.b)] []) .z)))))))) S60_ qnj (fun f v=>f (v.l 0 0) (v.b 5 0) (v.i 5 1) (v.i 5 2) (v.i 5 3) (v.i 8 0) (v.i 12 0))
def S61_:Shp:=⟨[(0,.one (.l (.sl 8))),(1,.st (lk qe)),(2,.one (.l (.i .i64))),(3,.one (.l (.i .i64))),(4,.one (.l .s)),(5,.one (.l .s))],[]⟩
def q7n:AV->Option ((List AV)×AV×Int):=decN [(.one (.sl 8)),(.st [.b,(.i .u64),(.i .u64),(.i .i64)]),(.one (.i .i64))] fun z=>(aL (gC (tpL z) 0),(gC (tpL z) 1),aI (gC (tpL z) 2))
def qle (v0:LA)(B7:Bool)(B8 B9 Ca v2 v3:Int)(v4 v5:LU):Option ((List AV)×AV×Int):=
 (oB (qw4 v0 B7 B8 B9 Ca v2 v3) fun r1=>(bif(r1.2 != (0:Int))then(some (([]:List AV),(.agg [(.bool false),(.int .u64 (0:Int)),(.int .u64 (0:Int)),(.int .i64 (0:Int))]),r1.2))else(oB (q2a v0 (gB r1.1.cells 0) (gI r1.1.cells 1) (gI r1.1.cells 2) (gI r1.1.cells 3) (2:Int) v4 v5 (0:Int)) fun r2=>(bif(r2.2 != (0:Int))then(some (([]:List AV),(.agg [(.bool false),(.int .u64 (0:Int)),(.int .u64 (0:Int)),(.int .i64 (0:Int))]),r2.2))else(some (r2.1,(.agg [(.bool (gB r1.1.cells 0)),(.int .u64 (gI r1.1.cells 1)),(.int .u64 (gI r1.1.cells 2)),(.int .i64 (gI r1.1.cells 3))]),(0:Int)))))))
def qnk:=hull qle
theorem q9x:qnk=qle:=qa _
def qya {R:Type}:EntF Tryz.prog R:=entB (nt:=45) (dec:=q7n) (enc:=(fun r=>.tup [.sl 8 r.1,qcg (.st [.b,(.i .u64),(.i .u64),(.i .i64)]) r.2.1,.int .i64 r.2.2])) tabOk follows Tryz.func42 [.t 12,(.cell 13 true 4),.t 14] (hdeN fun _=>rfl) (.s .z (.s (.r [(4,.c qbiy.b)] []) (.s (.s .z (.s (.s .z (.v [.eta 12 (.one (.sl 8))])) .z)) (.s (.r [(5,.k qbes.b)] []) (.s (.s .z (.s (.s .z (.v [.eta 12 (.one (.sl 8))])) .z)) .z))))) S61_ qle (fun f v=>f (v.l 0 0) (v.b 5 0) (v.i 5 1) (v.i 5 2) (v.i 5 3) (v.i 8 0) (v.i 12 0) (v.s 16 0) (v.s 20 0))
def S62_:Shp:=⟨[(0,.one (.l .s)),(1,.one (.l .s))],[]⟩
def qhs (v0 v1:LU):Option Bool:=
 (bif(decide ((v0.length:Int)>=(v1.length:Int)))then(oB (cutI v0 (some (IntKind.i64.wrap ((v0.length:Int)-(v1.length:Int)))) none) fun s1=>(some (s1==v1)))else(some false))
def qv2:=hull qhs
theorem q3d:qv2=qhs:=qa _
def q4v {R:Type}:EntF Tryz.prog R:=entB (nt:=21) (dec:=decB) (enc:=AV.bool) tabOk follows Tryz.func168 [.t 4] hdeB (.z) S62_ qhs (fun f v=>f (v.s 0 0) (v.s 4 0))
def qlf (v0 v1:LU):Option Bool:=
 (oB (qv2 v0 v1) fun r1=>(some r1))
def qnl:=hull qlf
theorem q9y:qnl=qlf:=qa _
def qyb {R:Type}:EntF Tryz.prog R:=entB (nt:=8) (dec:=decB) (enc:=AV.bool) tabOk follows Tryz.func113 [.t 4] hdeB (.s .z (.s (.r [(2,.c q4v.b)] []) .z)) S62_ qlf (fun f v=>f (v.s 0 0) (v.s 4 0))
theorem qbtk {R:Type}:qkr Tryz.prog 195 (qzk (R:=R)):=qbwa Tryz.func195 (by kernel_rfl) (by kernel_rfl) (by kernel_rfl) (by kernel_rfl)
theorem qbtl {R:Type}:qkr Tryz.prog 203 (qzl (R:=R)):=qbwb Tryz.func203 (by kernel_rfl) (by kernel_rfl) (by kernel_rfl) (by kernel_rfl)
def S63_:Shp:=⟨[(0,.one (.l .s)),(1,.one (.l (.i .u8)))],[]⟩
def qht (v0:LU)(v1:Int):Option Int:=
 (oB (q2l v0 v1) fun r1=>(some r1))
def qv3:=hull qht
theorem q3e:qv3=qht:=qa _
def q4w {R:Type}:EntF Tryz.prog R:=entB (nt:=8) (dec:=(decI .i64)) (enc:=(AV.int .i64)) tabOk follows Tryz.func199 [.t 4] hdeI (.s .z (.s (.r [(2,.c (eK qbtl))] []) .z)) S63_ qht (fun f v=>f (v.s 0 0) (v.i 4 0))
def qlg (v0 v1:LU):Option Int:=
 (bif(((v1.length:Int)==0)||(v1==v0))then(some (0:Int))else(bif((v1.length:Int)==1)then(oB (ixB v1 (0:Int)) fun c1=>(oB (qv3 v0 (c1.toNat:Int)) fun r2=>(some r2)))else(bif(decide ((v1.length:Int)>=(v0.length:Int)))then(some (-1:Int))else none)))
def q1s:=hull qlg
theorem q9z:q1s=qlg:=qa _
def qbcz {R:Type}:EntF Tryz.prog R:=entB (nt:=143) (dec:=(decI .i64)) (enc:=(AV.int .i64)) tabOk follows Tryz.func196 [.t 4] hdeI (.s .z (.s .z (.s (.b (.s (.r [(3,.g 3)] []) (.s .z (.s .z (.s (.s (.r [(3,.c q4w.b)] []) .z) .z))))) (.s .z (.s .z (.s .z (.s .z (.s .z (.s (.b .x) .z))))))))) S62_ qlg (fun f v=>f (v.s 0 0) (v.s 4 0))
def qrc (v0 v1:LU):Option Int:=
 (oB (q1s v0 v1) fun r1=>(some r1))
def qu5:=hull qrc
theorem qbk3:qu5=qrc:=qa _
def q5e {R:Type}:EntF Tryz.prog R:=entB (nt:=8) (dec:=(decI .i64)) (enc:=(AV.int .i64)) tabOk follows Tryz.func187 [.t 4] hdeI (.s .z (.s (.r [(2,.c qbcz.b)] []) .z)) S62_ qrc (fun f v=>f (v.s 0 0) (v.s 4 0))
def S64_:Shp:=⟨[(0,.one (.l .s)),(1,.one (.l .s)),(5,.one (.l (.i .i64)))],[]⟩
def qyc (v0 v1:LU)(v5:Int)(next:(List UInt8)->Int->Option Int):Option Int:=
 (oB (qu5 v0 v1) fun r1=>(bif(r1==(-1))then(some v5)else(oB (cutI v0 (some (IntKind.i64.wrap (r1+(v1.length:Int)))) none) fun s2=>(next s2 (IntKind.i64.wrap (v5+1))))))
def qqu (v1:LU):Nat->(List UInt8)->Int->Option Int
 |0=>(fun _ _=>none)
 |n+1=>(fun v0 v5=>qyc v0 v1 v5 (qqu v1 n))
def qbiz:=hull (qqu)
def qbc0:SubB Tryz.prog (TIof Tryz.prog) 34 0 (kret [.t 4] (decI .i64)):=lpB tabOk follows Tryz.f186 79 (.b (.s (.r [(2,.c q5e.b)] []) (.s .z (.s .z (.v [.sel [0,1,5] []]))))) S64_ (qqu) (fun f v K n=>f (v.s 4 0) n) (fun v f K=>qyc (v.s 0 0) (v.s 4 0) (v.i 20 0) f) (fun f v=>f (v.s 0 0) (v.i 20 0)) (fun k v=>(fun z0 z1=>k ((v.us 0 0 z0).ui 20 0 z1)))
def qrd (v0 v1:LU):Option Int:=
 (bif((v1.length:Int)==0)then none else(bif((v1.length:Int)==1)then(oB (ixB v1 (0:Int)) fun c1=>(oB (q2k v0 (c1.toNat:Int)) fun r2=>(some r2)))else(qbiz v1 FU v0 (0:Int))))
def q1a:=hull qrd
theorem qbk4:q1a=qrd:=qa _
def qbmu {R:Type}:EntF Tryz.prog R:=entB (nt:=34) (dec:=(decI .i64)) (enc:=(AV.int .i64)) tabOk follows Tryz.func186 [.t 4] hdeI (.s .z (.s (.s .z (.s (.s (.r [(1,.c (eK (qbzr (f:=193))))] []) .z) .z)) (.s (.s .z (.s (.s (.r [(3,.c (eK qbtk))] []) .z) .z)) (.s .z (.b (.sub [.sel [0,1,5] []] qbc0 [])))))) S62_ qrd (fun f v=>f (v.s 0 0) (v.s 4 0))
def S65_:Shp:=⟨[(0,.one (.l .s)),(1,.one (.l .s)),(2,.one (.l (.i .i64))),(3,.one (.l (.i .i64)))],[]⟩
def S66_:Shp:=⟨[(0,.one (.l .s)),(1,.one (.l .s)),(2,.one (.l (.i .i64))),(3,.one (.l (.i .i64))),(9,.one (.own 0)),(10,.one (.l (.i .i64)))],[.arr true 1]⟩
def q4x (v0 v1:LU)(v2:Int)(K:Ex->Env->Mem->Option (List AV)):=(fun z_v3=>K .norm (qk [(0,(.str v0)),(1,(.str v1)),(2,(.int .i64 v2)),(3,(.int .i64 z_v3))]) (qh []))
def qik (v0 v1:LU)(v2 v3:Int)(kn:Int->Option (List AV)):Option (List AV):=
 (bif(decide (v3<0))then(oB (q1a v0 v1) fun r1=>(kn (IntKind.i64.wrap (r1+1))))else(kn v3))
def qw5:=hull (qik)
theorem q4y:qw5=qik:=qa _
def q6j:SubB Tryz.prog (TIof Tryz.prog) 66 0 (kret [.t 8] (decX (.one (.sl 1)) fun z=>aL z)):=jnB tabOk follows Tryz.f169 23 (.s .z (.s (.r [(2,.c qbmu.b)] [.sel [0,1,2,3] []]) (.v [.sel [0,1,2,3] []]))) S65_ (qik) (fun f v K=>f (v.s 0 0) (v.s 4 0) (v.i 8 0) (v.i 12 0) (q4x (v.s 0 0) (v.s 4 0) (v.i 8 0) K))
def qsc (K:Ex->Env->Mem->Option (List AV)):=(fun z_v0 z_v10 z_a0=>K (.exit 0) (qk [(0,(.str z_v0)),(9,(.own 0 z_a0.length)),(10,(.int .i64 z_v10))]) (qh [(some (.arr true 1 z_a0))]))
def qfa (v0 v1:LU)(v2 v3 v10:Int)(a0:LA)(next:(List UInt8)->Int->(List AV)->Option (List AV))(kx0:(List UInt8)->Int->(List AV)->Option (List AV)):Option (List AV):=
 (bif(decide (v10<v3))then(oB (qu5 v0 v1) fun r1=>(bif(decide (r1<0))then(kx0 v0 v10 a0)else(oB (cutI v0 none (some (IntKind.i64.wrap (r1+v2)))) fun s2=>(bif hd a0 a0.length then(bif decide (0<=v10/\v10<a0.length)then(bif hd a0 a0.length then(oB (a0[v10.toNat]?) fun y3=>(oB (putE y3 0 1 [(.str s2)]) fun z4=>(oB (cutI v0 (some (IntKind.i64.wrap (r1+(v1.length:Int)))) none) fun s5=>(bif hd (a0.set v10.toNat z4) a0.length then(next s5 (IntKind.i64.wrap (v10+1)) (a0.set v10.toNat z4))else none))))else none)else none)else none))))else(kx0 v0 v10 a0))
def qdc (v1:LU)(v2 v3:Int)(kx0:(List UInt8)->Int->(List AV)->Option (List AV)):Nat->(List UInt8)->Int->(List AV)->Option (List AV)
 |0=>(fun _ _ _=>none)
 |n+1=>(fun v0 v10 a0=>qfa v0 v1 v2 v3 v10 a0 (qdc v1 v2 v3 kx0 n) kx0)
def qw6:=hull (qdc)
theorem q4z:qw6=qdc:=qa _
def q6k:SubB Tryz.prog (TIof Tryz.prog) 66 0 (kret [.t 8] (decX (.one (.sl 1)) fun z=>aL z)):=lpB tabOk follows Tryz.f169 2303 (.s (.s .z (.s .z (.v [.sel [0,9,10] [0]]))) (.b (.s (.r [(2,.c q5e.b)] []) (.s (.s .z (.s (.v [.sel [0,9,10] [0]]) .z)) (.s .z (.s .z (.v [.hd 9,.sel [0,1,2,3,9,10] [0]]))))))) S66_ (qdc) (fun f v K n=>f (v.s 4 0) (v.i 8 0) (v.i 12 0) (qsc K) n) (fun v f K=>qfa (v.s 0 0) (v.s 4 0) (v.i 8 0) (v.i 12 0) (v.i 40 0) (v.r 0) f (qsc K)) (fun f v=>f (v.s 0 0) (v.i 40 0) (v.r 0)) (fun k v=>(fun z0 z1 z2=>k (((v.us 0 0 z0).ui 40 0 z1).ur 0 z2)))
def ql7 (v0 v1:LU)(v2 v3:Int):Option (List AV):=
 (bif(v3==0)then(some ([]:List AV))else(bif(v1==([]:List UInt8))then none else(qw5 v0 v1 v2 v3 (fun v3q1=>(bif decide (0<=(if(IntKind.i64.wrap ((v0.length:Int)+1))<v3q1 then(IntKind.i64.wrap ((v0.length:Int)+1))else v3q1)/\(if(IntKind.i64.wrap ((v0.length:Int)+1))<v3q1 then(IntKind.i64.wrap ((v0.length:Int)+1))else v3q1)<=(if(IntKind.i64.wrap ((v0.length:Int)+1))<v3q1 then(IntKind.i64.wrap ((v0.length:Int)+1))else v3q1)/\(if(IntKind.i64.wrap ((v0.length:Int)+1))<v3q1 then(IntKind.i64.wrap ((v0.length:Int)+1))else v3q1)*16<=281474976710656)then(bif(hd (List.replicate (if(IntKind.i64.wrap ((v0.length:Int)+1))<v3q1 then(IntKind.i64.wrap ((v0.length:Int)+1))else v3q1).toNat ((.str ([]:List UInt8)):AV)) ((List.replicate (if(IntKind.i64.wrap ((v0.length:Int)+1))<v3q1 then(IntKind.i64.wrap ((v0.length:Int)+1))else v3q1).toNat ((.str ([]:List UInt8)):AV)).length)&&true)then(qw6 v1 v2 (IntKind.i64.wrap ((if(IntKind.i64.wrap ((v0.length:Int)+1))<v3q1 then(IntKind.i64.wrap ((v0.length:Int)+1))else v3q1)-1)) (fun v0q2 v10q3 a0q4=>(bif hd a0q4 a0q4.length then(bif decide (0<=v10q3/\v10q3<a0q4.length)then(bif hd a0q4 a0q4.length then(oB (a0q4[v10q3.toNat]?) fun y5=>(oB (putE y5 0 1 [(.str v0q2)]) fun z6=>(bif hd (a0q4.set v10q3.toNat z6) a0q4.length then(oB (cutI (a0q4.set v10q3.toNat z6) none (some (IntKind.i64.wrap (v10q3+1)))) fun s7=>(some s7))else none)))else none)else none)else none)) FU v0 (0:Int) (List.replicate (if(IntKind.i64.wrap ((v0.length:Int)+1))<v3q1 then(IntKind.i64.wrap ((v0.length:Int)+1))else v3q1).toNat ((.str ([]:List UInt8)):AV)))else none)else none)))))
def q3f:=hull ql7
theorem qbc1:q3f=ql7:=qa _
def qbe4 {R:Type}:EntF Tryz.prog R:=entB (nt:=66) (dec:=(decX (.one (.sl 1)) fun z=>aL z)) (enc:=(fun r=>.sl 1 r)) tabOk follows Tryz.func169 [.t 8] (hdeX fun _=>rfl) (.s .z (.s (.s .z (.s (.s .z (.v [.eta 8 (.one (.sl 1))])) .z)) (.s (.s .z (.s (.s (.r [(2,.c (eK (qbzr (f:=185))))] []) .z) .z)) (.s (.sub [.sel [0,1,2,3] []] q6j []) (.s .z (.s .z (.s .z (.s .z (.s (.b (.sub [.sel [0,1,2,3,9,10] [0]] q6k [])) .z))))))))) S65_ ql7 (fun f v=>f (v.s 0 0) (v.s 4 0) (v.i 8 0) (v.i 12 0))
def qre (v0 v1:LU):Option (List AV):=
 (oB (q3f v0 v1 (0:Int) (-1:Int)) fun r1=>(some r1))
def qu6:=hull qre
theorem qbk5:qu6=qre:=qa _
def q5f {R:Type}:EntF Tryz.prog R:=entB (nt:=8) (dec:=(decX (.one (.sl 1)) fun z=>aL z)) (enc:=(fun r=>.sl 1 r)) tabOk follows Tryz.func114 [.t 4] (hdeX fun _=>rfl) (.s .z (.s (.r [(2,.k qbe4.b)] []) .z)) S62_ qre (fun f v=>f (v.s 0 0) (v.s 4 0))
def S67_:Shp:=⟨[(0,.one (.l .s)),(4,.one (.l (.i .u8))),(13,.one (.l (.i .i64))),(14,.one (.l (.i .i64)))],[]⟩
def S68_:Shp:=⟨[(0,.one (.l .s)),(13,.one (.l (.i .i64))),(14,.one (.l (.i .i64)))],[]⟩
def S69_:Shp:=⟨[(0,.one (.l .s))],[]⟩
def q7o (v0:LU)(v13 v14:Int)(K:Ex->Env->Mem->Option Bool):=(fun z_v41=>K .norm (qk [(0,(.str v0)),(13,(.int .i64 v13)),(14,(.int .i64 v14)),(41,(.bool z_v41))]) (qh []))
def qka (v0:LU)(v4 v13 v14:Int)(kn:Bool->Option Bool):Option Bool:=
 (bif((decide (v4<97))||(decide (v4>122)))then(bif(decide (v4<48))then(kn ((v4 != (45:Int))&&(v4 != (95:Int))))else(kn (((decide (v4>57))&&(v4 != (45:Int)))&&(v4 != (95:Int)))))else(kn false))
def qsd:=hull (qka)
theorem q7p:qsd=qka:=qa _
def q90:SubB Tryz.prog (TIof Tryz.prog) 43 0 (kret [.t 2] decB):=jnB tabOk follows Tryz.f115 11467 (.r [(3,.g 2),(15,.g 2),(19,.g 2)] [.sel [0,13,14,41] []]) S67_ (qka) (fun f v K=>f (v.s 0 0) (v.i 16 0) (v.i 52 0) (v.i 56 0) (q7o (v.s 0 0) (v.i 52 0) (v.i 56 0) K))
def quf (K:Ex->Env->Mem->Option Bool):=(fun(_:Unit)=>K (.exit 0) (qk []) (qh []))
def qgi (v0:LU)(v13 v14:Int)(next:Int->Option Bool)(kx0:Unit->Option Bool):Option Bool:=
 (bif(decide (v14<v13))then(oB (ixB v0 v14) fun c1=>(qsd v0 (c1.toNat:Int) v13 v14 (fun v41q2=>(bif v41q2 then(some false)else(next (IntKind.i64.wrap (v14+1)))))))else(kx0 ()))
def qgj (v0:LU)(v13:Int)(kx0:Unit->Option Bool):Nat->Int->Option Bool
 |0=>(fun _=>none)
 |n+1=>(fun v14=>qgi v0 v13 v14 (qgj v0 v13 kx0 n) kx0)
def qz7:=hull (qgj)
theorem q7q:qz7=qgj:=qa _
def q91:SubB Tryz.prog (TIof Tryz.prog) 43 0 (kret [.t 2] decB):=lpB tabOk follows Tryz.f115 75 (.s .z (.s (.s .z (.v [.sel [] []])) (.s (.b (.s .z (.s .z (.s (.sub [.sel [0,4,13,14] []] q90 []) .z)))) (.v [.sel [0,13,14] []])))) S68_ (qgj) (fun f v K n=>f (v.s 0 0) (v.i 52 0) (quf K) n) (fun v f K=>qgi (v.s 0 0) (v.i 52 0) (v.i 56 0) f (quf K)) (fun f v=>f (v.i 56 0)) (fun k v=>(fun z0=>k (v.ui 56 0 z0)))
def qo2 (v0:LU):Option Bool:=
 (bif((v0==([]:List UInt8))||(decide ((v0.length:Int)>63)))then(some false)else(qz7 v0 (v0.length:Int) (fun(_:Unit)=>(some true)) FU (0:Int)))
def qyw:=hull qo2
theorem qbi0:qyw=qo2:=qa _
def qbk6 {R:Type}:EntF Tryz.prog R:=entB (nt:=43) (dec:=decB) (enc:=AV.bool) tabOk follows Tryz.func115 [.t 2] hdeB (.s .z (.s (.s (.r [(3,.g 3)] []) .z) (.s (.s .z (.b (.sub [.sel [0,13,14] []] q91 []))) .z))) S69_ qo2 (fun f v=>f (v.s 0 0))
def S70_:Shp:=⟨[(3,.one (.l (.i .i64))),(4,.one (.l .s)),(20,.one (.l (.sl 1))),(21,.one (.l (.i .i64))),(22,.one (.l (.i .i64)))],[]⟩
def S71_:Shp:=⟨[(20,.one (.l (.sl 1))),(21,.one (.l (.i .i64))),(22,.one (.l (.i .i64)))],[]⟩
def qbe5 (v0:LU)(K:Ex->Env->Mem->Option Bool):=(fun z_v14=>K .norm (qk [(0,(.str v0)),(14,(.bool z_v14))]) (qh []))
def qnm (v0:LU)(kn:Bool->Option Bool):Option Bool:=
 (bif(decide ((v0.length:Int)>=255))then(kn true)else(oB (qnl v0 ([46]:List UInt8)) fun r1=>(kn (!r1))))
def q5g:=hull (qnm)
theorem qbe6:q5g=qnm:=qa _
def qbi1:SubB Tryz.prog (TIof Tryz.prog) 39 0 (kret [.t 2] decB):=jnB tabOk follows Tryz.f59 19 (.r [(5,.c qyb.b)] [.sel [0,14] []]) S69_ (qnm) (fun f v K=>f (v.s 0 0) (qbe5 (v.s 0 0) K))
def qbe7 (v20:LA)(v21 v22:Int)(K:Ex->Env->Mem->Option Bool):=(fun z_v37=>K .norm (qk [(20,(.sl 1 v20)),(21,(.int .i64 v21)),(22,(.int .i64 v22)),(37,(.bool z_v37))]) (qh []))
def qnn (v3:Int)(v4:LU)(v20:LA)(v21 v22:Int)(kn:Bool->Option Bool):Option Bool:=
 (oB (qyw v4) fun r1=>(bif(!r1)then(bif(decide (v3>0))then(kn true)else(kn (!(v4==([42]:List UInt8)))))else(kn false)))
def q5h:=hull (qnn)
theorem qbe8:q5h=qnn:=qa _
def qbi2:SubB Tryz.prog (TIof Tryz.prog) 39 0 (kret [.t 2] decB):=jnB tabOk follows Tryz.f59 10647 (.r [(1,.c qbk6.b)] [.sel [20,21,22,37] []]) S70_ (qnn) (fun f v K=>f (v.i 12 0) (v.s 16 0) (v.l 80 0) (v.i 84 0) (v.i 88 0) (qbe7 (v.l 80 0) (v.i 84 0) (v.i 88 0) K))
def qyd (K:Ex->Env->Mem->Option Bool):=(fun(_:Unit)=>K (.exit 0) (qk []) (qh []))
def qj1 (v20:LA)(v21 v22:Int)(next:Int->Option Bool)(kx0:Unit->Option Bool):Option Bool:=
 (bif(decide (v22<v21))then(oB (ixB v20 v22) fun y1=>(bif fitC [.s] y1.cells then(q5h v22 (gS y1.cells 0) v20 v21 v22 (fun v37q2=>(bif v37q2 then(some false)else(next (IntKind.i64.wrap (v22+1))))))else none))else(kx0 ()))
def qj2 (v20:LA)(v21:Int)(kx0:Unit->Option Bool):Nat->Int->Option Bool
 |0=>(fun _=>none)
 |n+1=>(fun v22=>qj1 v20 v21 v22 (qj2 v20 v21 kx0 n) kx0)
def qw7:=hull (qj2)
theorem qbe9:qw7=qj2:=qa _
def qbi3:SubB Tryz.prog (TIof Tryz.prog) 39 0 (kret [.t 2] decB):=lpB tabOk follows Tryz.f59 151 (.s .z (.s (.s .z (.v [.sel [] []])) (.s (.b (.s (.r [(1,.p (.etac 25 [.s]))] []) (.s (.sub [.sel [3,4,20,21,22] []] qbi2 []) .z))) (.v [.sel [20,21,22] []])))) S71_ (qj2) (fun f v K n=>f (v.l 80 0) (v.i 84 0) (qyd K) n) (fun v f K=>qj1 (v.l 80 0) (v.i 84 0) (v.i 88 0) f (qyd K)) (fun f v=>f (v.i 88 0)) (fun k v=>(fun z0=>k (v.ui 88 0 z0)))
def qu7 (v0:LU):Option Bool:=
 (bif(v0==([46]:List UInt8))then(some true)else(q5g v0 (fun v14q1=>(bif v14q1 then(some false)else(oB (cutI v0 none (some (IntKind.i64.wrap ((v0.length:Int)-1)))) fun s2=>(oB (qu6 s2 ([46]:List UInt8)) fun r3=>(qw7 r3 (r3.length:Int) (fun(_:Unit)=>(some true)) FU (0:Int))))))))
def qgc:=hull qu7
theorem qbpr:qgc=qu7:=qa _
def qjs {R:Type}:EntF Tryz.prog R:=entB (nt:=39) (dec:=decB) (enc:=AV.bool) tabOk follows Tryz.func59 [.t 2] hdeB (.s .z (.s .z (.s (.s (.sub [.sel [0] []] qbi1 []) .z) (.s (.s (.r [(5,.k q5f.b)] []) (.b (.sub [.sel [20,21,22] []] qbi3 []))) .z)))) S69_ qu7 (fun f v=>f (v.s 0 0))
def qfj (x0:LU)(x1:Bool)(x2 x3 x4:Int):List AV:=[.str x0,.bool x1,.int .u64 x2,.int .u64 x3,.int .i64 x4]
def S72_:Shp:=⟨[(1,.one (.ptr 0 0))],[.box true (lk qj)]⟩
def S73_:Shp:=⟨[(0,.st (lk qj))],[]⟩
def qbc2 (Av:LU)(Aw:Bool)(Ax Ay Az:Int)(K:Ex->Env->Mem->Option Int):=(fun z_v3=>K .norm (qk [(1,(.ptr 0 0)),(3,(.bool z_v3))]) (qh [(some (.box true (qfj Av Aw Ax Ay Az)))]))
def ql8 (Av:LU)(Aw:Bool)(Ax Ay Az:Int)(kn:Bool->Option Int):Option Int:=
 (oB (qgc Av) fun r1=>(bif(!r1)then(kn true)else(oB (ixB Av (0:Int)) fun c2=>(kn ((c2.toNat:Int)==42)))))
def q3g:=hull (ql8)
theorem qbc3:q3g=ql8:=qa _
def qbfa:SubB Tryz.prog (TIof Tryz.prog) 28 0 (kret [.t 2] (decI .i64)):=jnB tabOk follows Tryz.f111 17 (.r [(2,.c qjs.b)] [.sel [1,3] [0]]) S72_ (ql8) (fun f v K=>f (v.s 3 0) (v.b 3 1) (v.i 3 2) (v.i 3 3) (v.i 3 4) (qbc2 (v.s 3 0) (v.b 3 1) (v.i 3 2) (v.i 3 3) (v.i 3 4) K))
def qrf (Aa:LU)(Ab:Bool)(Ac Bt Bu:Int):Option Int:=
 (q3g Aa Ab Ac Bt Bu (fun v3q1=>(bif v3q1 then(some (2:Int))else(oB (qwv Ab Ac Bt) fun r2=>(bif(!r2)then(some (3:Int))else(bif((decide (Bu<0))||(decide (Bu>2147483647)))then(some (1:Int))else(some (0:Int))))))))
def q1b:=hull qrf
theorem qbk7:q1b=qrf:=qa _
def qbmv {R:Type}:EntF Tryz.prog R:=entB (nt:=28) (dec:=(decI .i64)) (enc:=(AV.int .i64)) tabOk follows Tryz.func111 [.t 2] hdeI (.s .z (.s (.b (.s (.sub [.sel [1] [0]] qbfa []) (.s .z (.s (.r [(2,.c q25.b)] []) (.s .z (.s (.r [(4,.g 3)] []) .z)))))) .z)) S73_ qrf (fun f v=>f (v.s 1 0) (v.b 1 1) (v.i 1 2) (v.i 1 3) (v.i 1 4))
theorem qbtm {R:Type}:qkr Tryz.prog 188 (qzm (R':=R)):=qbwc Tryz.func188 (by kernel_rfl) (by kernel_rfl) (by kernel_rfl) (by kernel_rfl)
def qlu (v0 v1:LU):Option Int:=
 (oB (qbbx v0 v1) fun r1=>(some r1))
def qv4:=hull qlu
theorem q3h:qv4=qlu:=qa _
def q40 {R:Type}:EntF Tryz.prog R:=entB (nt:=8) (dec:=(decI .i64)) (enc:=(AV.int .i64)) tabOk follows Tryz.func170 [.t 4] hdeI (.s .z (.s (.r [(2,.c (eK qbtm))] []) .z)) S62_ qlu (fun f v=>f (v.s 0 0) (v.s 4 0))
def qno (v0 v1:LU):Option Int:=
 (oB (qv4 v0 v1) fun r1=>(some r1))
def qrg:=hull qno
theorem qbfb:qrg=qno:=qa _
def q1t {R:Type}:EntF Tryz.prog R:=entB (nt:=8) (dec:=(decI .i64)) (enc:=(AV.int .i64)) tabOk follows Tryz.func116 [.t 4] hdeI (.s .z (.s (.r [(2,.c q40.b)] []) .z)) S62_ qno (fun f v=>f (v.s 0 0) (v.s 4 0))
def qbfc (v0:LU)(K:Ex->Env->Mem->Option (List AV)):=(fun z_v9=>K .norm (qk [(0,(.str v0)),(9,(.bool z_v9))]) (qh []))
def qnp (v0:LU)(kn:Bool->Option (List AV)):Option (List AV):=
 (bif(v0==([46]:List UInt8))then(kn true)else(oB (qgc v0) fun r1=>(kn (!r1))))
def q5i:=hull (qnp)
theorem qbfd:q5i=qnp:=qa _
def qbi4:SubB Tryz.prog (TIof Tryz.prog) 16 0 (kret [.t 2] (decX (.one (.sl 1)) fun z=>aL z)):=jnB tabOk follows Tryz.f117 9 (.r [(4,.c qjs.b)] [.sel [0,9] []]) S69_ (qnp) (fun f v K=>f (v.s 0 0) (qbfc (v.s 0 0) K))
def qtg (v0:LU):Option (List AV):=
 (q5i v0 (fun v9q1=>(bif v9q1 then(some ([]:List AV))else(oB (cutI v0 none (some (IntKind.i64.wrap ((v0.length:Int)-1)))) fun s2=>(oB (qu6 s2 ([46]:List UInt8)) fun r3=>(some r3))))))
def qse:=hull qtg
theorem qbmw:qse=qtg:=qa _
def qyx {R:Type}:EntF Tryz.prog R:=entB (nt:=16) (dec:=(decX (.one (.sl 1)) fun z=>aL z)) (enc:=(fun r=>.sl 1 r)) tabOk follows Tryz.func117 [.t 2] (hdeX fun _=>rfl) (.s .z (.s (.s (.sub [.sel [0] []] qbi4 []) (.s (.s .z (.v [.eta 2 (.one (.sl 1))])) .z)) (.s (.r [(5,.k q5f.b)] []) .z))) S69_ qtg (fun f v=>f (v.s 0 0))
def S74_:Shp:=⟨[(7,.one (.l (.sl 1))),(8,.one (.l (.sl 1))),(9,.one (.l (.i .i64)))],[]⟩
def qv5 (v7 v8:LA)(K:Ex->Env->Mem->Option Int):=(fun(_:Unit)=>K (.exit 1) (qk [(7,(.sl 1 v7)),(8,(.sl 1 v8))]) (qh []))
def qqv (v7 v8:LA)(v9:Int)(next:Int->Option Int)(kx1:Unit->Option Int):Option Int:=
 (bif((decide (v9<=(v7.length:Int)))&&(decide (v9<=(v8.length:Int))))then(oB (ixB v7 (IntKind.i64.wrap ((v7.length:Int)-v9))) fun y1=>(bif fitC [.s] y1.cells then(oB (ixB v8 (IntKind.i64.wrap ((v8.length:Int)-v9))) fun y2=>(bif fitC [.s] y2.cells then(oB (qrg (gS y1.cells 0) (gS y2.cells 0)) fun r3=>(bif(r3 != (0:Int))then(some r3)else(next (IntKind.i64.wrap (v9+1)))))else none))else none))else(kx1 ()))
def qe6 (v7 v8:LA)(kx1:Unit->Option Int):Nat->Int->Option Int
 |0=>(fun _=>none)
 |n+1=>(fun v9=>qqv v7 v8 v9 (qe6 v7 v8 kx1 n) kx1)
def q1u:=hull (qe6)
theorem q92:q1u=qe6:=qa _
def qbc4:SubB Tryz.prog (TIof Tryz.prog) 79 0 (kret [.t 4] (decI .i64)):=lpB tabOk follows Tryz.f60 303 (.s (.s (.r [(5,.g 4)] []) (.s .z (.v [.sel [7,8] []]))) (.s (.b (.s (.d [] [(5,.e 54 [.s]),(12,.e 61 [.s])] [(0,.c q1t.b)] []) .z)) (.v [.sel [7,8,9] []]))) S74_ (qe6) (fun f v K n=>f (v.l 28 0) (v.l 32 0) (qv5 (v.l 28 0) (v.l 32 0) K) n) (fun v f K=>qqv (v.l 28 0) (v.l 32 0) (v.i 36 0) f (qv5 (v.l 28 0) (v.l 32 0) K)) (fun f v=>f (v.i 36 0)) (fun k v=>(fun z0=>k (v.ui 36 0 z0)))
def qrh (v0 v1:LU):Option Int:=
 (oB (qgc v0) fun r1=>(oB (qgc v1) fun r2=>(bif(r1&&(!r2))then(some (-1:Int))else(bif(r2&&(!r1))then(some (1:Int))else(bif(!r1)then(oB (qrg v0 v1) fun r3=>(some r3))else(oB (qse v0) fun r4=>(oB (qse v1) fun r5=>(q1u r4 r5 (fun(_:Unit)=>(bif(decide ((r4.length:Int)<(r5.length:Int)))then(some (-1:Int))else(bif(decide ((r4.length:Int)>(r5.length:Int)))then(some (1:Int))else(some (0:Int))))) FU (1:Int)))))))))
def qu8:=hull qrh
theorem qbk8:qu8=qrh:=qa _
def q5j {R:Type}:EntF Tryz.prog R:=entB (nt:=79) (dec:=(decI .i64)) (enc:=(AV.int .i64)) tabOk follows Tryz.func60 [.t 4] hdeI (.s .z (.s (.r [(1,.c qjs.b),(3,.c qjs.b)] []) (.s (.b (.s (.r [(2,.g 2)] []) (.s .z (.s (.r [(2,.g 2)] []) (.s .z (.s .z (.s (.s (.r [(2,.c q1t.b)] []) .z) .z))))))) (.s (.r [(1,.k qyx.b),(3,.k qyx.b)] []) (.s (.s .z (.b (.sub [.sel [7,8,9] []] qbc4 []))) .z))))) S62_ qrh (fun f v=>f (v.s 0 0) (v.s 4 0))
def S75_:Shp:=⟨[(0,.st (lk qj)),(1,.st (lk qj))],[]⟩
def qri (Aa:LU)(Ab:Bool)(Ac Bt Bu:Int)(B7:LU)(B8:Bool)(B9 Ca Cb:Int):Option Int:=
 (oB (qsb Ab Ac Bt B8 B9 Ca) fun r1=>(bif(r1 != (0:Int))then(some r1)else(oB (qu8 Aa B7) fun r2=>(some r2))))
def q1c:=hull qri
theorem qbk9:q1c=qri:=qa _
def qbmx {R:Type}:EntF Tryz.prog R:=entB (nt:=19) (dec:=(decI .i64)) (enc:=(AV.int .i64)) tabOk follows Tryz.func112 [.t 4] hdeI (.s .z (.s (.s (.r [(4,.c qys.b)] []) .z) (.s (.r [(4,.c q5j.b)] []) .z))) S75_ qri (fun f v=>f (v.s 1 0) (v.b 1 1) (v.i 1 2) (v.i 1 3) (v.i 1 4) (v.s 5 0) (v.b 5 1) (v.i 5 2) (v.i 5 3) (v.i 5 4))
def S76_:Shp:=⟨[(0,.one (.l (.sl 5))),(10,.one (.l (.sl 5))),(11,.one (.l (.i .i64))),(12,.one (.l (.i .i64)))],[]⟩
def S77_:Shp:=⟨[(0,.one (.l (.sl 5)))],[]⟩
def qv6 (K:Ex->Env->Mem->Option Int):=(fun(_:Unit)=>K (.exit 0) (qk []) (qh []))
def qhx (v0 v10:LA)(v11 v12:Int)(next:Int->Option Int)(kx0:Unit->Option Int):Option Int:=
 (bif(decide (v12<v11))then(oB (ixB v10 v12) fun y1=>(bif fitC qj y1.cells then(oB (q1b (gS y1.cells 0) (gB y1.cells 1) (gI y1.cells 2) (gI y1.cells 3) (gI y1.cells 4)) fun r2=>(bif(r2 != (0:Int))then(some r2)else(bif(v12==0)then(next (IntKind.i64.wrap (v12+1)))else(oB (ixB v0 (IntKind.i64.wrap (v12-1))) fun y3=>(bif fitC qj y3.cells then(oB (q1c (gS y1.cells 0) (gB y1.cells 1) (gI y1.cells 2) (gI y1.cells 3) (gI y1.cells 4) (gS y3.cells 0) (gB y3.cells 1) (gI y3.cells 2) (gI y3.cells 3) (gI y3.cells 4)) fun r4=>(bif(decide (r4<0))then(some (7:Int))else(bif(r4==0)then(some (12:Int))else(next (IntKind.i64.wrap (v12+1))))))else none)))))else none))else(kx0 ()))
def qhy (v0 v10:LA)(v11:Int)(kx0:Unit->Option Int):Nat->Int->Option Int
 |0=>(fun _=>none)
 |n+1=>(fun v12=>qhx v0 v10 v11 v12 (qhy v0 v10 v11 kx0 n) kx0)
def q1v:=hull (qhy)
theorem q93:q1v=qhy:=qa _
def qbc5:SubB Tryz.prog (TIof Tryz.prog) 38 0 (kret [.t 2] (decI .i64)):=lpB tabOk follows Tryz.f58 75 (.s .z (.s (.s .z (.v [.sel [] []])) (.s (.b (.s (.r [(1,.p (.etac 15 qj))] []) (.s (.s (.r [(1,.c qbmv.b)] []) .z) (.s .z (.s (.d [] [(4,.e 28 qj)] [(0,.c qbmx.b)] []) .z))))) (.v [.sel [0,10,11,12] []])))) S76_ (qhy) (fun f v K n=>f (v.l 0 0) (v.l 40 0) (v.i 44 0) (qv6 K) n) (fun v f K=>qhx (v.l 0 0) (v.l 40 0) (v.i 44 0) (v.i 48 0) f (qv6 K)) (fun f v=>f (v.i 48 0)) (fun k v=>(fun z0=>k (v.ui 48 0 z0)))
def qrj (v0:LA):Option Int:=
 (bif(decide ((v0.length:Int)>256))then(some (9:Int))else(q1v v0 v0 (v0.length:Int) (fun(_:Unit)=>(some (0:Int))) FU (0:Int)))
def q1d:=hull qrj
theorem qbla:q1d=qrj:=qa _
def qbmy {R:Type}:EntF Tryz.prog R:=entB (nt:=38) (dec:=(decI .i64)) (enc:=(AV.int .i64)) tabOk follows Tryz.func58 [.t 2] hdeI (.s .z (.s .z (.s (.s .z (.b (.sub [.sel [0,10,11,12] []] qbc5 []))) .z))) S77_ qrj (fun f v=>f (v.l 0 0))
def qth (Aa:LU)(Ab:Bool)(Ac Bt Bu:Int)(B7:LU)(B8:Bool)(B9 Ca Cb:Int):Option Int:=
 (oB (qsb Ab Ac Bt B8 B9 Ca) fun r1=>(bif(r1 != (0:Int))then(some r1)else(oB (qu8 Aa B7) fun r2=>(some r2))))
def qsf:=hull qth
theorem qbmz:qsf=qth:=qa _
def q7r {R:Type}:EntF Tryz.prog R:=entB (nt:=19) (dec:=(decI .i64)) (enc:=(AV.int .i64)) tabOk follows Tryz.func158 [.t 4] hdeI (.s .z (.s (.s (.r [(4,.c qys.b)] []) .z) (.s (.r [(4,.c q5j.b)] []) .z))) S75_ qth (fun f v=>f (v.s 1 0) (v.b 1 1) (v.i 1 2) (v.i 1 3) (v.i 1 4) (v.s 5 0) (v.b 5 1) (v.i 5 2) (v.i 5 3) (v.i 5 4))
def S78_:Shp:=⟨[(0,.one (.l (.sl 5))),(2,.one (.fn 158 [])),(4,.one (.ptr 0 0)),(8,.one (.l (.i .i64))),(9,.one (.l (.i .i64))),(10,.one (.l (.i .i64)))],[.box true (lk qj)]⟩
def S79_:Shp:=⟨[(0,.one (.l (.sl 5))),(1,.st (lk qj)),(2,.one (.fn 158 []))],[]⟩
def qch:AV->Option (Int×Bool):=decN [(.one (.i .i64)),(.one .b)] fun z=>(aI (gC (tpL z) 0),aB (gC (tpL z) 1))
def qcc (v0:LA)(v8:Int)(Av:LU)(Aw:Bool)(Ax Ay Az:Int)(K:Ex->Env->Mem->Option (Int×Bool)):=(fun z_v9=>K (.exit 0) (qk [(0,(.sl 5 v0)),(2,(.func 158 [])),(4,(.ptr 0 0)),(8,(.int .i64 v8)),(9,(.int .i64 z_v9))]) (qh [(some (.box true (qfj Av Aw Ax Ay Az)))]))
def qbq (v0:LA)(v8 v9 v10:Int)(Av:LU)(Aw:Bool)(Ax Ay Az:Int)(next:Int->Int->Option (Int×Bool))(kx0:Int->Option (Int×Bool)):Option (Int×Bool):=
 (bif(decide (v9<v10))then(oB (ixB v0 (IntKind.i64.wrap ((IntKind.u64.wrap (IntKind.i64.wrap (v9+v10))).fdiv (2^min (1:Int).toNat IntKind.u64.bits)))) fun y1=>(bif fitC qj y1.cells then(oB (qsf (gS y1.cells 0) (gB y1.cells 1) (gI y1.cells 2) (gI y1.cells 3) (gI y1.cells 4) Av Aw Ax Ay Az) fun r2=>(bif(decide (r2<0))then(next (IntKind.i64.wrap ((IntKind.i64.wrap ((IntKind.u64.wrap (IntKind.i64.wrap (v9+v10))).fdiv (2^min (1:Int).toNat IntKind.u64.bits)))+1)) v10)else(next v9 (IntKind.i64.wrap ((IntKind.u64.wrap (IntKind.i64.wrap (v9+v10))).fdiv (2^min (1:Int).toNat IntKind.u64.bits))))))else none))else(kx0 v9))
def qm (v0:LA)(v8:Int)(Av:LU)(Aw:Bool)(Ax Ay Az:Int)(kx0:Int->Option (Int×Bool)):Nat->Int->Int->Option (Int×Bool)
 |0=>(fun _ _=>none)
 |n+1=>(fun v9 v10=>qbq v0 v8 v9 v10 Av Aw Ax Ay Az (qm v0 v8 Av Aw Ax Ay Az kx0 n) kx0)
def qcj:=hull (qm)
theorem qeu:qcj=qm:=qa _
def qew:SubB Tryz.prog (TIof Tryz.prog) 49 0 (kret [.t 6,.t 7] qch):=lpB tabOk follows Tryz.f157 71 (.s (.s .z (.s .z (.v [.sel [0,2,4,8,9] [0]]))) (.b (.s .z (.s (.d [] [(3,.e 27 qj)] [(0,.c q7r.b)] []) (.s (.v [.sel [0,2,4,8,9,10] [0]]) (.v [.sel [0,2,4,8,9,10] [0]])))))) S78_ (qm) (fun f v K n=>f (v.l 0 0) (v.i 32 0) (v.s 3 0) (v.b 3 1) (v.i 3 2) (v.i 3 3) (v.i 3 4) (qcc (v.l 0 0) (v.i 32 0) (v.s 3 0) (v.b 3 1) (v.i 3 2) (v.i 3 3) (v.i 3 4) K) n) (fun v f K=>qbq (v.l 0 0) (v.i 32 0) (v.i 36 0) (v.i 40 0) (v.s 3 0) (v.b 3 1) (v.i 3 2) (v.i 3 3) (v.i 3 4) f (qcc (v.l 0 0) (v.i 32 0) (v.s 3 0) (v.b 3 1) (v.i 3 2) (v.i 3 3) (v.i 3 4) K)) (fun f v=>f (v.i 36 0) (v.i 40 0)) (fun k v=>(fun z0 z1=>k ((v.ui 36 0 z0).ui 40 0 z1)))
def qbc (v0:LA)(B7:LU)(B8:Bool)(B9 Ca Cb:Int):Option (Int×Bool):=
 (qcj v0 (v0.length:Int) B7 B8 B9 Ca Cb (fun v9q1=>(bif(decide (v9q1<(v0.length:Int)))then(oB (ixB v0 v9q1) fun y2=>(bif fitC qj y2.cells then(oB (qsf (gS y2.cells 0) (gB y2.cells 1) (gI y2.cells 2) (gI y2.cells 3) (gI y2.cells 4) B7 B8 B9 Ca Cb) fun r3=>(some (v9q1,(r3==0))))else none))else(some (v9q1,false)))) FU (0:Int) (v0.length:Int))
def qcp:=hull qbc
theorem qe5:qcp=qbc:=qa _
def qfb {R:Type}:EntF Tryz.prog R:=entB (nt:=49) (dec:=qch) (enc:=(fun r=>.tup [.int .i64 r.1,.bool r.2])) tabOk follows Tryz.func157 [.t 6,.t 7] (hdeN fun _=>rfl) (.s .z (.s .z (.s .z (.s (.b (.sub [.sel [0,2,4,8,9,10] [0]] qew [])) (.s (.d [] [(8,.e 43 qj),(11,.c q7r.b)] [] []) .z))))) S79_ qbc (fun f v=>f (v.l 0 0) (v.s 5 0) (v.b 5 1) (v.i 5 2) (v.i 5 3) (v.i 5 4))
def S80_:Shp:=⟨[(0,.one (.l (.sl 5))),(1,.st (lk qj))],[]⟩
def qbm0:AV->Option (Int×Bool):=decN [(.one (.i .i64)),(.one .b)] fun z=>(aI (gC (tpL z) 0),aB (gC (tpL z) 1))
def qu9 (v0:LA)(B7:LU)(B8:Bool)(B9 Ca Cb:Int):Option (Int×Bool):=
 (oB (qcp v0 B7 B8 B9 Ca Cb) fun r1=>(some (r1.1,r1.2)))
def qug:=hull qu9
theorem qbps:qug=qu9:=qa _
def q1e {R:Type}:EntF Tryz.prog R:=entB (nt:=11) (dec:=qbm0) (enc:=(fun r=>.tup [.int .i64 r.1,.bool r.2])) tabOk follows Tryz.func99 [.t 4,.t 5] (hdeN fun _=>rfl) (.s .z (.s (.r [(2,.c qfb.b)] []) .z)) S80_ qu9 (fun f v=>f (v.l 0 0) (v.s 5 0) (v.b 5 1) (v.i 5 2) (v.i 5 3) (v.i 5 4))
def qw8 (v0 v1:LU):Option Bool:=
 (bif((v1==([46]:List UInt8))||(v0==v1))then(some true)else(bif decide (([46]:List UInt8).length+v1.length<=9223372036854775807)then(oB (qnl v0 (([46]:List UInt8)++v1)) fun r1=>(some r1))else none))
def qbm1:=hull qw8
theorem qbsx:qbm1=qw8:=qa _
def qbtn {R:Type}:EntF Tryz.prog R:=entB (nt:=18) (dec:=decB) (enc:=AV.bool) tabOk follows Tryz.func172 [.t 4] hdeB (.s .z (.s (.r [(3,.g 3),(11,.c qyb.b)] []) .z)) S62_ qw8 (fun f v=>f (v.s 0 0) (v.s 4 0))
def qva (v0 v1:LU):Option Bool:=
 (oB (qgc v0) fun r1=>(bif r1 then(oB (qgc v1) fun r2=>(bif r2 then(oB (qbm1 v0 v1) fun r3=>(some r3))else(some false)))else(some false)))
def q6l:=hull qva
theorem qbpt:q6l=qva:=qa _
def qbsy {R:Type}:EntF Tryz.prog R:=entB (nt:=16) (dec:=decB) (enc:=AV.bool) tabOk follows Tryz.func120 [.t 4] hdeB (.s .z (.s (.r [(1,.c qjs.b),(4,.c qjs.b),(9,.c qbtn.b)] []) .z)) S62_ qva (fun f v=>f (v.s 0 0) (v.s 4 0))
def S81_:Shp:=⟨[(0,.one (.l .s)),(1,.one (.ptr 0 0))],[.box true [(.l .s)]]⟩
def qbc6 {R:Type}(KK:AV->Mem->Option R):=(fun v3 Av=>KK (.bool v3) (qh [(some (.box true [(.str Av)]))]))
def ql9 {R:Type}(v0 Av:LU)(kr:Bool->(List UInt8)->Option R):Option R:=
 (oB (q6l Av v0) fun r1=>(kr r1 Av))
def q3i {R:Type}:=hull (ql9 (R:=R))
theorem qbc7 {R:Type}:q3i (R:=R)=ql9:=qa _
def qbfe {R:Type}:RefB Tryz.prog R:=refB (nt:=7) (nb:=1) tabOk follows Tryz.func119 [.t 3] (fun KK=>.s .z (.s (.r [(2,.c qbsy.b)] []) (.v [.sel [3] [0]]))) S81_ (ql9 (R:=R)) (fun f v KK=>f (v.s 0 0) (v.s 3 0) (qbc6 KK)) (by kernel_rfl) (by kernel_rfl) (fun _=>(by kernel_rfl)) rfl
def S82_:Shp:=⟨[(0,.one (.l (.sl 1))),(1,.one (.fn 119 [(0,0)])),(7,.one (.l (.i .i64))),(8,.one (.l (.i .i64)))],[.box true [(.l .s)]]⟩
def S83_:Shp:=⟨[(0,.one (.l (.sl 1))),(1,.one (.fn 119 [(0,0)]))],[.box true [(.l .s)]]⟩
def qdv {R:Type}(K:Ex->Env->Mem->Option R):=(fun z_b0_0=>K (.exit 0) (qk []) (qh [(some (.box true [(.str z_b0_0)]))]))
def qdy {R:Type}(KK:AV->Mem->Option R):=(fun v4 Av=>KK (.int .i64 v4) (qh [(some (.box true [(.str Av)]))]))
def qbe {R:Type}(v0:LA)(v7 v8:Int)(Av:LU)(next:Int->(List UInt8)->Option R)(kx0:(List UInt8)->Option R)(kr:Int->(List UInt8)->Option R):Option R:=
 (bif(decide (v8<v7))then(oB (ixB v0 v8) fun y1=>(bif fitC [.s] y1.cells then(q3i (gS y1.cells 0) Av fun v3q2 b0_0q3=>(bif v3q2 then(kr v8 b0_0q3)else(next (IntKind.i64.wrap (v8+1)) b0_0q3)))else none))else(kx0 Av))
def qbf {R:Type}(v0:LA)(v7:Int)(kx0:(List UInt8)->Option R)(kr:Int->(List UInt8)->Option R):Nat->Int->(List UInt8)->Option R
 |0=>(fun _ _=>none)
 |n+1=>(fun v8 Av=>qbe v0 v7 v8 Av (qbf v0 v7 kx0 kr n) kx0 kr)
def qec {R:Type}:=hull (qbf (R:=R))
theorem qix {R:Type}:qec (R:=R)=qbf:=qa _
def qjb {R:Type}(KK:AV->Mem->Option R):SubB Tryz.prog (TIof Tryz.prog) 19 1 (qdo [.t 4] KK):=lpB tabOk follows Tryz.f171 37 (.s .z (.s (.s .z (.v [.sel [] [0]])) (.s (.b (.s .z (.s (.r [(3,.p (.etac 14 [.s])),(5,.s (.sel [0,1,5,7,8,11,15] [0])),(5,.r qbfe)] []) (.s (.s .z (.v [.sel [4] [0]])) .z)))) (.v [.sel [0,1,7,8] [0]])))) S82_ (qbf (R:=R)) (fun f v K n=>f (v.l 0 0) (v.i 28 0) (qdv K) (qdy KK) n) (fun v f K=>qbe (v.l 0 0) (v.i 28 0) (v.i 32 0) (v.s 3 0) f (qdv K) (qdy KK)) (fun f v=>f (v.i 32 0) (v.s 3 0)) (fun k v=>(fun z0 z1=>k ((v.ui 32 0 z0).us 3 0 z1)))
def qj3 {R:Type}(KK:AV->Mem->Option R):=(fun v4 Av=>KK (.int .i64 v4) (qh [(some (.box true [(.str Av)]))]))
def qby {R:Type}(v0:LA)(Av:LU)(kr:Int->(List UInt8)->Option R):Option R:=
 (qec v0 (v0.length:Int) (fun b0_0q1=>(kr (-1:Int) b0_0q1)) kr FU (0:Int) Av)
def qep {R:Type}:=hull (qby (R:=R))
theorem qj4 {R:Type}:qep (R:=R)=qby:=qa _
def qkb {R:Type}:RefB Tryz.prog R:=refB (nt:=19) (nb:=1) tabOk follows Tryz.func171 [.t 4] (fun KK=>.s .z (.s (.s .z (.b (.sub [.sel [0,1,7,8] [0]] (qjb KK) []))) (.s .z (.v [.sel [4] [0]])))) S83_ (qby (R:=R)) (fun f v KK=>f (v.l 0 0) (v.s 3 0) (qj3 KK)) (by kernel_rfl) (by kernel_rfl) (fun _=>(by kernel_rfl)) rfl
def qiy {R:Type}(KK:AV->Mem->Option R):=(fun v4 Av=>KK (.bool v4) (qh [(some (.box true [(.str Av)]))]))
def qbu {R:Type}(v0:LA)(Av:LU)(kr:Bool->(List UInt8)->Option R):Option R:=
 (qep v0 Av fun v4q1 b0_0q2=>(kr (decide (v4q1>=0)) b0_0q2))
def qed {R:Type}:=hull (qbu (R:=R))
theorem qiz {R:Type}:qed (R:=R)=qbu:=qa _
def qjc {R:Type}:RefB Tryz.prog R:=refB (nt:=9) (nb:=1) tabOk follows Tryz.func118 [.t 4] (fun KK=>.s .z (.s (.r [(2,.s (.sel [5,6] [0])),(2,.r qkb)] []) (.v [.sel [4] [0]]))) S83_ (qbu (R:=R)) (fun f v KK=>f (v.l 0 0) (v.s 3 0) (qiy KK)) (by kernel_rfl) (by kernel_rfl) (fun _=>(by kernel_rfl)) rfl
def S84_:Shp:=⟨[(0,.one (.l (.sl 1))),(1,.one (.l .s))],[]⟩
def qo3 (v0:LA)(v1:LU):Option Bool:=
 (qed v0 v1 fun v4q1 b0_0q2=>(some v4q1))
def qti:=hull qo3
theorem qbi5:qti=qo3:=qa _
def q3j {R:Type}:EntF Tryz.prog R:=entB (nt:=8) (dec:=decB) (enc:=AV.bool) tabOk follows Tryz.func61 [.t 4] hdeB (.s .z (.s (.r [(2,.s (.sel [5,6] [0])),(2,.r qjc)] []) .z)) S84_ qo3 (fun f v=>f (v.l 0 0) (v.s 4 0))
def qbsz {R:Type}(vs:LA)(m:Mem)(K:AV->Mem->Option R):Option R:=q0v 5 48 vs m K
theorem qbcf {R:Type}:qm4 Tryz.prog 100 (qbsz (R:=R)):=qbrv (ρ:=q55 100 159 160 0 3 4 23 35) tabOk (qbon follows "slices.Insert[[]ddi/api.Host,ddi/api.Host]" (by kernel_rfl) (by kernel_rfl) Tryz.func159 (by kernel_rfl) (by kernel_rfl) (by kernel_rfl) (by kernel_rfl) (by kernel_rfl) (by kernel_rfl) (by kernel_rfl) (by kernel_rfl) (by kernel_rfl) (by kernel_rfl) (by kernel_rfl) (by kernel_rfl) (by kernel_rfl) (by kernel_rfl) (by kernel_rfl) (by kernel_rfl) (by kernel_rfl)) (by kernel_rfl) (by kernel_rfl) (by decide) (by decide)
def S85_:Shp:=⟨[(0,.st [(.own 0),(.own 1),(.own 2)]),(1,.st (lk qj))],[.arr true 8,.arr true 5,.arr true 1]⟩
def qbff:AV->Option (AV×Int):=decN [(.st [(.fr true 8),(.fr true 5),(.fr true 1)]),(.one (.i .i64))] fun z=>((gC (tpL z) 0),aI (gC (tpL z) 1))
def qo4 (B7:LU)(B8:Bool)(B9 Ca Cb:Int)(a0 a1 a2:LA):Option (AV×Int):=
 (bif hd ([(.agg [(.str B7),(.bool B8),(.int .u64 B9),(.int .u64 Ca),(.int .i64 Cb)])]:List AV) (([(.agg [(.str B7),(.bool B8),(.int .u64 B9),(.int .u64 Ca),(.int .i64 Cb)])]:List AV).length)then(oB (q1d ([(.agg [(.str B7),(.bool B8),(.int .u64 B9),(.int .u64 Ca),(.int .i64 Cb)])]:List AV)) fun r1=>(bif(r1 != (0:Int))then(bif hd ([]:List AV) (([]:List AV).length)then(bif hd ([]:List AV) (([]:List AV).length)then(bif hd ([]:List AV) (([]:List AV).length)then(some ((.agg [(.fr true 8 ([]:List AV)),(.fr true 5 ([]:List AV)),(.fr true 1 ([]:List AV))]),r1))else none)else none)else none)else(bif hd a1 a1.length then(oB (qug a1 B7 B8 B9 Ca Cb) fun r2=>(bif r2.2 then(bif hd ([]:List AV) (([]:List AV).length)then(bif hd ([]:List AV) (([]:List AV).length)then(bif hd ([]:List AV) (([]:List AV).length)then(some ((.agg [(.fr true 8 ([]:List AV)),(.fr true 5 ([]:List AV)),(.fr true 1 ([]:List AV))]),(12:Int)))else none)else none)else none)else(bif(decide ((a1.length:Int)>=256))then(bif hd ([]:List AV) (([]:List AV).length)then(bif hd ([]:List AV) (([]:List AV).length)then(bif hd ([]:List AV) (([]:List AV).length)then(some ((.agg [(.fr true 8 ([]:List AV)),(.fr true 5 ([]:List AV)),(.fr true 1 ([]:List AV))]),(9:Int)))else none)else none)else none)else(bif hd a0 a0.length then(oB (qq9 a0 B7 B8 B9 Ca Cb) fun r3=>(bif(!r3)then(bif hd ([]:List AV) (([]:List AV).length)then(bif hd ([]:List AV) (([]:List AV).length)then(bif hd ([]:List AV) (([]:List AV).length)then(some ((.agg [(.fr true 8 ([]:List AV)),(.fr true 5 ([]:List AV)),(.fr true 1 ([]:List AV))]),(25:Int)))else none)else none)else none)else(bif hd a2 a2.length then(oB (qti a2 B7) fun r4=>(bif(!r4)then(bif hd ([]:List AV) (([]:List AV).length)then(bif hd ([]:List AV) (([]:List AV).length)then(bif hd ([]:List AV) (([]:List AV).length)then(some ((.agg [(.fr true 8 ([]:List AV)),(.fr true 5 ([]:List AV)),(.fr true 1 ([]:List AV))]),(13:Int)))else none)else none)else none)else(bif hd a1 a1.length then(bif hd ([(.agg [(.str B7),(.bool B8),(.int .u64 B9),(.int .u64 Ca),(.int .i64 Cb)])]:List AV) (([(.agg [(.str B7),(.bool B8),(.int .u64 B9),(.int .u64 Ca),(.int .i64 Cb)])]:List AV).length)then(oB (qoi 48 a1 r2.1 ([(.agg [(.str B7),(.bool B8),(.int .u64 B9),(.int .u64 Ca),(.int .i64 Cb)])]:List AV)) fun r5=>(bif hd a0 a0.length then(bif hd r5 r5.length then(bif hd a2 a2.length then(some ((.agg [(.fr true 8 a0),(.fr true 5 r5),(.fr true 1 a2)]),(0:Int)))else none)else none)else none))else none)else none)))else none)))else none))))else none)))else none)
def qyy:=hull qo4
theorem qbi6:qyy=qo4:=qa _
def qblb {R:Type}:EatB Tryz.prog R:=eatB (nt:=55) (nb:=3) (dec:=qbff) (enc:=(fun r=>.tup [qcg (.st [(.fr true 8),(.fr true 5),(.fr true 1)]) r.1,.int .i64 r.2])) tabOk follows Tryz.func43 [(.cell 4 true 3),.t 5] (hdeN fun _=>rfl) (.s .z (.s (.s (.r [(2,.c qbmy.b)] []) (.s .z (.s (.s .z (.v [.ownc 5 0 8,.ownc 5 1 5,.ownc 5 2 1])) .z))) (.s (.r [(3,.c q1e.b)] []) (.s (.b (.s .z (.s (.s .z (.v [.ownc 5 0 8,.ownc 5 1 5,.ownc 5 2 1])) (.s .z (.s (.s .z (.v [.ownc 5 0 8,.ownc 5 1 5,.ownc 5 2 1])) (.s (.r [(3,.c q1m.b)] []) (.s (.s .z (.v [.ownc 5 0 8,.ownc 5 1 5,.ownc 5 2 1])) (.s (.r [(4,.c q3j.b)] []) (.s (.s .z (.v [.ownc 5 0 8,.ownc 5 1 5,.ownc 5 2 1])) .z))))))))) (.s (.r [(5,.r (rB qbcf))] []) .z))))) S85_ qo4 (fun f v=>f (v.s 5 0) (v.b 5 1) (v.i 5 2) (v.i 5 3) (v.i 5 4) (v.r 0) (v.r 1) (v.r 2)) (by kernel_rfl) (by kernel_rfl) (by kernel_rfl) rfl
def qbs0 {R:Type}(vs:LA)(m:Mem)(K:AV->Mem->Option R):Option R:=q0u 5 vs m K
theorem qbs1 {R:Type}:qm4 Tryz.prog 101 (qbs0 (R:=R)):=qbru (ρ:=q54 101 0 3 4 23 35) tabOk (qbom follows "slices.Delete[[]ddi/api.Host,ddi/api.Host]" (by kernel_rfl) (by kernel_rfl) (by kernel_rfl) (by kernel_rfl) (by kernel_rfl) (by kernel_rfl) (by kernel_rfl) (by kernel_rfl) (by kernel_rfl) (by kernel_rfl) (by kernel_rfl) (by kernel_rfl) (by kernel_rfl) (by kernel_rfl)) (by kernel_rfl) (by decide)
def q7s:AV->Option (AV×AV×Int):=decN [(.st [(.fr true 8),(.fr true 5),(.fr true 1)]),(.st [.s,.b,(.i .u64),(.i .u64),(.i .i64)]),(.one (.i .i64))] fun z=>((gC (tpL z) 0),(gC (tpL z) 1),aI (gC (tpL z) 2))
def qlh (B7:LU)(B8:Bool)(B9 Ca Cb:Int)(a0 a1 a2:LA):Option (AV×AV×Int):=
 (bif hd a1 a1.length then(oB (qug a1 B7 B8 B9 Ca Cb) fun r1=>(bif(!r1.2)then(bif hd ([]:List AV) (([]:List AV).length)then(bif hd ([]:List AV) (([]:List AV).length)then(bif hd ([]:List AV) (([]:List AV).length)then(some ((.agg [(.fr true 8 ([]:List AV)),(.fr true 5 ([]:List AV)),(.fr true 1 ([]:List AV))]),(.agg [(.str ([]:List UInt8)),(.bool false),(.int .u64 (0:Int)),(.int .u64 (0:Int)),(.int .i64 (0:Int))]),(11:Int)))else none)else none)else none)else(bif hd a1 a1.length then(bif decide (0<=r1.1/\r1.1<a1.length)then(bif hd a1 a1.length then(oB (a1[r1.1.toNat]?) fun y2=>(oB (rdE y2 0 true 5) fun z3=>(bif fitV (.st qj) z3 then(bif hd a1 a1.length then(oB (qwn a1 r1.1 (IntKind.i64.wrap (r1.1+1))) fun r4=>(bif hd a0 a0.length then(bif hd r4 r4.length then(bif hd a2 a2.length then(some ((.agg [(.fr true 8 a0),(.fr true 5 r4),(.fr true 1 a2)]),(.agg [(.str (gS z3.cells 0)),(.bool (gB z3.cells 1)),(.int .u64 (gI z3.cells 2)),(.int .u64 (gI z3.cells 3)),(.int .i64 (gI z3.cells 4))]),(0:Int)))else none)else none)else none))else none)else none)))else none)else none)else none)))else none)
def qj5:=hull qlh
theorem q94:qj5=qlh:=qa _
def qqw {R:Type}:EatB Tryz.prog R:=eatB (nt:=35) (nb:=3) (dec:=q7s) (enc:=(fun r=>.tup [qcg (.st [(.fr true 8),(.fr true 5),(.fr true 1)]) r.1,qcg (.st [.s,.b,(.i .u64),(.i .u64),(.i .i64)]) r.2.1,.int .i64 r.2.2])) tabOk follows Tryz.func44 [(.cell 4 true 3),(.cell 5 true 5),.t 6] (hdeN fun _=>rfl) (.s .z (.s (.r [(3,.c q1e.b)] []) (.s (.s .z (.s (.s .z (.v [.ownc 5 0 8,.ownc 5 1 5,.ownc 5 2 1])) .z)) (.s (.r [(4,.p (.eta 25 (.st qj)))] []) (.s (.r [(5,.r (rB qbs1))] []) .z))))) S85_ qlh (fun f v=>f (v.s 5 0) (v.b 5 1) (v.i 5 2) (v.i 5 3) (v.i 5 4) (v.r 0) (v.r 1) (v.r 2)) (by kernel_rfl) (by kernel_rfl) (by kernel_rfl) rfl
def qrk (v0:LU):Option Bool:=
 (oB (qse v0) fun r1=>(bif(decide ((r1.length:Int)>0))then(oB (ixB r1 (0:Int)) fun y2=>(bif fitC [.s] y2.cells then(some ((gS y2.cells 0)==([42]:List UInt8)))else none))else(some false)))
def q1f:=hull qrk
theorem qblc:q1f=qrk:=qa _
def qbm2 {R:Type}:EntF Tryz.prog R:=entB (nt:=15) (dec:=decB) (enc:=AV.bool) tabOk follows Tryz.func102 [.t 2] hdeB (.s .z (.s (.r [(1,.k qyx.b)] []) (.s (.r [(5,.p (.etac 11 [.s]))] []) .z))) S69_ qrk (fun f v=>f (v.s 0 0))
def S86_:Shp:=⟨[(2,.one (.l .s)),(3,.one (.ptr 0 0)),(4,.one (.ptr 1 0)),(6,.one (.ptr 2 0)),(8,.one (.ptr 3 0))],[.box true [(.own 4),(.own 5),(.own 6)],.box true (lk qj),.box true [(.l .nil),(.l .nil),(.l .nil)],.box true (lk qj),.arr true 8,.arr true 5,.arr true 1]⟩
def S87_:Shp:=⟨[(0,.st (lk qds)),(1,.st (lk qj)),(2,.one (.l .s))],[]⟩
def q1w:AV->Option (AV×Int):=decN [(.st [(.fr true 8),(.fr true 5),(.fr true 1)]),(.one (.i .i64))] fun z=>((gC (tpL z) 0),aI (gC (tpL z) 1))
def q95 (v2 Ad:LU)(Ae:Bool)(Af Ag Ah:Int)(Cf:LU)(Cg:Bool)(Ch Ci Cj:Int)(a4 a5 a6:LA)(K:Ex->Env->Mem->Option (AV×Int)):=(fun z_v30=>K .norm (qk [(2,(.str v2)),(3,(.ptr 0 0)),(4,(.ptr 1 0)),(6,(.ptr 2 0)),(8,(.ptr 3 0)),(30,(.bool z_v30))]) (qh [(some (.box true [(.own 4 a4.length),(.own 5 a5.length),(.own 6 a6.length)])),(some (.box true (qfj Ad Ae Af Ag Ah))),(some (.box true [.nils,.nils,.nils])),(some (.box true (qfj Cf Cg Ch Ci Cj))),(some (.arr true 8 a4)),(some (.arr true 5 a5)),(some (.arr true 1 a6))]))
def qli (v2 Ad:LU)(Ae:Bool)(Af Ag Ah:Int)(Cf:LU)(Cg:Bool)(Ch Ci Cj:Int)(a4 a5 a6:LA)(kn:Bool->Option (AV×Int)):Option (AV×Int):=
 (oB (qgc v2) fun r1=>(bif(!r1)then(kn true)else(oB (q1f v2) fun r2=>(kn r2))))
def q1x:=hull (qli)
theorem q96:q1x=qli:=qa _
def qbc8:SubB Tryz.prog (TIof Tryz.prog) 63 0 (kret [(.cell 6 true 3),.t 7] q1w):=jnB tabOk follows Tryz.f45 39 (.r [(1,.c qjs.b),(5,.c qbm2.b)] [.sel [2,3,4,6,8,30] [0,1,2,3,4,5,6]]) S86_ (qli) (fun f v K=>f (v.s 8 0) (v.s 7 0) (v.b 7 1) (v.i 7 2) (v.i 7 3) (v.i 7 4) (v.s 15 0) (v.b 15 1) (v.i 15 2) (v.i 15 3) (v.i 15 4) (v.r 4) (v.r 5) (v.r 6) (q95 (v.s 8 0) (v.s 7 0) (v.b 7 1) (v.i 7 2) (v.i 7 3) (v.i 7 4) (v.s 15 0) (v.b 15 1) (v.i 15 2) (v.i 15 3) (v.i 15 4) (v.r 4) (v.r 5) (v.r 6) K))
def qrl (Aa Ab Ac:LA)(B7:LU)(B8:Bool)(B9 Ca Cb:Int)(v2:LU):Option (AV×Int):=
 (oB (qwt Aa Ab Ac) fun r1=>(bif hd (gL r1.cells 0) ((gL r1.cells 0).length)then(bif hd (gL r1.cells 1) ((gL r1.cells 1).length)then(bif hd (gL r1.cells 2) ((gL r1.cells 2).length)then(bif(hd (gL r1.cells 0) ((gL r1.cells 0).length)&&(hd (gL r1.cells 1) ((gL r1.cells 1).length)&&(hd (gL r1.cells 2) ((gL r1.cells 2).length)&&true)))then(oB (qj5 B7 B8 B9 Ca Cb (gL r1.cells 0) (gL r1.cells 1) (gL r1.cells 2)) fun r2=>(bif(r2.2.2 != (0:Int))then(bif hd ([]:List AV) (([]:List AV).length)then(bif hd ([]:List AV) (([]:List AV).length)then(bif hd ([]:List AV) (([]:List AV).length)then(some ((.agg [(.fr true 8 ([]:List AV)),(.fr true 5 ([]:List AV)),(.fr true 1 ([]:List AV))]),r2.2.2))else none)else none)else none)else(bif(hd (gL r2.1.cells 0) ((gL r2.1.cells 0).length)&&(hd (gL r2.1.cells 1) ((gL r2.1.cells 1).length)&&(hd (gL r2.1.cells 2) ((gL r2.1.cells 2).length)&&true)))then(q1x v2 B7 B8 B9 Ca Cb (gS r2.2.1.cells 0) (gB r2.2.1.cells 1) (gI r2.2.1.cells 2) (gI r2.2.1.cells 3) (gI r2.2.1.cells 4) (gL r2.1.cells 0) (gL r2.1.cells 1) (gL r2.1.cells 2) (fun v30q3=>(bif v30q3 then(bif hd ([]:List AV) (([]:List AV).length)then(bif hd ([]:List AV) (([]:List AV).length)then(bif hd ([]:List AV) (([]:List AV).length)then(some ((.agg [(.fr true 8 ([]:List AV)),(.fr true 5 ([]:List AV)),(.fr true 1 ([]:List AV))]),(2:Int)))else none)else none)else none)else(bif hd (gL r2.1.cells 1) ((gL r2.1.cells 1).length)then(oB (qug (gL r2.1.cells 1) v2 (gB r2.2.1.cells 1) (gI r2.2.1.cells 2) (gI r2.2.1.cells 3) (gI r2.2.1.cells 4)) fun r4=>(bif(r4.2||(v2==B7))then(bif hd ([]:List AV) (([]:List AV).length)then(bif hd ([]:List AV) (([]:List AV).length)then(bif hd ([]:List AV) (([]:List AV).length)then(some ((.agg [(.fr true 8 ([]:List AV)),(.fr true 5 ([]:List AV)),(.fr true 1 ([]:List AV))]),(12:Int)))else none)else none)else none)else(bif hd (gL r2.1.cells 2) ((gL r2.1.cells 2).length)then(oB (qti (gL r2.1.cells 2) v2) fun r5=>(bif(!r5)then(bif hd ([]:List AV) (([]:List AV).length)then(bif hd ([]:List AV) (([]:List AV).length)then(bif hd ([]:List AV) (([]:List AV).length)then(some ((.agg [(.fr true 8 ([]:List AV)),(.fr true 5 ([]:List AV)),(.fr true 1 ([]:List AV))]),(13:Int)))else none)else none)else none)else(bif hd (gL r2.1.cells 1) ((gL r2.1.cells 1).length)then(bif hd ([(.agg [(.str v2),(.bool (gB r2.2.1.cells 1)),(.int .u64 (gI r2.2.1.cells 2)),(.int .u64 (gI r2.2.1.cells 3)),(.int .i64 (gI r2.2.1.cells 4))])]:List AV) (([(.agg [(.str v2),(.bool (gB r2.2.1.cells 1)),(.int .u64 (gI r2.2.1.cells 2)),(.int .u64 (gI r2.2.1.cells 3)),(.int .i64 (gI r2.2.1.cells 4))])]:List AV).length)then(oB (qoi 48 (gL r2.1.cells 1) r4.1 ([(.agg [(.str v2),(.bool (gB r2.2.1.cells 1)),(.int .u64 (gI r2.2.1.cells 2)),(.int .u64 (gI r2.2.1.cells 3)),(.int .i64 (gI r2.2.1.cells 4))])]:List AV)) fun r6=>(bif hd (gL r2.1.cells 0) ((gL r2.1.cells 0).length)then(bif hd r6 r6.length then(bif hd (gL r2.1.cells 2) ((gL r2.1.cells 2).length)then(some ((.agg [(.fr true 8 (gL r2.1.cells 0)),(.fr true 5 r6),(.fr true 1 (gL r2.1.cells 2))]),(0:Int)))else none)else none)else none))else none)else none)))else none)))else none))))else none)))else none)else none)else none)else none))
def q1g:=hull qrl
theorem qbld:q1g=qrl:=qa _
def qbm3 {R:Type}:EntF Tryz.prog R:=entB (nt:=63) (dec:=q1w) (enc:=(fun r=>.tup [qcg (.st [(.fr true 8),(.fr true 5),(.fr true 1)]) r.1,.int .i64 r.2])) tabOk follows Tryz.func45 [(.cell 6 true 3),.t 7] (hdeN fun _=>rfl) (.s .z (.s (.d5 [] [(1,q24.eat),(3,qqw)] [] []) (.s (.s .z (.s (.s .z (.v [.ownc 2 0 8,.ownc 2 1 5,.ownc 2 2 1])) .z)) (.s (.s (.sub [.sel [2,3,4,6,8] [0,1,2,9,6,7,8]] qbc8 []) (.s (.s .z (.v [.ownc 2 0 8,.ownc 2 1 5,.ownc 2 2 1])) .z)) (.s .z (.s (.s (.r [(3,.c q1e.b)] []) (.s (.r [(2,.g 4)] []) (.s (.s .z (.v [.ownc 2 0 8,.ownc 2 1 5,.ownc 2 2 1])) (.s (.r [(3,.c q3j.b)] []) (.s (.s .z (.v [.ownc 2 0 8,.ownc 2 1 5,.ownc 2 2 1])) (.r [(5,.r (rB qbcf))] [])))))) .z)))))) S87_ qrl (fun f v=>f (v.l 1 0) (v.l 1 1) (v.l 1 2) (v.s 5 0) (v.b 5 1) (v.i 5 2) (v.i 5 3) (v.i 5 4) (v.s 8 0))
def S88_:Shp:=⟨[(2,.one (.ptr 0 0)),(4,.one (.ptr 1 0)),(8,.one (.l (.i .i64)))],[.box true (lk qds),.box true [(.l .nil),(.l .nil),(.l .nil)]]⟩
def S89_:Shp:=⟨[(2,.one (.ptr 0 0)),(3,.one (.ptr 1 0)),(4,.one (.ptr 2 0)),(8,.one (.l (.i .i64)))],[.box true [(.own 3),(.own 4),(.own 5)],.box true (lk qd3),.box true [(.l .nil),(.l .nil),(.l .nil)],.arr true 8,.arr true 5,.arr true 1]⟩
def S90_:Shp:=⟨[(0,.st (lk qds)),(1,.st (lk qd3))],[]⟩
def qvk:AV->Option (AV×Int):=decN [(.st [(.sl 8),(.sl 5),(.sl 1)]),(.one (.i .i64))] fun z=>((gC (tpL z) 0),aI (gC (tpL z) 1))
def qbc9 (v8:Int)(K:Ex->Env->Mem->Option (AV×Int)):=(fun z_v56 z_b0_0 z_b0_1 z_b0_2=>K .norm (qk [(2,(.ptr 0 0)),(4,(.ptr 1 0)),(8,(.int .i64 v8)),(56,(.bool z_v56))]) (qh [(some (.box true (qcl z_b0_0 z_b0_1 z_b0_2))),(some (.box true [.nils,.nils,.nils]))]))
def qma (v8:Int)(Av Aw Ax:LA)(kn:Bool->(List AV)->(List AV)->(List AV)->Option (AV×Int)):Option (AV×Int):=
 (bif(v8==0)then(qce Aw Av Aw Ax fun v4q1 b0_0q2 b0_1q3 b0_2q4=>(kn v4q1 b0_0q2 b0_1q3 b0_2q4))else(kn false Av Aw Ax))
def q3k:=hull (qma)
theorem qbda:q3k=qma:=qa _
def qbfg:SubB Tryz.prog (TIof Tryz.prog) 115 0 (kret [(.cell 4 true 3),.t 5] qvk):=jnB tabOk follows Tryz.f14 11183 (.r [(6,.s (.sel [2,4,8,51,53,54] [0,1])),(6,.r qij)] [.sel [2,4,8,56] [0,1]]) S88_ (qma) (fun f v K=>f (v.i 32 0) (v.l 3 0) (v.l 3 1) (v.l 3 2) (qbc9 (v.i 32 0) K))
def qbdb (K:Ex->Env->Mem->Option (AV×Int)):=(fun z_v8 z_b0_0 z_b0_1 z_b0_2=>K .norm (qk [(2,(.ptr 0 0)),(4,(.ptr 1 0)),(8,(.int .i64 z_v8))]) (qh [(some (.box true (qcl z_b0_0 z_b0_1 z_b0_2))),(some (.box true [.nils,.nils,.nils]))]))
def qmb (v8 Ad:Int)(Ae:Bool)(Af Ag Ah Ai:Int)(Aj Ak:LU)(Al Am An:Int)(Ao:LU)(Ap:Bool)(Aq Ar As:Int)(At:LU)(a3 a4 a5:LA)(kn:Int->(List AV)->(List AV)->(List AV)->Option (AV×Int)):Option (AV×Int):=
 (bif(Ad==1)then(bif hd a3 a3.length then(oB (q2a a3 Ae Af Ag Ah Ai Aj Ak Al) fun r1=>(bif hd a4 a4.length then(bif hd a5 a5.length then(kn r1.2 r1.1 a4 a5)else none)else none))else none)else(bif(Ad==2)then(bif hd a3 a3.length then(oB (q07 a3 Ae Af Ag Ah) fun r2=>(bif hd a4 a4.length then(bif hd a5 a5.length then(q3k r2.2 r2.1 a4 a5 (fun v56q3 b0_0q4 b0_1q5 b0_2q6=>(bif v56q3 then(kn (25:Int) b0_0q4 b0_1q5 b0_2q6)else(kn r2.2 b0_0q4 b0_1q5 b0_2q6))))else none)else none))else none)else(bif(Ad==3)then(bif hd a3 a3.length then(oB (qnk a3 Ae Af Ag Ah Am An Aj Ak) fun r7=>(bif hd a4 a4.length then(bif hd a5 a5.length then(kn r7.2.2 r7.1 a4 a5)else none)else none))else none)else(bif(Ad==4)then(bif hd a3 a3.length then(bif hd a4 a4.length then(bif hd a5 a5.length then(bif(hd a3 (a3.length)&&(hd a4 (a4.length)&&(hd a5 (a5.length)&&true)))then(oB (qyy Ao Ap Aq Ar As a3 a4 a5) fun r8=>(bif hd (gL r8.1.cells 0) ((gL r8.1.cells 0).length)then(bif hd (gL r8.1.cells 1) ((gL r8.1.cells 1).length)then(bif hd (gL r8.1.cells 2) ((gL r8.1.cells 2).length)then(kn r8.2 (gL r8.1.cells 0) (gL r8.1.cells 1) (gL r8.1.cells 2))else none)else none)else none))else none)else none)else none)else none)else(bif(Ad==5)then(bif hd a3 a3.length then(bif hd a4 a4.length then(bif hd a5 a5.length then(bif(hd a3 (a3.length)&&(hd a4 (a4.length)&&(hd a5 (a5.length)&&true)))then(oB (qj5 Ao Ap Aq Ar As a3 a4 a5) fun r9=>(bif hd (gL r9.1.cells 0) ((gL r9.1.cells 0).length)then(bif hd (gL r9.1.cells 1) ((gL r9.1.cells 1).length)then(bif hd (gL r9.1.cells 2) ((gL r9.1.cells 2).length)then(kn r9.2.2 (gL r9.1.cells 0) (gL r9.1.cells 1) (gL r9.1.cells 2))else none)else none)else none))else none)else none)else none)else none)else(bif(Ad==6)then(bif hd a3 a3.length then(bif hd a4 a4.length then(bif hd a5 a5.length then(oB (q1g a3 a4 a5 Ao Ap Aq Ar As At) fun r10=>(kn r10.2 (gL r10.1.cells 0) (gL r10.1.cells 1) (gL r10.1.cells 2)))else none)else none)else none)else(bif hd a3 a3.length then(bif hd a4 a4.length then(bif hd a5 a5.length then(kn v8 a3 a4 a5)else none)else none)else none)))))))
def q3l:=hull (qmb)
theorem qbdc:q3l=qmb:=qa _
def qbfh:SubB Tryz.prog (TIof Tryz.prog) 115 0 (kret [(.cell 4 true 3),.t 5] qvk):=jnB tabOk follows Tryz.f14 47 (.s .z (.b (.s .z (.s (.r [(4,.k qbes.b)] [.snapb 0,.sel [2,4,8] [0,2]]) (.s .z (.s (.s (.r [(5,.k qbmr.b)] []) (.s (.sub [.snapb 0,.sel [2,4,8] [0,2]] qbfg []) (.s (.v [.sel [2,4,8] [0,1]]) (.v [.sel [2,4,8] [0,1]])))) (.s .z (.s (.r [(15,.k qya.b)] [.snapb 0,.sel [2,4,8] [0,2]]) (.s .z (.s (.r [(3,.r qblb.r)] [.snapb 0,.sel [2,4,8] [0,2]]) (.s .z (.s (.r [(3,.r qqw.r)] [.snapb 0,.sel [2,4,8] [0,2]]) (.s .z (.s (.r [(5,.k qbm3.b)] [.sel [2,4,8] [0,2]]) (.v [.snapb 0,.sel [2,4,8] [0,2]]))))))))))))))) S89_ (qmb) (fun f v K=>f (v.i 32 0) (v.i 7 0) (v.b 7 1) (v.i 7 2) (v.i 7 3) (v.i 7 4) (v.i 7 5) (v.s 7 6) (v.s 7 7) (v.i 7 8) (v.i 7 9) (v.i 7 10) (v.s 7 11) (v.b 7 12) (v.i 7 13) (v.i 7 14) (v.i 7 15) (v.s 7 16) (v.r 3) (v.r 4) (v.r 5) (qbdb K))
def qtj (Aa Ab Ac:LA)(B7:Int)(B8:Bool)(B9 Ca Cb Cc:Int)(Cd Ce:LU)(C0 C1 C2:Int)(C3:LU)(C4:Bool)(C5 C6 C7:Int)(C8:LU):Option (AV×Int):=
 (oB (q6g B7 B8 B9 Ca Cb Cc Cd Ce C0 C1 C2 C3 C4 C5 C6 C7 C8) fun r1=>(bif((!r1.2)||(!(((gI r1.1.cells 0)==B7)&&(((gB r1.1.cells 1)==B8)&&(((gI r1.1.cells 2)==B9)&&(((gI r1.1.cells 3)==Ca)&&(((gI r1.1.cells 4)==Cb)&&(((gI r1.1.cells 5)==Cc)&&(((gS r1.1.cells 6)==Cd)&&(((gS r1.1.cells 7)==Ce)&&(((gI r1.1.cells 8)==C0)&&(((gI r1.1.cells 9)==C1)&&(((gI r1.1.cells 10)==C2)&&(((gS r1.1.cells 11)==C3)&&(((gB r1.1.cells 12)==C4)&&(((gI r1.1.cells 13)==C5)&&(((gI r1.1.cells 14)==C6)&&(((gI r1.1.cells 15)==C7)&&(((gS r1.1.cells 16)==C8)&&true)))))))))))))))))))then(some ((.agg [(.sl 8 ([]:List AV)),(.sl 5 ([]:List AV)),(.sl 1 ([]:List AV))]),(1:Int)))else(oB (qwt Aa Ab Ac) fun r2=>(bif(hd (gL r2.cells 0) ((gL r2.cells 0).length)&&(hd (gL r2.cells 1) ((gL r2.cells 1).length)&&(hd (gL r2.cells 2) ((gL r2.cells 2).length)&&true)))then(q3l (0:Int) B7 B8 B9 Ca Cb Cc Cd Ce C0 C1 C2 C3 C4 C5 C6 C7 C8 (gL r2.cells 0) (gL r2.cells 1) (gL r2.cells 2) (fun v8q3 b0_0q4 b0_1q5 b0_2q6=>(bif(v8q3 != (0:Int))then(some ((.agg [(.sl 8 ([]:List AV)),(.sl 5 ([]:List AV)),(.sl 1 ([]:List AV))]),v8q3))else(some ((.agg [(.sl 8 b0_0q4),(.sl 5 b0_1q5),(.sl 1 b0_2q6)]),(0:Int))))))else none))))
def qgk:=hull qtj
theorem qbm4:qgk=qtj:=qa _
def qyz {R:Type}:EntF Tryz.prog R:=entB (nt:=115) (dec:=qvk) (enc:=(fun r=>.tup [qcg (.st [(.sl 8),(.sl 5),(.sl 1)]) r.1,.int .i64 r.2])) tabOk follows Tryz.func14 [(.cell 4 true 3),.t 5] (hdeN fun _=>rfl) (.s .z (.s (.s (.r [(1,.c qbsk.b)] []) (.s (.r [(3,.g 3)] []) (.s (.s .z (.v [.nilc 2 0 8,.nilc 2 1 5,.nilc 2 2 1])) .z))) (.s (.r [(1,.c q24.b)] []) (.s .z (.s (.sub [.sel [2,3,4,8] [0,1,2,4,5,6]] qbfh []) (.s (.s .z (.s (.s .z (.v [.nilc 1 0 8,.nilc 1 1 5,.nilc 1 2 1])) .z)) .z)))))) S90_ qtj (fun f v=>f (v.l 1 0) (v.l 1 1) (v.l 1 2) (v.i 5 0) (v.b 5 1) (v.i 5 2) (v.i 5 3) (v.i 5 4) (v.i 5 5) (v.s 5 6) (v.s 5 7) (v.i 5 8) (v.i 5 9) (v.i 5 10) (v.s 5 11) (v.b 5 12) (v.i 5 13) (v.i 5 14) (v.i 5 15) (v.s 5 16))
def qmc (Aa Ab Ac:LA)(B7:Int)(B8:Bool)(B9 Ca Cb Cc:Int)(Cd Ce:LU)(C0 C1 C2:Int)(C3:LU)(C4:Bool)(C5 C6 C7:Int)(C8:LU):Option AV:=
 (oB (qnk Aa B8 B9 Ca Cb C1 C2 Cd Ce) fun r1=>(oB (qqf r1.1 (gB r1.2.1.cells 0) (gI r1.2.1.cells 1) (gI r1.2.1.cells 2) (gI r1.2.1.cells 3)) fun r2=>(some (.agg [(.bool (gB r2.1.cells 0)),(.int .u64 (gI r2.1.cells 1)),(.int .u64 (gI r2.1.cells 2)),(.int .i64 (gI r2.1.cells 3)),(.int .i64 (gI r2.1.cells 4)),(.str (gS r2.1.cells 5)),(.str (gS r2.1.cells 6)),(.int .i64 (gI r2.1.cells 7))]))))
def qvl:=hull qmc
theorem qbdd:qvl=qmc:=qa _
def qbfi {R:Type}:EntF Tryz.prog R:=entB (nt:=37) (dec:=(decT [.b,(.i .u64),(.i .u64),(.i .i64),(.i .i64),.s,.s,(.i .i64)])) (enc:=(qcg (.st [.b,(.i .u64),(.i .u64),(.i .i64),(.i .i64),.s,.s,(.i .i64)]))) tabOk follows Tryz.func52 [(.cell 4 true 8)] hdeT (.s .z (.s (.r [(15,.k qya.b)] []) (.s (.r [(2,.c qu2.b)] []) .z))) S90_ qmc (fun f v=>f (v.l 1 0) (v.l 1 1) (v.l 1 2) (v.i 5 0) (v.b 5 1) (v.i 5 2) (v.i 5 3) (v.i 5 4) (v.i 5 5) (v.s 5 6) (v.s 5 7) (v.i 5 8) (v.i 5 9) (v.i 5 10) (v.s 5 11) (v.b 5 12) (v.i 5 13) (v.i 5 14) (v.i 5 15) (v.s 5 16))
def qbfj:AV->Option (AV×Int):=decN [(.st [(.i .i64),.b,(.i .u64),(.i .u64),(.i .i64),(.i .i64),.s,.s,(.i .i64),(.i .i64),(.i .i64),.s,.b,(.i .u64),(.i .u64),(.i .i64),.s]),(.one (.i .i64))] fun z=>((gC (tpL z) 0),aI (gC (tpL z) 1))
def qk6 (Aa Ab Ac:LA)(B7:Int)(B8:Bool)(B9 Ca Cb Cc:Int)(Cd Ce:LU)(C0 C1 C2:Int)(C3:LU)(C4:Bool)(C5 C6 C7:Int)(C8:LU):Option (AV×Int):=
 (oB (qgk Aa Ab Ac B7 B8 B9 Ca Cb Cc Cd Ce C0 C1 C2 C3 C4 C5 C6 C7 C8) fun r1=>(bif(r1.2 != (0:Int))then(some ((.agg [(.int .i64 (0:Int)),(.bool false),(.int .u64 (0:Int)),(.int .u64 (0:Int)),(.int .i64 (0:Int)),(.int .i64 (0:Int)),(.str ([]:List UInt8)),(.str ([]:List UInt8)),(.int .i64 (0:Int)),(.int .i64 (0:Int)),(.int .i64 (0:Int)),(.str ([]:List UInt8)),(.bool false),(.int .u64 (0:Int)),(.int .u64 (0:Int)),(.int .i64 (0:Int)),(.str ([]:List UInt8))]),r1.2))else(bif(B7==1)then(some ((.agg [(.int .i64 (2:Int)),(.bool B8),(.int .u64 B9),(.int .u64 Ca),(.int .i64 Cb),(.int .i64 (0:Int)),(.str ([]:List UInt8)),(.str ([]:List UInt8)),(.int .i64 (0:Int)),(.int .i64 (0:Int)),(.int .i64 (0:Int)),(.str ([]:List UInt8)),(.bool false),(.int .u64 (0:Int)),(.int .u64 (0:Int)),(.int .i64 (0:Int)),(.str ([]:List UInt8))]),(0:Int)))else(bif(B7==2)then(oB (qqf Aa B8 B9 Ca Cb) fun r2=>(some ((.agg [(.int .i64 (1:Int)),(.bool (gB r2.1.cells 0)),(.int .u64 (gI r2.1.cells 1)),(.int .u64 (gI r2.1.cells 2)),(.int .i64 (gI r2.1.cells 3)),(.int .i64 (gI r2.1.cells 4)),(.str (gS r2.1.cells 5)),(.str (gS r2.1.cells 6)),(.int .i64 (gI r2.1.cells 7)),(.int .i64 (0:Int)),(.int .i64 (0:Int)),(.str ([]:List UInt8)),(.bool false),(.int .u64 (0:Int)),(.int .u64 (0:Int)),(.int .i64 (0:Int)),(.str ([]:List UInt8))]),(0:Int))))else(bif(B7==3)then(oB (qvl Aa Ab Ac B7 B8 B9 Ca Cb Cc Cd Ce C0 C1 C2 C3 C4 C5 C6 C7 C8) fun r3=>(some ((.agg [(.int .i64 (2:Int)),(.bool (gB r3.cells 0)),(.int .u64 (gI r3.cells 1)),(.int .u64 (gI r3.cells 2)),(.int .i64 (gI r3.cells 3)),(.int .i64 (0:Int)),(.str ([]:List UInt8)),(.str ([]:List UInt8)),(.int .i64 (0:Int)),(.int .i64 (0:Int)),(.int .i64 (0:Int)),(.str ([]:List UInt8)),(.bool false),(.int .u64 (0:Int)),(.int .u64 (0:Int)),(.int .i64 (0:Int)),(.str ([]:List UInt8))]),(0:Int))))else(bif(B7==4)then(some ((.agg [(.int .i64 (5:Int)),(.bool false),(.int .u64 (0:Int)),(.int .u64 (0:Int)),(.int .i64 (0:Int)),(.int .i64 (0:Int)),(.str ([]:List UInt8)),(.str ([]:List UInt8)),(.int .i64 (0:Int)),(.int .i64 (0:Int)),(.int .i64 (0:Int)),(.str C3),(.bool C4),(.int .u64 C5),(.int .u64 C6),(.int .i64 (0:Int)),(.str ([]:List UInt8))]),(0:Int)))else(bif(B7==5)then(oB (qwt Aa Ab Ac) fun r4=>(bif hd (gL r4.cells 0) ((gL r4.cells 0).length)then(bif hd (gL r4.cells 1) ((gL r4.cells 1).length)then(bif hd (gL r4.cells 2) ((gL r4.cells 2).length)then(bif(hd (gL r4.cells 0) ((gL r4.cells 0).length)&&(hd (gL r4.cells 1) ((gL r4.cells 1).length)&&(hd (gL r4.cells 2) ((gL r4.cells 2).length)&&true)))then(oB (qj5 C3 C4 C5 C6 C7 (gL r4.cells 0) (gL r4.cells 1) (gL r4.cells 2)) fun r5=>(some ((.agg [(.int .i64 (4:Int)),(.bool false),(.int .u64 (0:Int)),(.int .u64 (0:Int)),(.int .i64 (0:Int)),(.int .i64 (0:Int)),(.str ([]:List UInt8)),(.str ([]:List UInt8)),(.int .i64 (0:Int)),(.int .i64 (0:Int)),(.int .i64 (0:Int)),(.str (gS r5.2.1.cells 0)),(.bool (gB r5.2.1.cells 1)),(.int .u64 (gI r5.2.1.cells 2)),(.int .u64 (gI r5.2.1.cells 3)),(.int .i64 (gI r5.2.1.cells 4)),(.str ([]:List UInt8))]),(0:Int))))else none)else none)else none)else none))else(some ((.agg [(.int .i64 (6:Int)),(.bool false),(.int .u64 (0:Int)),(.int .u64 (0:Int)),(.int .i64 (0:Int)),(.int .i64 (0:Int)),(.str ([]:List UInt8)),(.str ([]:List UInt8)),(.int .i64 (0:Int)),(.int .i64 (0:Int)),(.int .i64 (0:Int)),(.str C8),(.bool C4),(.int .u64 C5),(.int .u64 C6),(.int .i64 (0:Int)),(.str C3)]),(0:Int))))))))))
def qkz:=hull qk6
theorem q1y:qkz=qk6:=qa _
def q3m {R:Type}:EntF Tryz.prog R:=entB (nt:=86) (dec:=qbfj) (enc:=(fun r=>.tup [qcg (.st [(.i .i64),.b,(.i .u64),(.i .u64),(.i .i64),(.i .i64),.s,.s,(.i .i64),(.i .i64),(.i .i64),.s,.b,(.i .u64),(.i .u64),(.i .i64),.s]) r.1,.int .i64 r.2])) tabOk follows Tryz.func17 [(.cell 4 true 17),.t 5] (hdeN fun _=>rfl) (.s .z (.s (.s (.r [(2,.k qyz.b)] []) .z) (.s (.s .z (.b (.s .z (.s .z (.s .z (.s (.s (.r [(5,.c qu2.b)] []) .z) (.s .z (.s (.s (.r [(2,.c qbfi.b)] []) .z) (.s .z (.s .z (.s .z (.s (.s (.d5 [] [(1,q24.eat),(4,qqw)] [] []) .z) .z)))))))))))) .z))) S90_ qk6 (fun f v=>f (v.l 1 0) (v.l 1 1) (v.l 1 2) (v.i 5 0) (v.b 5 1) (v.i 5 2) (v.i 5 3) (v.i 5 4) (v.i 5 5) (v.s 5 6) (v.s 5 7) (v.i 5 8) (v.i 5 9) (v.i 5 10) (v.s 5 11) (v.b 5 12) (v.i 5 13) (v.i 5 14) (v.i 5 15) (v.s 5 16))
end
end Go.Proofs.YtoaaphlopbabeaaGreatDoor.Dn
