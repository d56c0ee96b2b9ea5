import Derived.Test.YtoaaphlopbabeaaGreatDoorProg
import Derived.Test.YtoaaphlopbabeaaGreatDoorCBLibD
set_option linter.all false
namespace Go.Proofs.YtoaaphlopbabeaaGreatDoor.Dn
open Go Go.Pev
open Go.IntKind (i64 u64)
set_option maxRecDepth 100000
set_option maxHeartbeats 4000000
theorem zT:True:=True.intro
theorem zA {a b:Prop}(x:a)(y:b):a/\b:=⟨x,y⟩
theorem tabOk:Tab.ok (TIof Tryz.prog) Tryz.prog:=fun _ _ h=>h
theorem follows:Tryz.prog.follows .mixedOrders=true:=by kernel_rfl
instance:Sure Tryz.prog:=⟨tabOk,follows⟩
def qm:List LT:=[(.sl 8),(.sl 5),(.sl 1)]
def S0_:Shp:=⟨[(0,.st (lk qm)),(1,.one (.l (.sl 17)))],[]⟩
noncomputable section
def qws (Aa Ab Ac v1:LA):Option Bool:=
 (some ((((decide ((Aa.length:Int)>40))||(decide ((Ab.length:Int)>40)))||(decide ((Ac.length:Int)>40)))||(decide ((v1.length:Int)>68))))
def qta:=hull qws
theorem qbhk:qta=qws:=qa _
def q4q {R:Type}:EntF Tryz.prog R:=entB (nt:=26) (dec:=decB) (enc:=AV.bool) Tryz.func11 [.t 4] hdeB (.s .z (.s (.r [(5,.g 4),(11,.g 4),(17,.g 3)] []) .z)) S0_ qws (fun f v=>f (v.l 1 0) (v.l 1 1) (v.l 1 2) (v.l 4 0))
def S1_:Shp:=⟨[(0,.one (.l (.i .i64)))],[]⟩
def q1t (v0:Int):Option AV:=
 (some (.agg [(.bool false),(.int .u64 0),(.int .u64 167772160),(.int .i64 v0)]))
def qzx:=hull q1t
theorem qbo7:qzx=q1t:=qa _
def qbao {R:Type}:EntF Tryz.prog R:=entB (nt:=6) (dec:=(decT [.b,(.i .u64),(.i .u64),(.i .i64)])) (enc:=(qfe (.st [.b,(.i .u64),(.i .u64),(.i .i64)]))) Tryz.func34 [(.cell 2 true 4)] hdeT (.z) S1_ q1t (fun f v=>f (v.i 0 0))
def qeh:List LT:=[(.i .i64),.b,(.i .u64),(.i .u64),(.i .i64),(.i .i64),.s,.s,(.i .i64),(.i .i64),(.i .i64),.s,.b,(.i .u64),(.i .u64),(.i .i64),.s]
def q8f (x0:Int)(x1:Bool)(x2 x3 x4 x5:Int)(x6 x7:LU)(x8 x9 x10:Int)(x11:LU)(x12:Bool)(x13 x14 x15:Int)(x16:LU):List AV:=[.int .i64 x0,.bool x1,.int .u64 x2,.int .u64 x3,.int .i64 x4,.int .i64 x5,.str x6,.str x7,.int .i64 x8,.int .i64 x9,.int .i64 x10,.str x11,.bool x12,.int .u64 x13,.int .u64 x14,.int .i64 x15,.str x16]
def S2_:Shp:=⟨[(1,.one (.ptr 0 0)),(2,.one (.ptr 1 0)),(4,.one (.ptr 2 0))],[.box true (lk qeh),.box true (lk qeh),.box true (lk qeh)]⟩
def S3_:Shp:=⟨[(0,.st (lk qeh))],[]⟩
def q8g:AV->Option (AV×Bool):=decN [(.st [(.i .i64),.b,(.i .u64),(.i .u64),(.i .i64),(.i .i64),.s,.s,(.i .i64),(.i .i64),(.i .i64),.s,.b,(.i .u64),(.i .u64),(.i .i64),.s]),(.one .b)] fun z=>((gC (tpL z) 0),aB (gC (tpL z) 1))
def qbk3 (Ad:Int)(Ae:Bool)(Af Ag Ah Ai:Int)(Aj Ak:LU)(Al Am An:Int)(Ao:LU)(Ap:Bool)(Aq Ar As:Int)(At:LU)(Au:Int)(K:Ex->Env->Mem->Option (AV×Bool)):=(fun z_b1_1 z_b1_2 z_b1_3 z_b1_4 z_b1_5 z_b1_6 z_b1_7 z_b1_8 z_b1_9 z_b1_10 z_b1_11 z_b1_12 z_b1_13 z_b1_14 z_b1_15 z_b1_16=>K .norm (qi [(2,(.ptr 0 0)),(4,(.ptr 1 0))]) (qe [(some (.box true (q8f Ad Ae Af Ag Ah Ai Aj Ak Al Am An Ao Ap Aq Ar As At))),(some (.box true (q8f Au z_b1_1 z_b1_2 z_b1_3 z_b1_4 z_b1_5 z_b1_6 z_b1_7 z_b1_8 z_b1_9 z_b1_10 z_b1_11 z_b1_12 z_b1_13 z_b1_14 z_b1_15 z_b1_16)))]))
def qqv (Av:Int)(Aw:Bool)(Ax Ay Az A0:Int)(A1 A2:LU)(A3 A4 A5:Int)(A6:LU)(A7:Bool)(A8 A9 Ba:Int)(Bb:LU)(Ad:Int)(Ae:Bool)(Af Ag Ah Ai:Int)(Aj Ak:LU)(Al Am An:Int)(Ao:LU)(Ap:Bool)(Aq Ar As:Int)(At:LU)(Au:Int)(Bc:Bool)(Bd Be Bf Bg:Int)(Bh Bi:LU)(Bj Bl Bm:Int)(Bn:LU)(Bo:Bool)(Bp Bq Br:Int)(Bs:LU)(kn:Bool->Int->Int->Int->Int->(List UInt8)->(List UInt8)->Int->Int->Int->(List UInt8)->Bool->Int->Int->Int->(List UInt8)->Option (AV×Bool)):Option (AV×Bool):=
 (bif(Av==1)then(kn Aw Ax Ay Az A0 A1 A2 A3 Bl Bm Bn Bo Bp Bq Br Bs)else(bif(Av==2)then(kn Aw Ax Ay Az Bg Bh Bi Bj Bl Bm Bn Bo Bp Bq Br Bs)else(bif(Av==3)then(kn Aw Ax Ay Az 0 A1 A2 0 A4 A5 Bn Bo Bp Bq Br Bs)else(bif(Av==4)then(kn Bc Bd Be Bf Bg Bh Bi Bj Bl Bm A6 A7 A8 A9 Ba Bs)else(bif(Av==5)then(kn Bc Bd Be Bf Bg Bh Bi Bj Bl Bm A6 A7 A8 A9 0 Bs)else(bif(Av==6)then(kn Bc Bd Be Bf Bg Bh Bi Bj Bl Bm A6 A7 A8 A9 0 Bb)else(some ((.agg [(.int .i64 Au),(.bool Bc),(.int .u64 Bd),(.int .u64 Be),(.int .i64 Bf),(.int .i64 Bg),(.str Bh),(.str Bi),(.int .i64 Bj),(.int .i64 Bl),(.int .i64 Bm),(.str Bn),(.bool Bo),(.int .u64 Bp),(.int .u64 Bq),(.int .i64 Br),(.str Bs)]),false))))))))
def qbap:=hull (qqv)
theorem qbk4:qbap=qqv:=qa _
def qbne:SubB Tryz.prog (TIof Tryz.prog) 71 0 (kret [(.cell 2 true 17),.t 3] q8g):=jnB Tryz.f35 11 (.s .z (.b (.s .z (.s (.v [.sel [2,4] [1,2]]) (.s .z (.s (.v [.sel [2,4] [1,2]]) (.s .z (.s (.s .z (.d [] [] [] [.sel [2,4] [1,2]])) (.s .z (.s (.v [.sel [2,4] [1,2]]) (.s .z (.s (.v [.sel [2,4] [1,2]]) (.s .z (.s (.s .z (.v [.sel [2,4] [1,2]])) .z)))))))))))))) S2_ (qqv) (fun f v K=>f (v.i 3 0) (v.b 3 1) (v.i 3 2) (v.i 3 3) (v.i 3 4) (v.i 3 5) (v.s 3 6) (v.s 3 7) (v.i 3 8) (v.i 3 9) (v.i 3 10) (v.s 3 11) (v.b 3 12) (v.i 3 13) (v.i 3 14) (v.i 3 15) (v.s 3 16) (v.i 7 0) (v.b 7 1) (v.i 7 2) (v.i 7 3) (v.i 7 4) (v.i 7 5) (v.s 7 6) (v.s 7 7) (v.i 7 8) (v.i 7 9) (v.i 7 10) (v.s 7 11) (v.b 7 12) (v.i 7 13) (v.i 7 14) (v.i 7 15) (v.s 7 16) (v.i 11 0) (v.b 11 1) (v.i 11 2) (v.i 11 3) (v.i 11 4) (v.i 11 5) (v.s 11 6) (v.s 11 7) (v.i 11 8) (v.i 11 9) (v.i 11 10) (v.s 11 11) (v.b 11 12) (v.i 11 13) (v.i 11 14) (v.i 11 15) (v.s 11 16) (qbk3 (v.i 7 0) (v.b 7 1) (v.i 7 2) (v.i 7 3) (v.i 7 4) (v.i 7 5) (v.s 7 6) (v.s 7 7) (v.i 7 8) (v.i 7 9) (v.i 7 10) (v.s 7 11) (v.b 7 12) (v.i 7 13) (v.i 7 14) (v.i 7 15) (v.s 7 16) (v.i 11 0) K))
def qxy (Aa:Int)(Ab:Bool)(Ac Bt Bu Bv:Int)(Bw Bx:LU)(By Bz B0:Int)(B1:LU)(B2:Bool)(B3 B4 B5:Int)(B6:LU):Option (AV×Bool):=
 (qbap Aa Ab Ac Bt Bu Bv Bw Bx By Bz B0 B1 B2 B3 B4 B5 B6 0 false 0 0 0 0 ([]:List UInt8) ([]:List UInt8) 0 0 0 ([]:List UInt8) false 0 0 0 ([]:List UInt8) Aa false 0 0 0 0 ([]:List UInt8) ([]:List UInt8) 0 0 0 ([]:List UInt8) false 0 0 0 ([]:List UInt8) (fun b1_1q1 b1_2q2 b1_3q3 b1_4q4 b1_5q5 b1_6q6 b1_7q7 b1_8q8 b1_9q9 b1_10q10 b1_11q11 b1_12q12 b1_13q13 b1_14q14 b1_15q15 b1_16q16=>(some ((.agg [(.int .i64 Aa),(.bool b1_1q1),(.int .u64 b1_2q2),(.int .u64 b1_3q3),(.int .i64 b1_4q4),(.int .i64 b1_5q5),(.str b1_6q6),(.str b1_7q7),(.int .i64 b1_8q8),(.int .i64 b1_9q9),(.int .i64 b1_10q10),(.str b1_11q11),(.bool b1_12q12),(.int .u64 b1_13q13),(.int .u64 b1_14q14),(.int .i64 b1_15q15),(.str b1_16q16)]),true))))
def q9r:=hull qxy
theorem qbry:q9r=qxy:=qa _
def qbu3 {R:Type}:EntF Tryz.prog R:=entB (nt:=71) (dec:=q8g) (enc:=(fun r=>.tup [qfe (.st [(.i .i64),.b,(.i .u64),(.i .u64),(.i .i64),(.i .i64),.s,.s,(.i .i64),(.i .i64),(.i .i64),.s,.b,(.i .u64),(.i .u64),(.i .i64),.s]) r.1,.bool r.2])) Tryz.func35 [(.cell 2 true 17),.t 3] (hdeN fun _=>rfl) (.s .z (.s .z (.s (.sub [.sel [1,2,4] [0,1,2]] qbne []) .z))) S3_ qxy (fun f v=>f (v.i 1 0) (v.b 1 1) (v.i 1 2) (v.i 1 3) (v.i 1 4) (v.i 1 5) (v.s 1 6) (v.s 1 7) (v.i 1 8) (v.i 1 9) (v.i 1 10) (v.s 1 11) (v.b 1 12) (v.i 1 13) (v.i 1 14) (v.i 1 15) (v.s 1 16))
def qw (l:LA):Option (List AV):=q30 80 l
def qss {R:Type}(xs:LA)(K:AV->Option R):Option R:=q09 8 80 xs K
theorem qfl {R:Type}:qi0 Tryz.prog 87 (qss (R:=R)):=qbsr (ρ:=q7b 87 4 22 33) tabOk (qbj9 follows "slices.Clone[[]ddi/api.Block,ddi/api.Block]" (by kernel_rfl) (by kernel_rfl) (by kernel_rfl) (by kernel_rfl) (by kernel_rfl) (by kernel_rfl) (by kernel_rfl) (by kernel_rfl)) (by kernel_rfl) (by decide) (by decide)
def qnh (l:LA):Option (List AV):=q30 48 l
def quc {R:Type}(xs:LA)(K:AV->Option R):Option R:=q09 5 48 xs K
theorem qwt {R:Type}:qi0 Tryz.prog 88 (quc (R:=R)):=qbsr (ρ:=q7b 88 4 23 35) tabOk (qbj9 follows "slices.Clone[[]ddi/api.Host,ddi/api.Host]" (by kernel_rfl) (by kernel_rfl) (by kernel_rfl) (by kernel_rfl) (by kernel_rfl) (by kernel_rfl) (by kernel_rfl) (by kernel_rfl)) (by kernel_rfl) (by decide) (by decide)
def qqa (l:LA):Option (List AV):=q30 16 l
def qyp {R:Type}(xs:LA)(K:AV->Option R):Option R:=q09 1 16 xs K
theorem qzy {R:Type}:qi0 Tryz.prog 89 (qyp (R:=R)):=qbsr (ρ:=q7b 89 4 24 9) tabOk (qbj9 follows "slices.Clone[[]string,string]" (by kernel_rfl) (by kernel_rfl) (by kernel_rfl) (by kernel_rfl) (by kernel_rfl) (by kernel_rfl) (by kernel_rfl) (by kernel_rfl)) (by kernel_rfl) (by decide) (by decide)
def S4_:Shp:=⟨[(0,.st (lk qm))],[]⟩
def qzz (Aa Ab Ac:LA):Option AV:=
 (oB (qw Aa) fun r1=>(oB (qnh Ab) fun r2=>(oB (qqa Ac) fun r3=>(bif hd r1 r1.length then(bif hd r2 r2.length then(bif hd r3 r3.length then(some (.agg [(.fr true 8 r1),(.fr true 5 r2),(.fr true 1 r3)]))else none)else none)else none))))
def qvl:=hull qzz
theorem qbu4:qvl=qzz:=qa _
def qz0 {R:Type}:EntF Tryz.prog R:=entB (nt:=13) (dec:=(decT [(.fr true 8),(.fr true 5),(.fr true 1)])) (enc:=(qfe (.st [(.fr true 8),(.fr true 5),(.fr true 1)]))) Tryz.func36 [(.cell 2 true 3)] hdeT (.s .z (.s (.d3 [] [5,8] [(2,.c (eB qfl)),(5,.c (eB qwt))] [(0,.c (eB qzy))] []) .z)) S4_ qzz (fun f v=>f (v.l 1 0) (v.l 1 1) (v.l 1 2))
def qfz:List LT:=[.b,(.i .u64),(.i .u64)]
def S5_:Shp:=⟨[(0,.st (lk qfz))],[]⟩
def qz1 (Aa:Bool)(Ab Ac:Int):Option Bool:=
 (bif Aa then(some true)else(bif(Ab==0)then(some (decide (Ac<=4294967295)))else(some false)))
def qz2:=hull qz1
theorem qbu5:qz2=qz1:=qa _
def q5z {R:Type}:EntF Tryz.prog R:=entB (nt:=15) (dec:=decB) (enc:=AV.bool) Tryz.func167 [.t 2] hdeB (.z) S5_ qz1 (fun f v=>f (v.b 1 0) (v.i 1 1) (v.i 1 2))
def qtb (Aa:Bool)(Ab Ac:Int):Option Int:=
 (bif Aa then(some 128)else(some 32))
def qn4:=hull qtb
theorem qbnf:qn4=qtb:=qa _
def qtc {R:Type}:EntF Tryz.prog R:=entB (nt:=5) (dec:=(decI .i64)) (enc:=(AV.int .i64)) Tryz.func174 [.t 2] hdeI (.z) S5_ qtb (fun f v=>f (v.b 1 0) (v.i 1 1) (v.i 1 2))
def S6_:Shp:=⟨[(0,.one (.l .b)),(1,.one (.l (.i .i64)))],[]⟩
def qbng:AV->Option (Int×Int):=decN [(.one (.i .u64)),(.one (.i .u64))] fun z=>(aI (gC (tpL z) 0),aI (gC (tpL z) 1))
def qqb (v0:Bool)(v1:Int):Option (Int×Int):=
 (bif(!v0)then(bif decide ((u64.wrap (i64.wrap (32-v1)))<0)then none else(some (0,(u64.wrap ((u64.wrap (1*2^min (u64.wrap (i64.wrap (32-v1))).toNat u64.bits))-1)))))else(bif(decide (v1>=64))then(bif decide ((u64.wrap (i64.wrap (128-v1)))<0)then none else(some (0,(u64.wrap ((u64.wrap (1*2^min (u64.wrap (i64.wrap (128-v1))).toNat u64.bits))-1)))))else(bif decide ((u64.wrap (i64.wrap (64-v1)))<0)then none else(some ((u64.wrap ((u64.wrap (1*2^min (u64.wrap (i64.wrap (64-v1))).toNat u64.bits))-1)),18446744073709551615)))))
def qz3:=hull qqb
theorem qbo8:qz3=qqb:=qa _
def qbaq {R:Type}:EntF Tryz.prog R:=entB (nt:=25) (dec:=qbng) (enc:=(fun r=>.tup [.int .u64 r.1,.int .u64 r.2])) Tryz.func175 [.t 4,.t 5] (hdeN fun _=>rfl) (.z) S6_ qqb (fun f v=>f (v.b 0 0) (v.i 4 0))
def qk:List LT:=[.b,(.i .u64),(.i .u64),(.i .i64)]
def qj (x0:Bool)(x1 x2 x3:Int):List AV:=[.bool x0,.int .u64 x1,.int .u64 x2,.int .i64 x3]
def S7_:Shp:=⟨[(1,.one (.ptr 0 0))],[.box true (lk qk)]⟩
def S8_:Shp:=⟨[(0,.st (lk qk))],[]⟩
def qbhl (Av:Bool)(Aw Ax Ay:Int)(K:Ex->Env->Mem->Option Bool):=(fun z_v21=>K .norm (qi [(1,(.ptr 0 0)),(21,(.bool z_v21))]) (qe [(some (.box true (qj Av Aw Ax Ay)))]))
def qpk (Av:Bool)(Aw Ax Ay:Int)(kn:Bool->Option Bool):Option Bool:=
 (oB (qz2 Av Aw Ax) fun r1=>(bif(!r1)then(kn true)else(bif(decide (Ay<0))then(kn true)else(oB (qn4 Av Aw Ax) fun r2=>(kn (decide (Ay>r2)))))))
def q8h:=hull (qpk)
theorem qbhm:q8h=qpk:=qa _
def qbk5:SubB Tryz.prog (TIof Tryz.prog) 45 0 (kret [.t 2] decB):=jnB Tryz.f126 9 (.d [] [(2,.c q5z.b),(14,.c qtc.b)] [] [.sel [1,21] [0]]) S7_ (qpk) (fun f v K=>f (v.b 3 0) (v.i 3 1) (v.i 3 2) (v.i 3 3) (qbhl (v.b 3 0) (v.i 3 1) (v.i 3 2) (v.i 3 3) K))
def qvm (Aa:Bool)(Ab Ac Bt:Int):Option Bool:=
 (q8h Aa Ab Ac Bt (fun v21q1=>(bif v21q1 then(some false)else(oB (qz3 Aa Bt) fun r2=>(some (((qbn .and .u64 Ab r2.1)==0)&&((qbn .and .u64 Ac r2.2)==0)))))))
def qk8:=hull qvm
theorem qbo9:qk8=qvm:=qa _
def qne {R:Type}:EntF Tryz.prog R:=entB (nt:=45) (dec:=decB) (enc:=AV.bool) Tryz.func126 [.t 2] hdeB (.s .z (.s (.s (.sub [.sel [1] [0]] qbk5 []) .z) (.s (.r [(5,.c qbaq.b)] []) (.s (.r [(7,.g 6)] []) .z)))) S8_ qvm (fun f v=>f (v.b 1 0) (v.i 1 1) (v.i 1 2) (v.i 1 3))
def qvn (Aa:Bool)(Ab Ac Bt:Int):Option Int:=
 (bif Aa then(some 128)else(some 32))
def q50:=hull qvn
theorem qbpa:q50=qvn:=qa _
def qbrz {R:Type}:EntF Tryz.prog R:=entB (nt:=6) (dec:=(decI .i64)) (enc:=(AV.int .i64)) Tryz.func137 [.t 2] hdeI (.z) S8_ qvn (fun f v=>f (v.b 1 0) (v.i 1 1) (v.i 1 2) (v.i 1 3))
def S9_:Shp:=⟨[(0,.one (.l .s)),(19,.one (.l (.i .i64))),(20,.one (.l (.i .i64)))],[]⟩
def S10_:Shp:=⟨[(0,.one (.l .s)),(1,.one (.l (.i .i64))),(2,.one (.l (.i .i64)))],[]⟩
def qw7 (K:Ex->Env->Mem->Option Bool):=(fun(_:Unit)=>K (.exit 0) (qi []) (qe []))
def qh4 (v0:LU)(v19 v20:Int)(next:Int->Option Bool)(kx0:Unit->Option Bool):Option Bool:=
 (bif(decide (v20<v19))then(oB (ixB v0 v20) fun c1=>(bif(decide ((c1.toNat:Int)<33))then(some false)else(oB (ixB v0 v20) fun c2=>(bif(decide ((c2.toNat:Int)>126))then(some false)else(next (i64.wrap (v20+1)))))))else(kx0 ()))
def qh5 (v0:LU)(v19:Int)(kx0:Unit->Option Bool):Nat->Int->Option Bool
 |0=>(fun _=>none)
 |n+1=>(fun v20=>qh4 v0 v19 v20 (qh5 v0 v19 kx0 n) kx0)
def qud:=hull (qh5)
theorem qbar:qud=qh5:=qa _
def qbc1:SubB Tryz.prog (TIof Tryz.prog) 34 0 (kret [.t 6] decB):=lpB Tryz.f138 75 (.s .z (.s (.s .z (.v [.sel [] []])) (.s .z (.v [.sel [0,19,20] []])))) S9_ (qh5) (fun f v K n=>f (v.s 0 0) (v.i 76 0) (qw7 K) n) (fun v f K=>qh4 (v.s 0 0) (v.i 76 0) (v.i 80 0) f (qw7 K)) (fun f v=>f (v.i 80 0)) (fun k v=>(fun z0=>k (v.ui 80 0 z0)))
def qqw (v0:LU)(v1 v2:Int):Option Bool:=
 (bif((decide ((v0.length:Int)<v1))||(decide ((v0.length:Int)>v2)))then(some false)else(qud v0 (v0.length:Int) (fun(_:Unit)=>(some true)) FU 0))
def qvo:=hull qqw
theorem qbk6:qvo=qqw:=qa _
def q51 {R:Type}:EntF Tryz.prog R:=entB (nt:=34) (dec:=decB) (enc:=AV.bool) Tryz.func138 [.t 6] hdeB (.s .z (.s (.s (.r [(5,.g 4)] []) .z) (.s (.s .z (.b (.sub [.sel [0,19,20] []] qbc1 []))) .z))) S10_ qqw (fun f v=>f (v.s 0 0) (v.i 4 0) (v.i 8 0))
def qb:List LT:=[.b,(.i .u64),(.i .u64),(.i .i64),(.i .i64),.s,.s,(.i .i64)]
def qo (x0:Bool)(x1 x2 x3 x4:Int)(x5 x6:LU)(x7:Int):List AV:=[.bool x0,.int .u64 x1,.int .u64 x2,.int .i64 x3,.int .i64 x4,.str x5,.str x6,.int .i64 x7]
def S11_:Shp:=⟨[(1,.one (.ptr 0 0))],[.box true (lk qb)]⟩
def S12_:Shp:=⟨[(0,.st (lk qb))],[]⟩
def qbf3 (Av:Bool)(Aw Ax Ay Az:Int)(A0 A1:LU)(A2:Int)(K:Ex->Env->Mem->Option Int):=(fun z_v28=>K .norm (qi [(1,(.ptr 0 0)),(28,(.bool z_v28))]) (qe [(some (.box true (qo Av Aw Ax Ay Az A0 A1 A2)))]))
def qn9 (Av:Bool)(Aw Ax Ay Az:Int)(A0 A1:LU)(A2:Int)(kn:Bool->Option Int):Option Int:=
 (bif(decide (Az<1))then(kn true)else(bif(decide (Az>3))then(kn true)else(bif(Az==3)then(oB (q50 Av Aw Ax Ay) fun r1=>(kn (Ay != r1)))else(kn false))))
def q52:=hull (qn9)
theorem qbf4:q52=qn9:=qa _
def qbhn:SubB Tryz.prog (TIof Tryz.prog) 49 0 (kret [.t 2] (decI .i64)):=jnB Tryz.f90 19 (.d [] [(18,.c qbrz.b)] [] [.sel [1,28] [0]]) S11_ (qn9) (fun f v K=>f (v.b 3 0) (v.i 3 1) (v.i 3 2) (v.i 3 3) (v.i 3 4) (v.s 3 5) (v.s 3 6) (v.i 3 7) (qbf3 (v.b 3 0) (v.i 3 1) (v.i 3 2) (v.i 3 3) (v.i 3 4) (v.s 3 5) (v.s 3 6) (v.i 3 7) K))
def qvp (Aa:Bool)(Ab Ac Bt Bu:Int)(Bv Bw:LU)(Bx:Int):Option Int:=
 (oB (qk8 Aa Ab Ac Bt) fun r1=>(bif(!r1)then(some 3)else(q52 Aa Ab Ac Bt Bu Bv Bw Bx (fun v28q2=>(bif v28q2 then(some 1)else(oB (qvo Bv 1 63) fun r3=>(bif(!r3)then(some 1)else(oB (qvo Bw 0 32) fun r4=>(bif(((!r4)||(decide (Bx<0)))||(decide (Bx>4294967295)))then(some 1)else(some 0))))))))))
def que:=hull qvp
theorem qbpb:que=qvp:=qa _
def qbas {R:Type}:EntF Tryz.prog R:=entB (nt:=49) (dec:=(decI .i64)) (enc:=(AV.int .i64)) Tryz.func90 [.t 2] hdeI (.s .z (.s (.s (.r [(2,.c qne.b)] []) .z) (.s (.s (.sub [.sel [1] [0]] qbhn []) .z) (.s (.s (.r [(2,.c q51.b),(7,.c q51.b),(11,.g 3),(16,.g 3)] []) .z) .z)))) S12_ qvp (fun f v=>f (v.b 1 0) (v.i 1 1) (v.i 1 2) (v.i 1 3) (v.i 1 4) (v.s 1 5) (v.s 1 6) (v.i 1 7))
def S13_:Shp:=⟨[(0,.st (lk qb)),(1,.one (.ptr 0 0))],[.box true (lk qk)]⟩
def qbk7 {R:Type}(KK:AV->Mem->Option R):=(fun v3 Av Aw Ax Ay=>KK (.bool v3) (qe [(some (.box true (qj Av Aw Ax Ay)))]))
def qqx {R:Type}(Aa:Bool)(Ab Ac Bt Bu:Int)(Bv Bw:LU)(Bx:Int)(Av:Bool)(Aw Ax Ay:Int)(kr:Bool->Bool->Int->Int->Int->Option R):Option R:=
 (kr ((Aa==Av)&&((Ab==Aw)&&((Ac==Ax)&&((Bt==Ay)&&true)))) Av Aw Ax Ay)
def qbat {R:Type}:=hull (qqx (R:=R))
theorem qbk8 {R:Type}:qbat (R:=R)=qqx:=qa _
def qbnh {R:Type}:RefB Tryz.prog R:=refB (nt:=8) (nb:=1) Tryz.func139 [.t 3] (fun KK=>.s .z (.s .z (.v [.sel [3] [0]]))) S13_ (qqx (R:=R)) (fun f v KK=>f (v.b 1 0) (v.i 1 1) (v.i 1 2) (v.i 1 3) (v.i 1 4) (v.s 1 5) (v.s 1 6) (v.i 1 7) (v.b 3 0) (v.i 3 1) (v.i 3 2) (v.i 3 3) (qbk7 KK)) (by kernel_rfl) (by kernel_rfl) (fun _=>(by kernel_rfl)) rfl
def S14_:Shp:=⟨[(0,.one (.l (.sl 8))),(1,.one (.fn 139 [(0,0)])),(7,.one (.l (.i .i64))),(8,.one (.l (.i .i64)))],[.box true (lk qk)]⟩
def S15_:Shp:=⟨[(0,.one (.l (.sl 8))),(1,.one (.fn 139 [(0,0)]))],[.box true (lk qk)]⟩
def qdv {R:Type}(K:Ex->Env->Mem->Option R):=(fun z_b0_0 z_b0_1 z_b0_2 z_b0_3=>K (.exit 0) (qi []) (qe [(some (.box true (qj z_b0_0 z_b0_1 z_b0_2 z_b0_3)))]))
def qd5 {R:Type}(KK:AV->Mem->Option R):=(fun v4 Av Aw Ax Ay=>KK (.int .i64 v4) (qe [(some (.box true (qj Av Aw Ax Ay)))]))
def qbf {R:Type}(v0:LA)(v7 v8:Int)(Av:Bool)(Aw Ax Ay:Int)(next:Int->Bool->Int->Int->Int->Option R)(kx0:Bool->Int->Int->Int->Option R)(kr:Int->Bool->Int->Int->Int->Option R):Option R:=
 (bif(decide (v8<v7))then(oB (ixB v0 v8) fun y1=>(bif fitC qb y1.cells then(qbat (gB y1.cells 0) (gI y1.cells 1) (gI y1.cells 2) (gI y1.cells 3) (gI y1.cells 4) (gS y1.cells 5) (gS y1.cells 6) (gI y1.cells 7) Av Aw Ax Ay fun v3q2 b0_0q3 b0_1q4 b0_2q5 b0_3q6=>(bif v3q2 then(kr v8 b0_0q3 b0_1q4 b0_2q5 b0_3q6)else(next (i64.wrap (v8+1)) b0_0q3 b0_1q4 b0_2q5 b0_3q6)))else none))else(kx0 Av Aw Ax Ay))
def qbg {R:Type}(v0:LA)(v7:Int)(kx0:Bool->Int->Int->Int->Option R)(kr:Int->Bool->Int->Int->Int->Option R):Nat->Int->Bool->Int->Int->Int->Option R
 |0=>(fun _ _ _ _ _=>none)
 |n+1=>(fun v8 Av Aw Ax Ay=>qbf v0 v7 v8 Av Aw Ax Ay (qbg v0 v7 kx0 kr n) kx0 kr)
def qen {R:Type}:=hull (qbg (R:=R))
theorem qjn {R:Type}:qen (R:=R)=qbg:=qa _
def qjz {R:Type}(KK:AV->Mem->Option R):SubB Tryz.prog (TIof Tryz.prog) 19 1 (qdt [.t 4] KK):=lpB Tryz.f125 37 (.s .z (.s (.s .z (.v [.sel [] [0]])) (.s (.b (.s .z (.s (.r [(3,.p (.etac 14 qb)),(5,.s (.sel [0,1,5,7,8,11,15] [0])),(5,.r qbnh)] []) (.s (.s .z (.v [.sel [4] [0]])) .z)))) (.v [.sel [0,1,7,8] [0]])))) S14_ (qbg (R:=R)) (fun f v K n=>f (v.l 0 0) (v.i 28 0) (qdv K) (qd5 KK) n) (fun v f K=>qbf (v.l 0 0) (v.i 28 0) (v.i 32 0) (v.b 3 0) (v.i 3 1) (v.i 3 2) (v.i 3 3) f (qdv K) (qd5 KK)) (fun f v=>f (v.i 32 0) (v.b 3 0) (v.i 3 1) (v.i 3 2) (v.i 3 3)) (fun k v=>(fun z0 z1 z2 z3 z4=>k (((((v.ui 32 0 z0).ub 3 0 z1).ui 3 1 z2).ui 3 2 z3).ui 3 3 z4)))
def qkq {R:Type}(KK:AV->Mem->Option R):=(fun v4 Av Aw Ax Ay=>KK (.int .i64 v4) (qe [(some (.box true (qj Av Aw Ax Ay)))]))
def qb5 {R:Type}(v0:LA)(Av:Bool)(Aw Ax Ay:Int)(kr:Int->Bool->Int->Int->Int->Option R):Option R:=
 (qen v0 (v0.length:Int) (fun b0_0q1 b0_1q2 b0_2q3 b0_3q4=>(kr (-1) b0_0q1 b0_1q2 b0_2q3 b0_3q4)) kr FU 0 Av Aw Ax Ay)
def qex {R:Type}:=hull (qb5 (R:=R))
theorem qkr {R:Type}:qex (R:=R)=qb5:=qa _
def qk9 {R:Type}:RefB Tryz.prog R:=refB (nt:=19) (nb:=1) Tryz.func125 [.t 4] (fun KK=>.s .z (.s (.s .z (.b (.sub [.sel [0,1,7,8] [0]] (qjz KK) []))) (.s .z (.v [.sel [4] [0]])))) S15_ (qb5 (R:=R)) (fun f v KK=>f (v.l 0 0) (v.b 3 0) (v.i 3 1) (v.i 3 2) (v.i 3 3) (qkq KK)) (by kernel_rfl) (by kernel_rfl) (fun _=>(by kernel_rfl)) rfl
def S16_:Shp:=⟨[(0,.one (.l (.sl 8))),(1,.st (lk qk))],[]⟩
def qvq (v0:LA)(B7:Bool)(B8 B9 Ca:Int):Option Int:=
 (qex v0 B7 B8 B9 Ca fun v4q1 b0_0q2 b0_1q3 b0_2q4 b0_3q5=>(some v4q1))
def quf:=hull qvq
theorem qbpc:quf=qvq:=qa _
def q1u {R:Type}:EntF Tryz.prog R:=entB (nt:=8) (dec:=(decI .i64)) (enc:=(AV.int .i64)) Tryz.func91 [.t 4] hdeI (.s .z (.s (.r [(2,.s (.sel [5,6] [0])),(2,.r qk9)] []) .z)) S16_ qvq (fun f v=>f (v.l 0 0) (v.b 5 0) (v.i 5 1) (v.i 5 2) (v.i 5 3))
def qje (x0:Bool)(x1 x2:Int):List AV:=[.bool x0,.int .u64 x1,.int .u64 x2]
def S17_:Shp:=⟨[(1,.one (.l (.i .i64))),(2,.one (.ptr 0 0)),(4,.one (.ptr 1 0))],[.box true (lk qfz),.box true (lk qk)]⟩
def S18_:Shp:=⟨[(0,.st (lk qfz)),(1,.one (.l (.i .i64)))],[]⟩
def qbfs:AV->Option (AV×Bool):=decN [(.st [.b,(.i .u64),(.i .u64),(.i .i64)]),(.one .b)] fun z=>((gC (tpL z) 0),aB (gC (tpL z) 1))
def qbpd (v1:Int)(Av:Bool)(Aw Ax:Int)(Ad:Bool)(Ae Af Ag:Int)(K:Ex->Env->Mem->Option (AV×Bool)):=(fun z_v20=>K .norm (qi [(1,(.int .i64 v1)),(2,(.ptr 0 0)),(4,(.ptr 1 0)),(20,(.bool z_v20))]) (qe [(some (.box true (qje Av Aw Ax))),(some (.box true (qj Ad Ae Af Ag)))]))
def qvr (v1:Int)(Av:Bool)(Aw Ax:Int)(Ad:Bool)(Ae Af Ag:Int)(kn:Bool->Option (AV×Bool)):Option (AV×Bool):=
 (oB (qz2 Av Aw Ax) fun r1=>(bif((!r1)||(decide (v1<0)))then(kn true)else(oB (qn4 Av Aw Ax) fun r2=>(kn (decide (v1>r2))))))
def qbho:=hull (qvr)
theorem qbpe:qbho=qvr:=qa _
def qbr0:SubB Tryz.prog (TIof Tryz.prog) 42 0 (kret [(.cell 4 true 4),.t 5] qbfs):=jnB Tryz.f127 9 (.r [(1,.c q5z.b),(4,.g 2),(10,.c qtc.b)] [.sel [1,2,4,20] [0,1]]) S17_ (qvr) (fun f v K=>f (v.i 4 0) (v.b 3 0) (v.i 3 1) (v.i 3 2) (v.b 7 0) (v.i 7 1) (v.i 7 2) (v.i 7 3) (qbpd (v.i 4 0) (v.b 3 0) (v.i 3 1) (v.i 3 2) (v.b 7 0) (v.i 7 1) (v.i 7 2) (v.i 7 3) K))
def q2x (Aa:Bool)(Ab Ac v1:Int):Option (AV×Bool):=
 (qbho v1 Aa Ab Ac false 0 0 0 (fun v20q1=>(bif v20q1 then(some ((.agg [(.bool false),(.int .u64 0),(.int .u64 0),(.int .i64 0)]),false))else(oB (qz3 Aa v1) fun r2=>(some ((.agg [(.bool Aa),(.int .u64 (qbn .andNot .u64 Ab r2.1)),(.int .u64 (qbn .andNot .u64 Ac r2.2)),(.int .i64 v1)]),true))))))
def qbhp:=hull q2x
theorem qbv7:qbhp=q2x:=qa _
def qbyo {R:Type}:EntF Tryz.prog R:=entB (nt:=42) (dec:=qbfs) (enc:=(fun r=>.tup [qfe (.st [.b,(.i .u64),(.i .u64),(.i .i64)]) r.1,.bool r.2])) Tryz.func127 [(.cell 4 true 4),.t 5] (hdeN fun _=>rfl) (.s .z (.s (.s (.sub [.sel [1,2,4] [0,1]] qbr0 []) .z) (.s (.r [(3,.c qbaq.b)] []) .z))) S18_ q2x (fun f v=>f (v.b 1 0) (v.i 1 1) (v.i 1 2) (v.i 4 0))
def S19_:Shp:=⟨[(0,.st (lk qk)),(1,.st (lk qfz))],[]⟩
def qpl (Aa:Bool)(Ab Ac Bt:Int)(B7:Bool)(B8 B9:Int):Option Bool:=
 (oB (qk8 Aa Ab Ac Bt) fun r1=>(bif((!r1)||(!((Aa==B7)&&true)))then(some false)else(oB (qbhp B7 B8 B9 Bt) fun r2=>(some (r2.2&&(((gB r2.1.cells 0)==Aa)&&(((gI r2.1.cells 1)==Ab)&&(((gI r2.1.cells 2)==Ac)&&(((gI r2.1.cells 3)==Bt)&&true)))))))))
def qoa:=hull qpl
theorem qbhq:qoa=qpl:=qa _
def qwu {R:Type}:EntF Tryz.prog R:=entB (nt:=31) (dec:=decB) (enc:=AV.bool) Tryz.func67 [.t 4] hdeB (.s .z (.s (.s (.r [(1,.c qne.b),(4,.g 6)] []) .z) (.s (.r [(3,.c qbyo.b)] []) (.s (.r [(2,.g 3)] []) .z)))) S19_ qpl (fun f v=>f (v.b 1 0) (v.i 1 1) (v.i 1 2) (v.i 1 3) (v.b 5 0) (v.i 5 1) (v.i 5 2))
def S20_:Shp:=⟨[(0,.st (lk qk)),(1,.st (lk qk))],[]⟩
def qtd (Aa:Bool)(Ab Ac Bt:Int)(B7:Bool)(B8 B9 Ca:Int):Option Bool:=
 (oB (qk8 Aa Ab Ac Bt) fun r1=>(bif r1 then(oB (qk8 B7 B8 B9 Ca) fun r2=>(bif(r2&&(decide (Bt>=Ca)))then(oB (qoa B7 B8 B9 Ca Aa Ab Ac) fun r3=>(some r3))else(some false)))else(some false)))
def ql2:=hull qtd
theorem qbni:ql2=qtd:=qa _
def qls {R:Type}:EntF Tryz.prog R:=entB (nt:=24) (dec:=decB) (enc:=AV.bool) Tryz.func122 [.t 4] hdeB (.s .z (.s (.r [(1,.c qne.b),(4,.c qne.b),(7,.g 5),(17,.c qwu.b)] []) .z)) S20_ qtd (fun f v=>f (v.b 1 0) (v.i 1 1) (v.i 1 2) (v.i 1 3) (v.b 5 0) (v.i 5 1) (v.i 5 2) (v.i 5 3))
def qxz (Aa:Bool)(Ab Ac Bt:Int)(B7:Bool)(B8 B9 Ca:Int):Option Bool:=
 (bif(decide (Bt>Ca))then(oB (ql2 Aa Ab Ac Bt B7 B8 B9 Ca) fun r1=>(some r1))else(some false))
def qw8:=hull qxz
theorem qbr1:qw8=qxz:=qa _
def q4b {R:Type}:EntF Tryz.prog R:=entB (nt:=15) (dec:=decB) (enc:=AV.bool) Tryz.func141 [.t 4] hdeB (.s .z (.s (.r [(8,.c qls.b)] []) .z)) S20_ qxz (fun f v=>f (v.b 1 0) (v.i 1 1) (v.i 1 2) (v.i 1 3) (v.b 5 0) (v.i 5 1) (v.i 5 2) (v.i 5 3))
def S21_:Shp:=⟨[(0,.st (lk qb)),(1,.st (lk qb))],[]⟩
def qte (Aa:Bool)(Ab Ac Bt Bu:Int)(Bv Bw:LU)(Bx:Int)(B7:Bool)(B8 B9 Ca Cb:Int)(Cc Cd:LU)(Ce:Int):Option Bool:=
 (bif(Bu==1)then(some true)else(bif(Bu==2)then(some (Cb==3))else(some false)))
def q4c:=hull qte
theorem qbnj:q4c=qte:=qa _
def qbpf {R:Type}:EntF Tryz.prog R:=entB (nt:=18) (dec:=decB) (enc:=AV.bool) Tryz.func142 [.t 4] hdeB (.z) S21_ qte (fun f v=>f (v.b 1 0) (v.i 1 1) (v.i 1 2) (v.i 1 3) (v.i 1 4) (v.s 1 5) (v.s 1 6) (v.i 1 7) (v.b 5 0) (v.i 5 1) (v.i 5 2) (v.i 5 3) (v.i 5 4) (v.s 5 5) (v.s 5 6) (v.i 5 7))
def S22_:Shp:=⟨[(0,.st (lk qb)),(1,.one (.ptr 0 0))],[.box true (lk qb)]⟩
def qbau {R:Type}(KK:AV->Mem->Option R):=(fun v3 Av Aw Ax Ay Az A0 A1 A2=>KK (.bool v3) (qe [(some (.box true (qo Av Aw Ax Ay Az A0 A1 A2)))]))
def qmo {R:Type}(Aa:Bool)(Ab Ac Bt Bu:Int)(Bv Bw:LU)(Bx:Int)(Av:Bool)(Aw Ax Ay Az:Int)(A0 A1:LU)(A2:Int)(kr:Bool->Bool->Int->Int->Int->Int->(List UInt8)->(List UInt8)->Int->Option R):Option R:=
 (oB (qw8 Av Aw Ax Ay Aa Ab Ac Bt) fun r1=>(bif r1 then(oB (q4c Aa Ab Ac Bt Bu Bv Bw Bx Av Aw Ax Ay Az A0 A1 A2) fun r2=>(kr (!r2) Av Aw Ax Ay Az A0 A1 A2))else(kr false Av Aw Ax Ay Az A0 A1 A2)))
def qug {R:Type}:=hull (qmo (R:=R))
theorem qbav {R:Type}:qug (R:=R)=qmo:=qa _
def qbc2 {R:Type}:RefB Tryz.prog R:=refB (nt:=15) (nb:=1) Tryz.func140 [.t 3] (fun KK=>.s .z (.s (.r [(4,.c q4b.b),(8,.c qbpf.b)] []) (.v [.sel [3] [0]]))) S22_ (qmo (R:=R)) (fun f v KK=>f (v.b 1 0) (v.i 1 1) (v.i 1 2) (v.i 1 3) (v.i 1 4) (v.s 1 5) (v.s 1 6) (v.i 1 7) (v.b 3 0) (v.i 3 1) (v.i 3 2) (v.i 3 3) (v.i 3 4) (v.s 3 5) (v.s 3 6) (v.i 3 7) (qbau KK)) (by kernel_rfl) (by kernel_rfl) (fun _=>(by kernel_rfl)) rfl
def S23_:Shp:=⟨[(0,.one (.l (.sl 8))),(1,.one (.fn 140 [(0,0)])),(7,.one (.l (.i .i64))),(8,.one (.l (.i .i64)))],[.box true (lk qb)]⟩
def S24_:Shp:=⟨[(0,.one (.l (.sl 8))),(1,.one (.fn 140 [(0,0)]))],[.box true (lk qb)]⟩
def qdf {R:Type}(K:Ex->Env->Mem->Option R):=(fun z_b0_0 z_b0_1 z_b0_2 z_b0_3 z_b0_4 z_b0_5 z_b0_6 z_b0_7=>K (.exit 0) (qi []) (qe [(some (.box true (qo z_b0_0 z_b0_1 z_b0_2 z_b0_3 z_b0_4 z_b0_5 z_b0_6 z_b0_7)))]))
def qdh {R:Type}(KK:AV->Mem->Option R):=(fun v4 Av Aw Ax Ay Az A0 A1 A2=>KK (.int .i64 v4) (qe [(some (.box true (qo Av Aw Ax Ay Az A0 A1 A2)))]))
def qx {R:Type}(v0:LA)(v7 v8:Int)(Av:Bool)(Aw Ax Ay Az:Int)(A0 A1:LU)(A2:Int)(next:Int->Bool->Int->Int->Int->Int->(List UInt8)->(List UInt8)->Int->Option R)(kx0:Bool->Int->Int->Int->Int->(List UInt8)->(List UInt8)->Int->Option R)(kr:Int->Bool->Int->Int->Int->Int->(List UInt8)->(List UInt8)->Int->Option R):Option R:=
 (bif(decide (v8<v7))then(oB (ixB v0 v8) fun y1=>(bif fitC qb y1.cells then(qug (gB y1.cells 0) (gI y1.cells 1) (gI y1.cells 2) (gI y1.cells 3) (gI y1.cells 4) (gS y1.cells 5) (gS y1.cells 6) (gI y1.cells 7) Av Aw Ax Ay Az A0 A1 A2 fun v3q2 b0_0q3 b0_1q4 b0_2q5 b0_3q6 b0_4q7 b0_5q8 b0_6q9 b0_7q10=>(bif v3q2 then(kr v8 b0_0q3 b0_1q4 b0_2q5 b0_3q6 b0_4q7 b0_5q8 b0_6q9 b0_7q10)else(next (i64.wrap (v8+1)) b0_0q3 b0_1q4 b0_2q5 b0_3q6 b0_4q7 b0_5q8 b0_6q9 b0_7q10)))else none))else(kx0 Av Aw Ax Ay Az A0 A1 A2))
def qy {R:Type}(v0:LA)(v7:Int)(kx0:Bool->Int->Int->Int->Int->(List UInt8)->(List UInt8)->Int->Option R)(kr:Int->Bool->Int->Int->Int->Int->(List UInt8)->(List UInt8)->Int->Option R):Nat->Int->Bool->Int->Int->Int->Int->(List UInt8)->(List UInt8)->Int->Option R
 |0=>(fun _ _ _ _ _ _ _ _ _=>none)
 |n+1=>(fun v8 Av Aw Ax Ay Az A0 A1 A2=>qx v0 v7 v8 Av Aw Ax Ay Az A0 A1 A2 (qy v0 v7 kx0 kr n) kx0 kr)
def qdw {R:Type}:=hull (qy (R:=R))
theorem qhr {R:Type}:qdw (R:=R)=qy:=qa _
def qhx {R:Type}(KK:AV->Mem->Option R):SubB Tryz.prog (TIof Tryz.prog) 19 1 (qdt [.t 4] KK):=lpB Tryz.f125 37 (.s .z (.s (.s .z (.v [.sel [] [0]])) (.s (.b (.s .z (.s (.r [(3,.p (.etac 14 qb)),(5,.s (.sel [0,1,5,7,8,11,15] [0])),(5,.r qbc2)] []) (.s (.s .z (.v [.sel [4] [0]])) .z)))) (.v [.sel [0,1,7,8] [0]])))) S23_ (qy (R:=R)) (fun f v K n=>f (v.l 0 0) (v.i 28 0) (qdf K) (qdh KK) n) (fun v f K=>qx (v.l 0 0) (v.i 28 0) (v.i 32 0) (v.b 3 0) (v.i 3 1) (v.i 3 2) (v.i 3 3) (v.i 3 4) (v.s 3 5) (v.s 3 6) (v.i 3 7) f (qdf K) (qdh KK)) (fun f v=>f (v.i 32 0) (v.b 3 0) (v.i 3 1) (v.i 3 2) (v.i 3 3) (v.i 3 4) (v.s 3 5) (v.s 3 6) (v.i 3 7)) (fun k v=>(fun z0 z1 z2 z3 z4 z5 z6 z7 z8=>k (((((((((v.ui 32 0 z0).ub 3 0 z1).ui 3 1 z2).ui 3 2 z3).ui 3 3 z4).ui 3 4 z5).us 3 5 z6).us 3 6 z7).ui 3 7 z8)))
def qi6 {R:Type}(KK:AV->Mem->Option R):=(fun v4 Av Aw Ax Ay Az A0 A1 A2=>KK (.int .i64 v4) (qe [(some (.box true (qo Av Aw Ax Ay Az A0 A1 A2)))]))
def qbs {R:Type}(v0:LA)(Av:Bool)(Aw Ax Ay Az:Int)(A0 A1:LU)(A2:Int)(kr:Int->Bool->Int->Int->Int->Int->(List UInt8)->(List UInt8)->Int->Option R):Option R:=
 (qdw v0 (v0.length:Int) (fun b0_0q1 b0_1q2 b0_2q3 b0_3q4 b0_4q5 b0_5q6 b0_6q7 b0_7q8=>(kr (-1) b0_0q1 b0_1q2 b0_2q3 b0_3q4 b0_4q5 b0_5q6 b0_6q7 b0_7q8)) kr FU 0 Av Aw Ax Ay Az A0 A1 A2)
def qch {R:Type}:=hull (qbs (R:=R))
theorem qi7 {R:Type}:qch (R:=R)=qbs:=qa _
def qjo {R:Type}:RefB Tryz.prog R:=refB (nt:=19) (nb:=1) Tryz.func125 [.t 4] (fun KK=>.s .z (.s (.s .z (.b (.sub [.sel [0,1,7,8] [0]] (qhx KK) []))) (.s .z (.v [.sel [4] [0]])))) S24_ (qbs (R:=R)) (fun f v KK=>f (v.l 0 0) (v.b 3 0) (v.i 3 1) (v.i 3 2) (v.i 3 3) (v.i 3 4) (v.s 3 5) (v.s 3 6) (v.i 3 7) (qi6 KK)) (by kernel_rfl) (by kernel_rfl) (fun _=>(by kernel_rfl)) rfl
def qhs {R:Type}(KK:AV->Mem->Option R):=(fun v4 Av Aw Ax Ay Az A0 A1 A2=>KK (.bool v4) (qe [(some (.box true (qo Av Aw Ax Ay Az A0 A1 A2)))]))
def qbo {R:Type}(v0:LA)(Av:Bool)(Aw Ax Ay Az:Int)(A0 A1:LU)(A2:Int)(kr:Bool->Bool->Int->Int->Int->Int->(List UInt8)->(List UInt8)->Int->Option R):Option R:=
 (qch v0 Av Aw Ax Ay Az A0 A1 A2 fun v4q1 b0_0q2 b0_1q3 b0_2q4 b0_3q5 b0_4q6 b0_5q7 b0_6q8 b0_7q9=>(kr (decide (v4q1>=0)) b0_0q2 b0_1q3 b0_2q4 b0_3q5 b0_4q6 b0_5q7 b0_6q8 b0_7q9))
def qdx {R:Type}:=hull (qbo (R:=R))
theorem qht {R:Type}:qdx (R:=R)=qbo:=qa _
def qhy {R:Type}:RefB Tryz.prog R:=refB (nt:=9) (nb:=1) Tryz.func65 [.t 4] (fun KK=>.s .z (.s (.r [(2,.s (.sel [5,6] [0])),(2,.r qjo)] []) (.v [.sel [4] [0]]))) S24_ (qbo (R:=R)) (fun f v KK=>f (v.l 0 0) (v.b 3 0) (v.i 3 1) (v.i 3 2) (v.i 3 3) (v.i 3 4) (v.s 3 5) (v.s 3 6) (v.i 3 7) (qhs KK)) (by kernel_rfl) (by kernel_rfl) (fun _=>(by kernel_rfl)) rfl
def S25_:Shp:=⟨[(0,.one (.l (.sl 8))),(1,.st (lk qb))],[]⟩
def qob (v0:LA)(B7:Bool)(B8 B9 Ca Cb:Int)(Cc Cd:LU)(Ce:Int):Option Bool:=
 (qdx v0 B7 B8 B9 Ca Cb Cc Cd Ce fun v4q1 b0_0q2 b0_1q3 b0_2q4 b0_3q5 b0_4q6 b0_5q7 b0_6q8 b0_7q9=>(some v4q1))
def qni:=hull qob
theorem qbf5:qni=qob:=qa _
def q3d {R:Type}:EntF Tryz.prog R:=entB (nt:=8) (dec:=decB) (enc:=AV.bool) Tryz.func92 [.t 4] hdeB (.s .z (.s (.r [(2,.s (.sel [5,6] [0])),(2,.r qhy)] []) .z)) S25_ qob (fun f v=>f (v.l 0 0) (v.b 5 0) (v.i 5 1) (v.i 5 2) (v.i 5 3) (v.i 5 4) (v.s 5 5) (v.s 5 6) (v.i 5 7))
def qbc3 {R:Type}(KK:AV->Mem->Option R):=(fun v3 Av Aw Ax Ay=>KK (.bool v3) (qe [(some (.box true (qj Av Aw Ax Ay)))]))
def qno {R:Type}(Aa:Bool)(Ab Ac Bt Bu:Int)(Bv Bw:LU)(Bx:Int)(Av:Bool)(Aw Ax Ay:Int)(kr:Bool->Bool->Int->Int->Int->Option R):Option R:=
 (oB (qw8 Aa Ab Ac Bt Av Aw Ax Ay) fun r1=>(kr r1 Av Aw Ax Ay))
def qwv {R:Type}:=hull (qno (R:=R))
theorem qbc4 {R:Type}:qwv (R:=R)=qno:=qa _
def qbf6 {R:Type}:RefB Tryz.prog R:=refB (nt:=8) (nb:=1) Tryz.func143 [.t 3] (fun KK=>.s .z (.s (.r [(3,.c q4b.b)] []) (.v [.sel [3] [0]]))) S13_ (qno (R:=R)) (fun f v KK=>f (v.b 1 0) (v.i 1 1) (v.i 1 2) (v.i 1 3) (v.i 1 4) (v.s 1 5) (v.s 1 6) (v.i 1 7) (v.b 3 0) (v.i 3 1) (v.i 3 2) (v.i 3 3) (qbc3 KK)) (by kernel_rfl) (by kernel_rfl) (fun _=>(by kernel_rfl)) rfl
def S26_:Shp:=⟨[(0,.one (.l (.sl 8))),(1,.one (.fn 143 [(0,0)])),(7,.one (.l (.i .i64))),(8,.one (.l (.i .i64)))],[.box true (lk qk)]⟩
def S27_:Shp:=⟨[(0,.one (.l (.sl 8))),(1,.one (.fn 143 [(0,0)]))],[.box true (lk qk)]⟩
def qdi {R:Type}(K:Ex->Env->Mem->Option R):=(fun z_b0_0 z_b0_1 z_b0_2 z_b0_3=>K (.exit 0) (qi []) (qe [(some (.box true (qj z_b0_0 z_b0_1 z_b0_2 z_b0_3)))]))
def qdq {R:Type}(KK:AV->Mem->Option R):=(fun v4 Av Aw Ax Ay=>KK (.int .i64 v4) (qe [(some (.box true (qj Av Aw Ax Ay)))]))
def q9 {R:Type}(v0:LA)(v7 v8:Int)(Av:Bool)(Aw Ax Ay:Int)(next:Int->Bool->Int->Int->Int->Option R)(kx0:Bool->Int->Int->Int->Option R)(kr:Int->Bool->Int->Int->Int->Option R):Option R:=
 (bif(decide (v8<v7))then(oB (ixB v0 v8) fun y1=>(bif fitC qb y1.cells then(qwv (gB y1.cells 0) (gI y1.cells 1) (gI y1.cells 2) (gI y1.cells 3) (gI y1.cells 4) (gS y1.cells 5) (gS y1.cells 6) (gI y1.cells 7) Av Aw Ax Ay fun v3q2 b0_0q3 b0_1q4 b0_2q5 b0_3q6=>(bif v3q2 then(kr v8 b0_0q3 b0_1q4 b0_2q5 b0_3q6)else(next (i64.wrap (v8+1)) b0_0q3 b0_1q4 b0_2q5 b0_3q6)))else none))else(kx0 Av Aw Ax Ay))
def qba {R:Type}(v0:LA)(v7:Int)(kx0:Bool->Int->Int->Int->Option R)(kr:Int->Bool->Int->Int->Int->Option R):Nat->Int->Bool->Int->Int->Int->Option R
 |0=>(fun _ _ _ _ _=>none)
 |n+1=>(fun v8 Av Aw Ax Ay=>q9 v0 v7 v8 Av Aw Ax Ay (qba v0 v7 kx0 kr n) kx0 kr)
def qd6 {R:Type}:=hull (qba (R:=R))
theorem qhz {R:Type}:qd6 (R:=R)=qba:=qa _
def qh6 {R:Type}(KK:AV->Mem->Option R):SubB Tryz.prog (TIof Tryz.prog) 19 1 (qdt [.t 4] KK):=lpB Tryz.f125 37 (.s .z (.s (.s .z (.v [.sel [] [0]])) (.s (.b (.s .z (.s (.r [(3,.p (.etac 14 qb)),(5,.s (.sel [0,1,5,7,8,11,15] [0])),(5,.r qbf6)] []) (.s (.s .z (.v [.sel [4] [0]])) .z)))) (.v [.sel [0,1,7,8] [0]])))) S26_ (qba (R:=R)) (fun f v K n=>f (v.l 0 0) (v.i 28 0) (qdi K) (qdq KK) n) (fun v f K=>q9 (v.l 0 0) (v.i 28 0) (v.i 32 0) (v.b 3 0) (v.i 3 1) (v.i 3 2) (v.i 3 3) f (qdi K) (qdq KK)) (fun f v=>f (v.i 32 0) (v.b 3 0) (v.i 3 1) (v.i 3 2) (v.i 3 3)) (fun k v=>(fun z0 z1 z2 z3 z4=>k (((((v.ui 32 0 z0).ub 3 0 z1).ui 3 1 z2).ui 3 2 z3).ui 3 3 z4)))
def qjp {R:Type}(KK:AV->Mem->Option R):=(fun v4 Av Aw Ax Ay=>KK (.int .i64 v4) (qe [(some (.box true (qj Av Aw Ax Ay)))]))
def qbx {R:Type}(v0:LA)(Av:Bool)(Aw Ax Ay:Int)(kr:Int->Bool->Int->Int->Int->Option R):Option R:=
 (qd6 v0 (v0.length:Int) (fun b0_0q1 b0_1q2 b0_2q3 b0_3q4=>(kr (-1) b0_0q1 b0_1q2 b0_2q3 b0_3q4)) kr FU 0 Av Aw Ax Ay)
def qcs {R:Type}:=hull (qbx (R:=R))
theorem qjq {R:Type}:qcs (R:=R)=qbx:=qa _
def qj0 {R:Type}:RefB Tryz.prog R:=refB (nt:=19) (nb:=1) Tryz.func125 [.t 4] (fun KK=>.s .z (.s (.s .z (.b (.sub [.sel [0,1,7,8] [0]] (qh6 KK) []))) (.s .z (.v [.sel [4] [0]])))) S27_ (qbx (R:=R)) (fun f v KK=>f (v.l 0 0) (v.b 3 0) (v.i 3 1) (v.i 3 2) (v.i 3 3) (qjp KK)) (by kernel_rfl) (by kernel_rfl) (fun _=>(by kernel_rfl)) rfl
def qh0 {R:Type}(KK:AV->Mem->Option R):=(fun v4 Av Aw Ax Ay=>KK (.bool v4) (qe [(some (.box true (qj Av Aw Ax Ay)))]))
def qbq {R:Type}(v0:LA)(Av:Bool)(Aw Ax Ay:Int)(kr:Bool->Bool->Int->Int->Int->Option R):Option R:=
 (qcs v0 Av Aw Ax Ay fun v4q1 b0_0q2 b0_1q3 b0_2q4 b0_3q5=>(kr (decide (v4q1>=0)) b0_0q2 b0_1q3 b0_2q4 b0_3q5))
def qd7 {R:Type}:=hull (qbq (R:=R))
theorem qh1 {R:Type}:qd7 (R:=R)=qbq:=qa _
def qh7 {R:Type}:RefB Tryz.prog R:=refB (nt:=9) (nb:=1) Tryz.func65 [.t 4] (fun KK=>.s .z (.s (.r [(2,.s (.sel [5,6] [0])),(2,.r qj0)] []) (.v [.sel [4] [0]]))) S27_ (qbq (R:=R)) (fun f v KK=>f (v.l 0 0) (v.b 3 0) (v.i 3 1) (v.i 3 2) (v.i 3 3) (qh0 KK)) (by kernel_rfl) (by kernel_rfl) (fun _=>(by kernel_rfl)) rfl
def qpm (v0:LA)(B7:Bool)(B8 B9 Ca:Int):Option Bool:=
 (qd7 v0 B7 B8 B9 Ca fun v4q1 b0_0q2 b0_1q3 b0_2q4 b0_3q5=>(some v4q1))
def qtf:=hull qpm
theorem qbhr:qtf=qpm:=qa _
def q4r {R:Type}:EntF Tryz.prog R:=entB (nt:=8) (dec:=decB) (enc:=AV.bool) Tryz.func93 [.t 4] hdeB (.s .z (.s (.r [(2,.s (.sel [5,6] [0])),(2,.r qh7)] []) .z)) S16_ qpm (fun f v=>f (v.l 0 0) (v.b 5 0) (v.i 5 1) (v.i 5 2) (v.i 5 3))
def S28_:Shp:=⟨[(0,.one (.l (.i .u64))),(1,.one (.l (.i .u64)))],[]⟩
def qx0 (v0 v1:Int):Option Int:=
 (bif(decide (v0<v1))then(some (-1))else(bif(decide (v0>v1))then(some 1)else(some 0)))
def q9s:=hull qx0
theorem qbr2:q9s=qx0:=qa _
def qbft {R:Type}:EntF Tryz.prog R:=entB (nt:=13) (dec:=(decI .i64)) (enc:=(AV.int .i64)) Tryz.func184 [.t 4] hdeI (.z) S28_ qx0 (fun f v=>f (v.i 0 0) (v.i 4 0))
def S29_:Shp:=⟨[(0,.st (lk qfz)),(1,.st (lk qfz))],[]⟩
def qvs (Aa:Bool)(Ab Ac:Int)(B7:Bool)(B8 B9:Int):Option Int:=
 (bif((!((Aa==B7)&&true))&&B7)then(some (-1))else(bif(!((Aa==B7)&&true))then(some 1)else(bif(Ab != B8)then(oB (q9s Ab B8) fun r1=>(some r1))else(oB (q9s Ac B9) fun r2=>(some r2)))))
def quh:=hull qvs
theorem qbpg:quh=qvs:=qa _
def q1v {R:Type}:EntF Tryz.prog R:=entB (nt:=37) (dec:=(decI .i64)) (enc:=(AV.int .i64)) Tryz.func166 [.t 4] hdeI (.s .z (.s (.b (.s (.r [(6,.g 2)] []) (.s .z (.s .z (.s .z (.s .z (.s (.s (.r [(4,.c qbft.b)] []) .z) .z))))))) (.s (.r [(4,.c qbft.b)] []) .z))) S29_ qvs (fun f v=>f (v.b 1 0) (v.i 1 1) (v.i 1 2) (v.b 5 0) (v.i 5 1) (v.i 5 2))
def qqy (Aa:Bool)(Ab Ac Bt:Int)(B7:Bool)(B8 B9 Ca:Int):Option Int:=
 (oB (quh Aa Ab Ac B7 B8 B9) fun r1=>(bif(r1 != 0)then(some r1)else(bif(decide (Bt<Ca))then(some (-1))else(bif(decide (Bt>Ca))then(some 1)else(some 0)))))
def qvt:=hull qqy
theorem qbk9:qvt=qqy:=qa _
def q53 {R:Type}:EntF Tryz.prog R:=entB (nt:=26) (dec:=(decI .i64)) (enc:=(AV.int .i64)) Tryz.func110 [.t 4] hdeI (.s .z (.s (.s (.r [(4,.c q1v.b)] []) .z) .z)) S20_ qqy (fun f v=>f (v.b 1 0) (v.i 1 1) (v.i 1 2) (v.i 1 3) (v.b 5 0) (v.i 5 1) (v.i 5 2) (v.i 5 3))
def qbhs {R:Type}(KK:AV->Mem->Option R):=(fun v3 Av Aw Ax Ay Az A0 A1 A2=>KK (.bool v3) (qe [(some (.box true (qo Av Aw Ax Ay Az A0 A1 A2)))]))
def qpn {R:Type}(Aa:Bool)(Ab Ac Bt Bu:Int)(Bv Bw:LU)(Bx:Int)(Av:Bool)(Aw Ax Ay Az:Int)(A0 A1:LU)(A2:Int)(kr:Bool->Bool->Int->Int->Int->Int->(List UInt8)->(List UInt8)->Int->Option R):Option R:=
 (oB (qvt Aa Ab Ac Bt Av Aw Ax Ay) fun r1=>(kr (decide (r1>0)) Av Aw Ax Ay Az A0 A1 A2))
def qz4 {R:Type}:=hull (qpn (R:=R))
theorem qbht {R:Type}:qz4 (R:=R)=qpn:=qa _
def qbla {R:Type}:RefB Tryz.prog R:=refB (nt:=10) (nb:=1) Tryz.func144 [.t 3] (fun KK=>.s .z (.s (.r [(4,.c q53.b)] []) (.v [.sel [3] [0]]))) S22_ (qpn (R:=R)) (fun f v KK=>f (v.b 1 0) (v.i 1 1) (v.i 1 2) (v.i 1 3) (v.i 1 4) (v.s 1 5) (v.s 1 6) (v.i 1 7) (v.b 3 0) (v.i 3 1) (v.i 3 2) (v.i 3 3) (v.i 3 4) (v.s 3 5) (v.s 3 6) (v.i 3 7) (qbhs KK)) (by kernel_rfl) (by kernel_rfl) (fun _=>(by kernel_rfl)) rfl
def S30_:Shp:=⟨[(0,.one (.l (.sl 8))),(1,.one (.fn 144 [(0,0)])),(7,.one (.l (.i .i64))),(8,.one (.l (.i .i64)))],[.box true (lk qb)]⟩
def S31_:Shp:=⟨[(0,.one (.l (.sl 8))),(1,.one (.fn 144 [(0,0)]))],[.box true (lk qb)]⟩
def qdr {R:Type}(K:Ex->Env->Mem->Option R):=(fun z_b0_0 z_b0_1 z_b0_2 z_b0_3 z_b0_4 z_b0_5 z_b0_6 z_b0_7=>K (.exit 0) (qi []) (qe [(some (.box true (qo z_b0_0 z_b0_1 z_b0_2 z_b0_3 z_b0_4 z_b0_5 z_b0_6 z_b0_7)))]))
def qdy {R:Type}(KK:AV->Mem->Option R):=(fun v4 Av Aw Ax Ay Az A0 A1 A2=>KK (.int .i64 v4) (qe [(some (.box true (qo Av Aw Ax Ay Az A0 A1 A2)))]))
def qbb {R:Type}(v0:LA)(v7 v8:Int)(Av:Bool)(Aw Ax Ay Az:Int)(A0 A1:LU)(A2:Int)(next:Int->Bool->Int->Int->Int->Int->(List UInt8)->(List UInt8)->Int->Option R)(kx0:Bool->Int->Int->Int->Int->(List UInt8)->(List UInt8)->Int->Option R)(kr:Int->Bool->Int->Int->Int->Int->(List UInt8)->(List UInt8)->Int->Option R):Option R:=
 (bif(decide (v8<v7))then(oB (ixB v0 v8) fun y1=>(bif fitC qb y1.cells then(qz4 (gB y1.cells 0) (gI y1.cells 1) (gI y1.cells 2) (gI y1.cells 3) (gI y1.cells 4) (gS y1.cells 5) (gS y1.cells 6) (gI y1.cells 7) Av Aw Ax Ay Az A0 A1 A2 fun v3q2 b0_0q3 b0_1q4 b0_2q5 b0_3q6 b0_4q7 b0_5q8 b0_6q9 b0_7q10=>(bif v3q2 then(kr v8 b0_0q3 b0_1q4 b0_2q5 b0_3q6 b0_4q7 b0_5q8 b0_6q9 b0_7q10)else(next (i64.wrap (v8+1)) b0_0q3 b0_1q4 b0_2q5 b0_3q6 b0_4q7 b0_5q8 b0_6q9 b0_7q10)))else none))else(kx0 Av Aw Ax Ay Az A0 A1 A2))
def qbc {R:Type}(v0:LA)(v7:Int)(kx0:Bool->Int->Int->Int->Int->(List UInt8)->(List UInt8)->Int->Option R)(kr:Int->Bool->Int->Int->Int->Int->(List UInt8)->(List UInt8)->Int->Option R):Nat->Int->Bool->Int->Int->Int->Int->(List UInt8)->(List UInt8)->Int->Option R
 |0=>(fun _ _ _ _ _ _ _ _ _=>none)
 |n+1=>(fun v8 Av Aw Ax Ay Az A0 A1 A2=>qbb v0 v7 v8 Av Aw Ax Ay Az A0 A1 A2 (qbc v0 v7 kx0 kr n) kx0 kr)
def qei {R:Type}:=hull (qbc (R:=R))
theorem qi8 {R:Type}:qei (R:=R)=qbc:=qa _
def qjr {R:Type}(KK:AV->Mem->Option R):SubB Tryz.prog (TIof Tryz.prog) 19 1 (qdt [.t 4] KK):=lpB Tryz.f125 37 (.s .z (.s (.s .z (.v [.sel [] [0]])) (.s (.b (.s .z (.s (.r [(3,.p (.etac 14 qb)),(5,.s (.sel [0,1,5,7,8,11,15] [0])),(5,.r qbla)] []) (.s (.s .z (.v [.sel [4] [0]])) .z)))) (.v [.sel [0,1,7,8] [0]])))) S30_ (qbc (R:=R)) (fun f v K n=>f (v.l 0 0) (v.i 28 0) (qdr K) (qdy KK) n) (fun v f K=>qbb (v.l 0 0) (v.i 28 0) (v.i 32 0) (v.b 3 0) (v.i 3 1) (v.i 3 2) (v.i 3 3) (v.i 3 4) (v.s 3 5) (v.s 3 6) (v.i 3 7) f (qdr K) (qdy KK)) (fun f v=>f (v.i 32 0) (v.b 3 0) (v.i 3 1) (v.i 3 2) (v.i 3 3) (v.i 3 4) (v.s 3 5) (v.s 3 6) (v.i 3 7)) (fun k v=>(fun z0 z1 z2 z3 z4 z5 z6 z7 z8=>k (((((((((v.ui 32 0 z0).ub 3 0 z1).ui 3 1 z2).ui 3 2 z3).ui 3 3 z4).ui 3 4 z5).us 3 5 z6).us 3 6 z7).ui 3 7 z8)))
def qkc {R:Type}(KK:AV->Mem->Option R):=(fun v4 Av Aw Ax Ay Az A0 A1 A2=>KK (.int .i64 v4) (qe [(some (.box true (qo Av Aw Ax Ay Az A0 A1 A2)))]))
def qb2 {R:Type}(v0:LA)(Av:Bool)(Aw Ax Ay Az:Int)(A0 A1:LU)(A2:Int)(kr:Int->Bool->Int->Int->Int->Int->(List UInt8)->(List UInt8)->Int->Option R):Option R:=
 (qei v0 (v0.length:Int) (fun b0_0q1 b0_1q2 b0_2q3 b0_3q4 b0_4q5 b0_5q6 b0_6q7 b0_7q8=>(kr (-1) b0_0q1 b0_1q2 b0_2q3 b0_3q4 b0_4q5 b0_5q6 b0_6q7 b0_7q8)) kr FU 0 Av Aw Ax Ay Az A0 A1 A2)
def qcv {R:Type}:=hull (qb2 (R:=R))
theorem qkd {R:Type}:qcv (R:=R)=qb2:=qa _
def qks {R:Type}:RefB Tryz.prog R:=refB (nt:=19) (nb:=1) Tryz.func125 [.t 4] (fun KK=>.s .z (.s (.s .z (.b (.sub [.sel [0,1,7,8] [0]] (qjr KK) []))) (.s .z (.v [.sel [4] [0]])))) S31_ (qb2 (R:=R)) (fun f v KK=>f (v.l 0 0) (v.b 3 0) (v.i 3 1) (v.i 3 2) (v.i 3 3) (v.i 3 4) (v.s 3 5) (v.s 3 6) (v.i 3 7) (qkc KK)) (by kernel_rfl) (by kernel_rfl) (fun _=>(by kernel_rfl)) rfl
def qbu6 {R:Type}(vs:LA)(m:Mem)(K:AV->Mem->Option R):Option R:=q32 8 80 vs m K
theorem qbu7 {R:Type}:qo7 Tryz.prog 145 (qbu6 (R:=R)):=qbud (ρ:=q9f 145 177 178 0 3 4 22 33) tabOk (qbra follows "slices.Insert[[]ddi/api.Block,ddi/api.Block]" (by kernel_rfl) (by kernel_rfl) Tryz.func177 (by kernel_rfl) (by kernel_rfl) (by kernel_rfl) (by kernel_rfl) (by kernel_rfl) (by kernel_rfl) (by kernel_rfl) (by kernel_rfl) (by kernel_rfl) (by kernel_rfl) (by kernel_rfl) (by kernel_rfl) (by kernel_rfl) (by kernel_rfl) (by kernel_rfl) (by kernel_rfl) (by kernel_rfl)) (by kernel_rfl) (by kernel_rfl) (by decide) (by decide)
def S32_:Shp:=⟨[(0,.one (.l (.sl 8))),(3,.one (.ptr 0 0)),(5,.one (.l (.i .i64)))],[.box true (lk qb)]⟩
def qbf7 (v0:LA)(Av:Bool)(Aw Ax Ay Az:Int)(A0 A1:LU)(A2:Int)(K:Ex->Env->Mem->Option (List AV)):=(fun z_v5=>K .norm (qi [(0,(.sl 8 v0)),(3,(.ptr 0 0)),(5,(.int .i64 z_v5))]) (qe [(some (.box true (qo Av Aw Ax Ay Az A0 A1 A2)))]))
def qoc (v0:LA)(v5:Int)(Av:Bool)(Aw Ax Ay Az:Int)(A0 A1:LU)(A2:Int)(kn:Int->Option (List AV)):Option (List AV):=
 (bif(decide (v5<0))then(kn (v0.length:Int))else(kn v5))
def q54:=hull (qoc)
theorem qbf8:q54=qoc:=qa _
def qbhu:SubB Tryz.prog (TIof Tryz.prog) 19 0 (kret [.t 4] (decF true 8)):=jnB Tryz.f94 11 (.s .z (.s (.v [.sel [0,3,5] [0]]) (.v [.sel [0,3,5] [0]]))) S32_ (qoc) (fun f v K=>f (v.l 0 0) (v.i 20 0) (v.b 3 0) (v.i 3 1) (v.i 3 2) (v.i 3 3) (v.i 3 4) (v.s 3 5) (v.s 3 6) (v.i 3 7) (qbf7 (v.l 0 0) (v.b 3 0) (v.i 3 1) (v.i 3 2) (v.i 3 3) (v.i 3 4) (v.s 3 5) (v.s 3 6) (v.i 3 7) K))
def qtg (v0:LA)(B7:Bool)(B8 B9 Ca Cb:Int)(Cc Cd:LU)(Ce:Int):Option (List AV):=
 (qcv v0 B7 B8 B9 Ca Cb Cc Cd Ce fun v4q1 b0_0q2 b0_1q3 b0_2q4 b0_3q5 b0_4q6 b0_5q7 b0_6q8 b0_7q9=>(q54 v0 v4q1 b0_0q2 b0_1q3 b0_2q4 b0_3q5 b0_4q6 b0_5q7 b0_6q8 b0_7q9 (fun v5q10=>(oB (qw v0) fun r11=>(bif hd r11 r11.length then(bif hd ([(.agg [(.bool b0_0q2),(.int .u64 b0_1q3),(.int .u64 b0_2q4),(.int .i64 b0_3q5),(.int .i64 b0_4q6),(.str b0_5q7),(.str b0_6q8),(.int .i64 b0_7q9)])]:List AV) (([(.agg [(.bool b0_0q2),(.int .u64 b0_1q3),(.int .u64 b0_2q4),(.int .i64 b0_3q5),(.int .i64 b0_4q6),(.str b0_5q7),(.str b0_6q8),(.int .i64 b0_7q9)])]:List AV).length)then(oB (qql 80 r11 v5q10 ([(.agg [(.bool b0_0q2),(.int .u64 b0_1q3),(.int .u64 b0_2q4),(.int .i64 b0_3q5),(.int .i64 b0_4q6),(.str b0_5q7),(.str b0_6q8),(.int .i64 b0_7q9)])]:List AV)) fun r12=>(bif hd r12 r12.length then(some r12)else none))else none)else none)))))
def q4d:=hull qtg
theorem qbnk:q4d=qtg:=qa _
def qbph {R:Type}:EntF Tryz.prog R:=entB (nt:=19) (dec:=(decF true 8)) (enc:=(AV.fr true 8)) Tryz.func94 [.t 4] hdeF (.s .z (.s (.r [(2,.s (.sel [0,3,6,7] [0])),(2,.r qks)] []) (.s (.sub [.sel [0,3,5] [0]] qbhu []) (.s (.d3 [] [14,17] [(1,.c (eB qfl))] [(0,.r (rB qbu7))] []) .z)))) S25_ qtg (fun f v=>f (v.l 0 0) (v.b 5 0) (v.i 5 1) (v.i 5 2) (v.i 5 3) (v.i 5 4) (v.s 5 5) (v.s 5 6) (v.i 5 7))
def S33_:Shp:=⟨[(0,.one (.l (.sl 8))),(3,.one (.ptr 0 0))],[.box true (lk qb)]⟩
def qbaw:AV->Option ((List AV)×Int):=decN [(.one (.sl 8)),(.one (.i .i64))] fun z=>(aL (gC (tpL z) 0),aI (gC (tpL z) 1))
def qblb (v0:LA)(Av:Bool)(Aw Ax Ay Az:Int)(A0 A1:LU)(A2:Int)(K:Ex->Env->Mem->Option ((List AV)×Int)):=(fun z_v25=>K .norm (qi [(0,(.sl 8 v0)),(3,(.ptr 0 0)),(25,(.bool z_v25))]) (qe [(some (.box true (qo Av Aw Ax Ay Az A0 A1 A2)))]))
def qqz (v0:LA)(Av:Bool)(Aw Ax Ay Az:Int)(A0 A1:LU)(A2:Int)(kn:Bool->Option ((List AV)×Int)):Option ((List AV)×Int):=
 (oB (qni v0 Av Aw Ax Ay Az A0 A1 A2) fun r1=>(bif r1 then(kn true)else(oB (qtf v0 Av Aw Ax Ay) fun r2=>(kn r2))))
def qbax:=hull (qqz)
theorem qblc:qbax=qqz:=qa _
def qbnl:SubB Tryz.prog (TIof Tryz.prog) 32 0 (kret [.t 4,.t 5] qbaw):=jnB Tryz.f37 39 (.r [(2,.c q3d.b),(7,.c q4r.b)] [.sel [0,3,25] [0]]) S33_ (qqz) (fun f v K=>f (v.l 0 0) (v.b 3 0) (v.i 3 1) (v.i 3 2) (v.i 3 3) (v.i 3 4) (v.s 3 5) (v.s 3 6) (v.i 3 7) (qblb (v.l 0 0) (v.b 3 0) (v.i 3 1) (v.i 3 2) (v.i 3 3) (v.i 3 4) (v.s 3 5) (v.s 3 6) (v.i 3 7) K))
def qz5 (v0:LA)(B7:Bool)(B8 B9 Ca Cb:Int)(Cc Cd:LU)(Ce:Int):Option ((List AV)×Int):=
 (oB (que B7 B8 B9 Ca Cb Cc Cd Ce) fun r1=>(bif(r1 != 0)then(some (([]:List AV),r1))else(oB (quf v0 B7 B8 B9 Ca) fun r2=>(bif(decide (r2>=0))then(some (([]:List AV),12))else(qbax v0 B7 B8 B9 Ca Cb Cc Cd Ce (fun v25q3=>(bif v25q3 then(some (([]:List AV),24))else(bif(decide ((v0.length:Int)>=512))then(some (([]:List AV),9))else(oB (q4d v0 B7 B8 B9 Ca Cb Cc Cd Ce) fun r4=>(some (r4,0)))))))))))
def q46:=hull qz5
theorem qbu8:q46=qz5:=qa _
def qbhv {R:Type}:EntF Tryz.prog R:=entB (nt:=32) (dec:=qbaw) (enc:=(fun r=>.tup [.sl 8 r.1,.int .i64 r.2])) Tryz.func37 [.t 4,.t 5] (hdeN fun _=>rfl) (.s .z (.s (.s (.r [(1,.c qbas.b)] []) (.s .z (.s (.s .z (.v [.eta 4 (.one (.sl 8))])) .z))) (.s (.s (.r [(3,.c q1u.b)] []) (.s (.s .z (.v [.eta 4 (.one (.sl 8))])) .z)) (.s (.s (.sub [.sel [0,3] [0]] qbnl []) (.s (.s .z (.v [.eta 4 (.one (.sl 8))])) .z)) (.s (.s .z (.s (.s .z (.v [.eta 4 (.one (.sl 8))])) .z)) (.s (.r [(2,.k qbph.b)] []) .z)))))) S25_ qz5 (fun f v=>f (v.l 0 0) (v.b 5 0) (v.i 5 1) (v.i 5 2) (v.i 5 3) (v.i 5 4) (v.s 5 5) (v.s 5 6) (v.i 5 7))
def qbu9 {R:Type}(vs:LA)(m:Mem)(K:AV->Mem->Option R):Option R:=q31 8 vs m K
theorem qbva {R:Type}:qo7 Tryz.prog 146 (qbu9 (R:=R)):=qbuc (ρ:=q9e 146 0 3 4 22 33) tabOk (qbq9 follows "slices.Delete[[]ddi/api.Block,ddi/api.Block]" (by kernel_rfl) (by kernel_rfl) (by kernel_rfl) (by kernel_rfl) (by kernel_rfl) (by kernel_rfl) (by kernel_rfl) (by kernel_rfl) (by kernel_rfl) (by kernel_rfl) (by kernel_rfl) (by kernel_rfl) (by kernel_rfl) (by kernel_rfl)) (by kernel_rfl) (by decide)
def S34_:Shp:=⟨[(0,.one (.l (.sl 8))),(1,.one (.l (.i .i64)))],[]⟩
def qq0 (v0:LA)(v1:Int):Option (List AV):=
 (oB (qw v0) fun r1=>(bif hd r1 r1.length then(oB (qzt r1 v1 (i64.wrap (v1+1))) fun r2=>(bif hd r2 r2.length then(some r2)else none))else none))
def qvu:=hull qq0
theorem qbld:qvu=qq0:=qa _
def qbnm {R:Type}:EntF Tryz.prog R:=entB (nt:=11) (dec:=(decF true 8)) (enc:=(AV.fr true 8)) Tryz.func95 [.t 4] hdeF (.s .z (.s (.r [(1,.c (eB qfl)),(5,.r (rB qbva))] []) .z)) S34_ qq0 (fun f v=>f (v.l 0 0) (v.i 4 0))
def qble:AV->Option ((List AV)×Int):=decN [(.one (.sl 8)),(.one (.i .i64))] fun z=>(aL (gC (tpL z) 0),aI (gC (tpL z) 1))
def qth (v0:LA)(B7:Bool)(B8 B9 Ca:Int):Option ((List AV)×Int):=
 (oB (quf v0 B7 B8 B9 Ca) fun r1=>(bif(decide (r1<0))then(some (([]:List AV),11))else(oB (qtf v0 B7 B8 B9 Ca) fun r2=>(bif r2 then(some (([]:List AV),25))else(oB (qvu v0 r1) fun r3=>(some (r3,0)))))))
def q4e:=hull qth
theorem qbnn:q4e=qth:=qa _
def qbpi {R:Type}:EntF Tryz.prog R:=entB (nt:=18) (dec:=qble) (enc:=(fun r=>.tup [.sl 8 r.1,.int .i64 r.2])) Tryz.func38 [.t 4,.t 5] (hdeN fun _=>rfl) (.s .z (.s (.r [(2,.c q1u.b)] []) (.s (.s .z (.s (.s .z (.v [.eta 4 (.one (.sl 8))])) .z)) (.s (.s (.r [(2,.c q4r.b)] []) (.s (.s .z (.v [.eta 4 (.one (.sl 8))])) .z)) (.s (.r [(2,.k qbnm.b)] []) .z))))) S16_ qth (fun f v=>f (v.l 0 0) (v.b 5 0) (v.i 5 1) (v.i 5 2) (v.i 5 3))
def qc:List LT:=[.s,.b,(.i .u64),(.i .u64),(.i .i64)]
def S35_:Shp:=⟨[(0,.st (lk qb)),(1,.one (.ptr 1 0))],[.box true (lk qb),.box true (lk qfz),.box true (lk qb),.box true (lk qb),.box true (lk qb)]⟩
def qbhw {R:Type}(KK:AV->Mem->Option R):=(fun v3 Av Aw Ax Ay Az A0 A1 A2 Ad Ae Af Au Bc Bd Be Bf Bg Bh Bi Cf Cg Ch Ci Cj Ck Cl Cm Cn Co Cp Cq Cr Cs Ct Cu=>KK (.bool v3) (qe [(some (.box true (qo Av Aw Ax Ay Az A0 A1 A2))),(some (.box true (qje Ad Ae Af))),(some (.box true (qo Au Bc Bd Be Bf Bg Bh Bi))),(some (.box true (qo Cf Cg Ch Ci Cj Ck Cl Cm))),(some (.box true (qo Cn Co Cp Cq Cr Cs Ct Cu)))]))
def qpo {R:Type}(Aa:Bool)(Ab Ac Bt Bu:Int)(Bv Bw:LU)(Bx:Int)(Av:Bool)(Aw Ax Ay Az:Int)(A0 A1:LU)(A2:Int)(Ad:Bool)(Ae Af:Int)(Au:Bool)(Bc Bd Be Bf:Int)(Bg Bh:LU)(Bi:Int)(Cf:Bool)(Cg Ch Ci Cj:Int)(Ck Cl:LU)(Cm:Int)(Cn:Bool)(Co Cp Cq Cr:Int)(Cs Ct:LU)(Cu:Int)(kr:Bool->Bool->Int->Int->Int->Int->(List UInt8)->(List UInt8)->Int->Bool->Int->Int->Bool->Int->Int->Int->Int->(List UInt8)->(List UInt8)->Int->Bool->Int->Int->Int->Int->(List UInt8)->(List UInt8)->Int->Bool->Int->Int->Int->Int->(List UInt8)->(List UInt8)->Int->Option R):Option R:=
 (oB (qoa Aa Ab Ac Bt Ad Ae Af) fun r1=>(kr r1 Av Aw Ax Ay Az A0 A1 A2 Ad Ae Af Au Bc Bd Be Bf Bg Bh Bi Cf Cg Ch Ci Cj Ck Cl Cm Cn Co Cp Cq Cr Cs Ct Cu))
def q8i {R:Type}:=hull (qpo (R:=R))
theorem qbhx {R:Type}:q8i (R:=R)=qpo:=qa _
def qblf {R:Type}:RefB Tryz.prog R:=refB (nt:=8) (nb:=5) Tryz.func148 [.t 3] (fun KK=>.s .z (.s (.r [(3,.c qwu.b)] []) (.v [.sel [3] [0,1,2,3,4]]))) S35_ (qpo (R:=R)) (fun f v KK=>f (v.b 1 0) (v.i 1 1) (v.i 1 2) (v.i 1 3) (v.i 1 4) (v.s 1 5) (v.s 1 6) (v.i 1 7) (v.b 3 0) (v.i 3 1) (v.i 3 2) (v.i 3 3) (v.i 3 4) (v.s 3 5) (v.s 3 6) (v.i 3 7) (v.b 7 0) (v.i 7 1) (v.i 7 2) (v.b 11 0) (v.i 11 1) (v.i 11 2) (v.i 11 3) (v.i 11 4) (v.s 11 5) (v.s 11 6) (v.i 11 7) (v.b 15 0) (v.i 15 1) (v.i 15 2) (v.i 15 3) (v.i 15 4) (v.s 15 5) (v.s 15 6) (v.i 15 7) (v.b 19 0) (v.i 19 1) (v.i 19 2) (v.i 19 3) (v.i 19 4) (v.s 19 5) (v.s 19 6) (v.i 19 7) (qbhw KK)) (by kernel_rfl) (by kernel_rfl) (fun _=>(by kernel_rfl)) rfl
def S36_:Shp:=⟨[(1,.one (.fn 148 [(1,0)])),(4,.one (.ptr 2 0)),(6,.one (.ptr 3 0)),(7,.one (.l .b)),(9,.one (.ptr 4 0)),(10,.one (.l (.sl 8))),(11,.one (.l (.i .i64))),(12,.one (.l (.i .i64)))],[.box true (lk qb),.box true (lk qfz),.box true (lk qb),.box true (lk qb),.box true (lk qb)]⟩
def S37_:Shp:=⟨[(1,.one (.fn 148 [(1,0)])),(4,.one (.ptr 2 0)),(6,.one (.ptr 3 0)),(7,.one (.l .b)),(10,.one (.l (.sl 8))),(11,.one (.l (.i .i64))),(12,.one (.l (.i .i64)))],[.box true (lk qb),.box true (lk qfz),.box true (lk qb),.box true (lk qb)]⟩
def S38_:Shp:=⟨[(0,.one (.l (.sl 8))),(1,.one (.fn 148 [(1,0)]))],[.box true (lk qb),.box true (lk qfz)]⟩
def qst {R:Type}(v7:Bool)(v10:LA)(v11 v12:Int)(K:Ex->Env->Mem->Option R):=(fun z_v31 z_b0_0 z_b0_1 z_b0_2 z_b0_3 z_b0_4 z_b0_5 z_b0_6 z_b0_7 z_b1_0 z_b1_1 z_b1_2 z_b2_0 z_b2_1 z_b2_2 z_b2_3 z_b2_4 z_b2_5 z_b2_6 z_b2_7 z_b3_0 z_b3_1 z_b3_2 z_b3_3 z_b3_4 z_b3_5 z_b3_6 z_b3_7 z_b4_0 z_b4_1 z_b4_2 z_b4_3 z_b4_4 z_b4_5 z_b4_6 z_b4_7=>K .norm (qi [(1,(.func 148 [(.ptr 1 0)])),(4,(.ptr 2 0)),(6,(.ptr 3 0)),(7,(.bool v7)),(9,(.ptr 4 0)),(10,(.sl 8 v10)),(11,(.int .i64 v11)),(12,(.int .i64 v12)),(31,(.bool z_v31))]) (qe [(some (.box true (qo z_b0_0 z_b0_1 z_b0_2 z_b0_3 z_b0_4 z_b0_5 z_b0_6 z_b0_7))),(some (.box true (qje z_b1_0 z_b1_1 z_b1_2))),(some (.box true (qo z_b2_0 z_b2_1 z_b2_2 z_b2_3 z_b2_4 z_b2_5 z_b2_6 z_b2_7))),(some (.box true (qo z_b3_0 z_b3_1 z_b3_2 z_b3_3 z_b3_4 z_b3_5 z_b3_6 z_b3_7))),(some (.box true (qo z_b4_0 z_b4_1 z_b4_2 z_b4_3 z_b4_4 z_b4_5 z_b4_6 z_b4_7)))]))
def qdm {R:Type}(v7:Bool)(v10:LA)(v11 v12:Int)(Av:Bool)(Aw Ax Ay Az:Int)(A0 A1:LU)(A2:Int)(Ad:Bool)(Ae Af:Int)(Au:Bool)(Bc Bd Be Bf:Int)(Bg Bh:LU)(Bi:Int)(Cf:Bool)(Cg Ch Ci Cj:Int)(Ck Cl:LU)(Cm:Int)(Cn:Bool)(Co Cp Cq Cr:Int)(Cs Ct:LU)(Cu:Int)(kn:Bool->Bool->Int->Int->Int->Int->(List UInt8)->(List UInt8)->Int->Bool->Int->Int->Bool->Int->Int->Int->Int->(List UInt8)->(List UInt8)->Int->Bool->Int->Int->Int->Int->(List UInt8)->(List UInt8)->Int->Bool->Int->Int->Int->Int->(List UInt8)->(List UInt8)->Int->Option R):Option R:=
 (q8i Cn Co Cp Cq Cr Cs Ct Cu Av Aw Ax Ay Az A0 A1 A2 Ad Ae Af Au Bc Bd Be Bf Bg Bh Bi Cf Cg Ch Ci Cj Ck Cl Cm Cn Co Cp Cq Cr Cs Ct Cu fun v3q1 b0_0q2 b0_1q3 b0_2q4 b0_3q5 b0_4q6 b0_5q7 b0_6q8 b0_7q9 b1_0q10 b1_1q11 b1_2q12 b2_0q13 b2_1q14 b2_2q15 b2_3q16 b2_4q17 b2_5q18 b2_6q19 b2_7q20 b3_0q21 b3_1q22 b3_2q23 b3_3q24 b3_4q25 b3_5q26 b3_6q27 b3_7q28 b4_0q29 b4_1q30 b4_2q31 b4_3q32 b4_4q33 b4_5q34 b4_6q35 b4_7q36=>(bif v3q1 then(bif(!v7)then(kn true b0_0q2 b0_1q3 b0_2q4 b0_3q5 b0_4q6 b0_5q7 b0_6q8 b0_7q9 b1_0q10 b1_1q11 b1_2q12 b2_0q13 b2_1q14 b2_2q15 b2_3q16 b2_4q17 b2_5q18 b2_6q19 b2_7q20 b3_0q21 b3_1q22 b3_2q23 b3_3q24 b3_4q25 b3_5q26 b3_6q27 b3_7q28 b4_0q29 b4_1q30 b4_2q31 b4_3q32 b4_4q33 b4_5q34 b4_6q35 b4_7q36)else(kn (decide (b4_3q32>b3_3q24)) b0_0q2 b0_1q3 b0_2q4 b0_3q5 b0_4q6 b0_5q7 b0_6q8 b0_7q9 b1_0q10 b1_1q11 b1_2q12 b2_0q13 b2_1q14 b2_2q15 b2_3q16 b2_4q17 b2_5q18 b2_6q19 b2_7q20 b3_0q21 b3_1q22 b3_2q23 b3_3q24 b3_4q25 b3_5q26 b3_6q27 b3_7q28 b4_0q29 b4_1q30 b4_2q31 b4_3q32 b4_4q33 b4_5q34 b4_6q35 b4_7q36))else(kn false b0_0q2 b0_1q3 b0_2q4 b0_3q5 b0_4q6 b0_5q7 b0_6q8 b0_7q9 b1_0q10 b1_1q11 b1_2q12 b2_0q13 b2_1q14 b2_2q15 b2_3q16 b2_4q17 b2_5q18 b2_6q19 b2_7q20 b3_0q21 b3_1q22 b3_2q23 b3_3q24 b3_4q25 b3_5q26 b3_6q27 b3_7q28 b4_0q29 b4_1q30 b4_2q31 b4_3q32 b4_4q33 b4_5q34 b4_6q35 b4_7q36)))
def qlt {R:Type}:=hull (qdm (R:=R))
theorem qsu {R:Type}:qlt (R:=R)=qdm:=qa _
def qt6 {R:Type}(KK:AV->Mem->Option R):SubB Tryz.prog (TIof Tryz.prog) 36 2 (qdt [(.cell 4 true 8),.t 5] KK):=jnB Tryz.f147 10647 (.r [(2,.s (.sel [1,4,6,7,9,10,11,12,16,17] [0,1,2,3,4])),(2,.r qblf)] [.sel [1,4,6,7,9,10,11,12,31] [0,1,2,3,4]]) S36_ (qdm (R:=R)) (fun f v K=>f (v.b 28 0) (v.l 40 0) (v.i 44 0) (v.i 48 0) (v.b 3 0) (v.i 3 1) (v.i 3 2) (v.i 3 3) (v.i 3 4) (v.s 3 5) (v.s 3 6) (v.i 3 7) (v.b 7 0) (v.i 7 1) (v.i 7 2) (v.b 11 0) (v.i 11 1) (v.i 11 2) (v.i 11 3) (v.i 11 4) (v.s 11 5) (v.s 11 6) (v.i 11 7) (v.b 15 0) (v.i 15 1) (v.i 15 2) (v.i 15 3) (v.i 15 4) (v.s 15 5) (v.s 15 6) (v.i 15 7) (v.b 19 0) (v.i 19 1) (v.i 19 2) (v.i 19 3) (v.i 19 4) (v.s 19 5) (v.s 19 6) (v.i 19 7) (qst (v.b 28 0) (v.l 40 0) (v.i 44 0) (v.i 48 0) K))
def qjf {R:Type}(K:Ex->Env->Mem->Option R):=(fun z_v7 z_b0_0 z_b0_1 z_b0_2 z_b0_3 z_b0_4 z_b0_5 z_b0_6 z_b0_7 z_b1_0 z_b1_1 z_b1_2 z_b2_0 z_b2_1 z_b2_2 z_b2_3 z_b2_4 z_b2_5 z_b2_6 z_b2_7 z_b3_0 z_b3_1 z_b3_2 z_b3_3 z_b3_4 z_b3_5 z_b3_6 z_b3_7=>K (.exit 0) (qi [(4,(.ptr 2 0)),(6,(.ptr 3 0)),(7,(.bool z_v7))]) (qe [(some (.box true (qo z_b0_0 z_b0_1 z_b0_2 z_b0_3 z_b0_4 z_b0_5 z_b0_6 z_b0_7))),(some (.box true (qje z_b1_0 z_b1_1 z_b1_2))),(some (.box true (qo z_b2_0 z_b2_1 z_b2_2 z_b2_3 z_b2_4 z_b2_5 z_b2_6 z_b2_7))),(some (.box true (qo z_b3_0 z_b3_1 z_b3_2 z_b3_3 z_b3_4 z_b3_5 z_b3_6 z_b3_7)))]))
def qcj {R:Type}(v7:Bool)(v10:LA)(v11 v12:Int)(Av:Bool)(Aw Ax Ay Az:Int)(A0 A1:LU)(A2:Int)(Ad:Bool)(Ae Af:Int)(Au:Bool)(Bc Bd Be Bf:Int)(Bg Bh:LU)(Bi:Int)(Cf:Bool)(Cg Ch Ci Cj:Int)(Ck Cl:LU)(Cm:Int)(next:Bool->Int->Bool->Int->Int->Int->Int->(List UInt8)->(List UInt8)->Int->Bool->Int->Int->Bool->Int->Int->Int->Int->(List UInt8)->(List UInt8)->Int->Bool->Int->Int->Int->Int->(List UInt8)->(List UInt8)->Int->Option R)(kx0:Bool->Bool->Int->Int->Int->Int->(List UInt8)->(List UInt8)->Int->Bool->Int->Int->Bool->Int->Int->Int->Int->(List UInt8)->(List UInt8)->Int->Bool->Int->Int->Int->Int->(List UInt8)->(List UInt8)->Int->Option R):Option R:=
 (bif(decide (v12<v11))then(oB (ixB v10 v12) fun y1=>(bif fitC qb y1.cells then(qlt v7 v10 v11 v12 Av Aw Ax Ay Az A0 A1 A2 Ad Ae Af Au Bc Bd Be Bf Bg Bh Bi Cf Cg Ch Ci Cj Ck Cl Cm (gB y1.cells 0) (gI y1.cells 1) (gI y1.cells 2) (gI y1.cells 3) (gI y1.cells 4) (gS y1.cells 5) (gS y1.cells 6) (gI y1.cells 7) (fun v31q2 b0_0q3 b0_1q4 b0_2q5 b0_3q6 b0_4q7 b0_5q8 b0_6q9 b0_7q10 b1_0q11 b1_1q12 b1_2q13 b2_0q14 b2_1q15 b2_2q16 b2_3q17 b2_4q18 b2_5q19 b2_6q20 b2_7q21 b3_0q22 b3_1q23 b3_2q24 b3_3q25 b3_4q26 b3_5q27 b3_6q28 b3_7q29 b4_0q30 b4_1q31 b4_2q32 b4_3q33 b4_4q34 b4_5q35 b4_6q36 b4_7q37=>(bif v31q2 then(next true (i64.wrap (v12+1)) b0_0q3 b0_1q4 b0_2q5 b0_3q6 b0_4q7 b0_5q8 b0_6q9 b0_7q10 b1_0q11 b1_1q12 b1_2q13 b2_0q14 b2_1q15 b2_2q16 b2_3q17 b2_4q18 b2_5q19 b2_6q20 b2_7q21 b4_0q30 b4_1q31 b4_2q32 b4_3q33 b4_4q34 b4_5q35 b4_6q36 b4_7q37)else(next v7 (i64.wrap (v12+1)) b0_0q3 b0_1q4 b0_2q5 b0_3q6 b0_4q7 b0_5q8 b0_6q9 b0_7q10 b1_0q11 b1_1q12 b1_2q13 b2_0q14 b2_1q15 b2_2q16 b2_3q17 b2_4q18 b2_5q19 b2_6q20 b2_7q21 b3_0q22 b3_1q23 b3_2q24 b3_3q25 b3_4q26 b3_5q27 b3_6q28 b3_7q29))))else none))else(kx0 v7 Av Aw Ax Ay Az A0 A1 A2 Ad Ae Af Au Bc Bd Be Bf Bg Bh Bi Cf Cg Ch Ci Cj Ck Cl Cm))
def qb9 {R:Type}(v10:LA)(v11:Int)(kx0:Bool->Bool->Int->Int->Int->Int->(List UInt8)->(List UInt8)->Int->Bool->Int->Int->Bool->Int->Int->Int->Int->(List UInt8)->(List UInt8)->Int->Bool->Int->Int->Int->Int->(List UInt8)->(List UInt8)->Int->Option R):Nat->Bool->Int->Bool->Int->Int->Int->Int->(List UInt8)->(List UInt8)->Int->Bool->Int->Int->Bool->Int->Int->Int->Int->(List UInt8)->(List UInt8)->Int->Bool->Int->Int->Int->Int->(List UInt8)->(List UInt8)->Int->Option R
 |0=>(fun _ _ _ _ _ _ _ _ _ _ _ _ _ _ _ _ _ _ _ _ _ _ _ _ _ _ _ _ _=>none)
 |n+1=>(fun v7 v12 Av Aw Ax Ay Az A0 A1 A2 Ad Ae Af Au Bc Bd Be Bf Bg Bh Bi Cf Cg Ch Ci Cj Ck Cl Cm=>qcj v7 v10 v11 v12 Av Aw Ax Ay Az A0 A1 A2 Ad Ae Af Au Bc Bd Be Bf Bg Bh Bi Cf Cg Ch Ci Cj Ck Cl Cm (qb9 v10 v11 kx0 n) kx0)
def qlu {R:Type}:=hull (qb9 (R:=R))
theorem qsv {R:Type}:qlu (R:=R)=qb9:=qa _
def qt7 {R:Type}(KK:AV->Mem->Option R):SubB Tryz.prog (TIof Tryz.prog) 36 2 (qdt [(.cell 4 true 8),.t 5] KK):=lpB Tryz.f147 151 (.s .z (.s (.s .z (.v [.sel [4,6,7] [0,1,2,3]])) (.s (.b (.s (.r [(0,.p (.etac 14 qb))] []) (.s (.sub [.sel [1,4,6,7,9,10,11,12] [0,1,2,3,4]] (qt6 KK) []) .z))) (.v [.sel [1,4,6,7,10,11,12] [0,1,2,3]])))) S37_ (qb9 (R:=R)) (fun f v K n=>f (v.l 40 0) (v.i 44 0) (qjf K) n) (fun v f K=>qcj (v.b 28 0) (v.l 40 0) (v.i 44 0) (v.i 48 0) (v.b 3 0) (v.i 3 1) (v.i 3 2) (v.i 3 3) (v.i 3 4) (v.s 3 5) (v.s 3 6) (v.i 3 7) (v.b 7 0) (v.i 7 1) (v.i 7 2) (v.b 11 0) (v.i 11 1) (v.i 11 2) (v.i 11 3) (v.i 11 4) (v.s 11 5) (v.s 11 6) (v.i 11 7) (v.b 15 0) (v.i 15 1) (v.i 15 2) (v.i 15 3) (v.i 15 4) (v.s 15 5) (v.s 15 6) (v.i 15 7) f (qjf K)) (fun f v=>f (v.b 28 0) (v.i 48 0) (v.b 3 0) (v.i 3 1) (v.i 3 2) (v.i 3 3) (v.i 3 4) (v.s 3 5) (v.s 3 6) (v.i 3 7) (v.b 7 0) (v.i 7 1) (v.i 7 2) (v.b 11 0) (v.i 11 1) (v.i 11 2) (v.i 11 3) (v.i 11 4) (v.s 11 5) (v.s 11 6) (v.i 11 7) (v.b 15 0) (v.i 15 1) (v.i 15 2) (v.i 15 3) (v.i 15 4) (v.s 15 5) (v.s 15 6) (v.i 15 7)) (fun k v=>(fun z0 z1 z2 z3 z4 z5 z6 z7 z8 z9 z10 z11 z12 z13 z14 z15 z16 z17 z18 z19 z20 z21 z22 z23 z24 z25 z26 z27 z28=>k (((((((((((((((((((((((((((((v.ub 28 0 z0).ui 48 0 z1).ub 3 0 z2).ui 3 1 z3).ui 3 2 z4).ui 3 3 z5).ui 3 4 z6).us 3 5 z7).us 3 6 z8).ui 3 7 z9).ub 7 0 z10).ui 7 1 z11).ui 7 2 z12).ub 11 0 z13).ui 11 1 z14).ui 11 2 z15).ui 11 3 z16).ui 11 4 z17).us 11 5 z18).us 11 6 z19).ui 11 7 z20).ub 15 0 z21).ui 15 1 z22).ui 15 2 z23).ui 15 3 z24).ui 15 4 z25).us 15 5 z26).us 15 6 z27).ui 15 7 z28)))
def qww {R:Type}(KK:AV->Mem->Option R):=(fun v5 Av Aw Ax Ay Az A0 A1 A2 Ad Ae Af Au Bc Bd Be Bf Bg Bh Bi=>KK (.tup [(.agg [(.bool Au),(.int .u64 Bc),(.int .u64 Bd),(.int .i64 Be),(.int .i64 Bf),(.str Bg),(.str Bh),(.int .i64 Bi)]),(.bool v5)]) (qe [(some (.box true (qo Av Aw Ax Ay Az A0 A1 A2))),(some (.box true (qje Ad Ae Af))),(some (.box true (qo Au Bc Bd Be Bf Bg Bh Bi)))]))
def qeo {R:Type}(v0:LA)(Av:Bool)(Aw Ax Ay Az:Int)(A0 A1:LU)(A2:Int)(Ad:Bool)(Ae Af:Int)(kr:Bool->Bool->Int->Int->Int->Int->(List UInt8)->(List UInt8)->Int->Bool->Int->Int->Bool->Int->Int->Int->Int->(List UInt8)->(List UInt8)->Int->Option R):Option R:=
 (qlu v0 (v0.length:Int) (fun v7q1 b0_0q2 b0_1q3 b0_2q4 b0_3q5 b0_4q6 b0_5q7 b0_6q8 b0_7q9 b1_0q10 b1_1q11 b1_2q12 b2_0q13 b2_1q14 b2_2q15 b2_3q16 b2_4q17 b2_5q18 b2_6q19 b2_7q20 b3_0q21 b3_1q22 b3_2q23 b3_3q24 b3_4q25 b3_5q26 b3_6q27 b3_7q28=>(kr v7q1 b0_0q2 b0_1q3 b0_2q4 b0_3q5 b0_4q6 b0_5q7 b0_6q8 b0_7q9 b1_0q10 b1_1q11 b1_2q12 b3_0q21 b3_1q22 b3_2q23 b3_3q24 b3_4q25 b3_5q26 b3_6q27 b3_7q28)) FU false 0 Av Aw Ax Ay Az A0 A1 A2 Ad Ae Af false 0 0 0 0 ([]:List UInt8) ([]:List UInt8) 0 false 0 0 0 0 ([]:List UInt8) ([]:List UInt8) 0)
def qn2 {R:Type}:=hull (qeo (R:=R))
theorem qwx {R:Type}:qn2 (R:=R)=qeo:=qa _
def qw9 {R:Type}:RefB Tryz.prog R:=refB (nt:=36) (nb:=2) Tryz.func147 [(.cell 4 true 8),.t 5] (fun KK=>.s .z (.s .z (.s .z (.s (.s .z (.b (.sub [.sel [1,4,6,7,10,11,12] [0,1,2,3]] (qt7 KK) []))) (.s .z (.v [.sel [4,5] [0,1,2]])))))) S38_ (qeo (R:=R)) (fun f v KK=>f (v.l 0 0) (v.b 3 0) (v.i 3 1) (v.i 3 2) (v.i 3 3) (v.i 3 4) (v.s 3 5) (v.s 3 6) (v.i 3 7) (v.b 7 0) (v.i 7 1) (v.i 7 2) (qww KK)) (by kernel_rfl) (by kernel_rfl) (fun _=>(by kernel_rfl)) rfl
def S39_:Shp:=⟨[(0,.one (.l (.sl 8))),(1,.st (lk qfz))],[]⟩
def qblg:AV->Option (AV×Bool):=decN [(.st [.b,(.i .u64),(.i .u64),(.i .i64),(.i .i64),.s,.s,(.i .i64)]),(.one .b)] fun z=>((gC (tpL z) 0),aB (gC (tpL z) 1))
def qti (v0:LA)(B7:Bool)(B8 B9:Int):Option (AV×Bool):=
 (qn2 v0 false 0 0 0 0 ([]:List UInt8) ([]:List UInt8) 0 B7 B8 B9 fun v5q1 b0_0q2 b0_1q3 b0_2q4 b0_3q5 b0_4q6 b0_5q7 b0_6q8 b0_7q9 b1_0q10 b1_1q11 b1_2q12 b2_0q13 b2_1q14 b2_2q15 b2_3q16 b2_4q17 b2_5q18 b2_6q19 b2_7q20=>(some ((.agg [(.bool b2_0q13),(.int .u64 b2_1q14),(.int .u64 b2_2q15),(.int .i64 b2_3q16),(.int .i64 b2_4q17),(.str b2_5q18),(.str b2_6q19),(.int .i64 b2_7q20)]),v5q1)))
def q4f:=hull qti
theorem qbno:q4f=qti:=qa _
def qbpj {R:Type}:EntF Tryz.prog R:=entB (nt:=11) (dec:=qblg) (enc:=(fun r=>.tup [qfe (.st [.b,(.i .u64),(.i .u64),(.i .i64),(.i .i64),.s,.s,(.i .i64)]) r.1,.bool r.2])) Tryz.func97 [(.cell 4 true 8),.t 5] (hdeN fun _=>rfl) (.s .z (.s (.r [(2,.s (.sel [4,6,7] [1,0])),(2,.r qw9)] []) .z)) S39_ qti (fun f v=>f (v.l 0 0) (v.b 5 0) (v.i 5 1) (v.i 5 2))
def S40_:Shp:=⟨[(0,.one (.l (.sl 8))),(1,.st (lk qc))],[]⟩
def qpp (v0:LA)(B7:LU)(B8:Bool)(B9 Ca Cb:Int):Option Bool:=
 (oB (q4f v0 B8 B9 Ca) fun r1=>(bif r1.2 then(bif((gI r1.1.cells 4)==2)then(some true)else(some ((gI r1.1.cells 4)==3)))else(some false)))
def qod:=hull qpp
theorem qbhy:qod=qpp:=qa _
def qwy {R:Type}:EntF Tryz.prog R:=entB (nt:=25) (dec:=decB) (enc:=AV.bool) Tryz.func41 [.t 4] hdeB (.s .z (.s (.r [(3,.c qbpj.b)] []) .z)) S40_ qpp (fun f v=>f (v.l 0 0) (v.s 5 0) (v.b 5 1) (v.i 5 2) (v.i 5 3) (v.i 5 4))
def qh (x0 x1 x2:LA):List AV:=[.sl 8 x0,.sl 5 x1,.sl 1 x2]
def S41_:Shp:=⟨[(0,.st (lk qc)),(1,.one (.ptr 0 0))],[.box true (lk qm),.box true [(.l .nil),(.l .nil),(.l .nil)]]⟩
def qblh {R:Type}(KK:AV->Mem->Option R):=(fun v3 Av Aw Ax=>KK (.bool v3) (qe [(some (.box true (qh Av Aw Ax))),(some (.box true [.nils,.nils,.nils]))]))
def qq1 {R:Type}(Aa:LU)(Ab:Bool)(Ac Bt Bu:Int)(Av Aw Ax:LA)(kr:Bool->(List AV)->(List AV)->(List AV)->Option R):Option R:=
 (oB (qod Av Aa Ab Ac Bt Bu) fun r1=>(kr (!r1) Av Aw Ax))
def qbay {R:Type}:=hull (qq1 (R:=R))
theorem qbli {R:Type}:qbay (R:=R)=qq1:=qa _
def qbnp {R:Type}:RefB Tryz.prog R:=refB (nt:=9) (nb:=2) Tryz.func40 [.t 3] (fun KK=>.s .z (.s (.r [(3,.c qwy.b)] []) (.v [.sel [3] [0,1]]))) S41_ (qq1 (R:=R)) (fun f v KK=>f (v.s 1 0) (v.b 1 1) (v.i 1 2) (v.i 1 3) (v.i 1 4) (v.l 3 0) (v.l 3 1) (v.l 3 2) (qblh KK)) (by kernel_rfl) (by kernel_rfl) (fun _=>(by kernel_rfl)) rfl
def S42_:Shp:=⟨[(0,.one (.l (.sl 5))),(1,.one (.fn 40 [(0,0)])),(7,.one (.l (.i .i64))),(8,.one (.l (.i .i64)))],[.box true (lk qm),.box true [(.l .nil),(.l .nil),(.l .nil)]]⟩
def S43_:Shp:=⟨[(0,.one (.l (.sl 5))),(1,.one (.fn 40 [(0,0)]))],[.box true (lk qm),.box true [(.l .nil),(.l .nil),(.l .nil)]]⟩
def qea {R:Type}(K:Ex->Env->Mem->Option R):=(fun z_b0_0 z_b0_1 z_b0_2=>K (.exit 0) (qi []) (qe [(some (.box true (qh z_b0_0 z_b0_1 z_b0_2))),(some (.box true [.nils,.nils,.nils]))]))
def qej {R:Type}(KK:AV->Mem->Option R):=(fun v4 Av Aw Ax=>KK (.int .i64 v4) (qe [(some (.box true (qh Av Aw Ax))),(some (.box true [.nils,.nils,.nils]))]))
def qbh {R:Type}(v0:LA)(v7 v8:Int)(Av Aw Ax:LA)(next:Int->(List AV)->(List AV)->(List AV)->Option R)(kx0:(List AV)->(List AV)->(List AV)->Option R)(kr:Int->(List AV)->(List AV)->(List AV)->Option R):Option R:=
 (bif(decide (v8<v7))then(oB (ixB v0 v8) fun y1=>(bif fitC qc y1.cells then(qbay (gS y1.cells 0) (gB y1.cells 1) (gI y1.cells 2) (gI y1.cells 3) (gI y1.cells 4) Av Aw Ax fun v3q2 b0_0q3 b0_1q4 b0_2q5=>(bif v3q2 then(kr v8 b0_0q3 b0_1q4 b0_2q5)else(next (i64.wrap (v8+1)) b0_0q3 b0_1q4 b0_2q5)))else none))else(kx0 Av Aw Ax))
def qbi {R:Type}(v0:LA)(v7:Int)(kx0:(List AV)->(List AV)->(List AV)->Option R)(kr:Int->(List AV)->(List AV)->(List AV)->Option R):Nat->Int->(List AV)->(List AV)->(List AV)->Option R
 |0=>(fun _ _ _ _=>none)
 |n+1=>(fun v8 Av Aw Ax=>qbh v0 v7 v8 Av Aw Ax (qbi v0 v7 kx0 kr n) kx0 kr)
def qev {R:Type}:=hull (qbi (R:=R))
theorem qke {R:Type}:qev (R:=R)=qbi:=qa _
def qkt {R:Type}(KK:AV->Mem->Option R):SubB Tryz.prog (TIof Tryz.prog) 19 2 (qdt [.t 4] KK):=lpB Tryz.f96 37 (.s .z (.s (.s .z (.v [.sel [] [0,1]])) (.s (.b (.s .z (.s (.r [(3,.p (.etac 14 qc)),(5,.s (.sel [0,1,5,7,8,11,15] [0,1])),(5,.r qbnp)] []) (.s (.s .z (.v [.sel [4] [0,1]])) .z)))) (.v [.sel [0,1,7,8] [0,1]])))) S42_ (qbi (R:=R)) (fun f v K n=>f (v.l 0 0) (v.i 28 0) (qea K) (qej KK) n) (fun v f K=>qbh (v.l 0 0) (v.i 28 0) (v.i 32 0) (v.l 3 0) (v.l 3 1) (v.l 3 2) f (qea K) (qej KK)) (fun f v=>f (v.i 32 0) (v.l 3 0) (v.l 3 1) (v.l 3 2)) (fun k v=>(fun z0 z1 z2 z3=>k ((((v.ui 32 0 z0).ul 3 0 z1).ul 3 1 z2).ul 3 2 z3)))
def qlo {R:Type}(KK:AV->Mem->Option R):=(fun v4 Av Aw Ax=>KK (.int .i64 v4) (qe [(some (.box true (qh Av Aw Ax))),(some (.box true [.nils,.nils,.nils]))]))
def qb8 {R:Type}(v0 Av Aw Ax:LA)(kr:Int->(List AV)->(List AV)->(List AV)->Option R):Option R:=
 (qev v0 (v0.length:Int) (fun b0_0q1 b0_1q2 b0_2q3=>(kr (-1) b0_0q1 b0_1q2 b0_2q3)) kr FU 0 Av Aw Ax)
def qfa {R:Type}:=hull (qb8 (R:=R))
theorem qlp {R:Type}:qfa (R:=R)=qb8:=qa _
def ql3 {R:Type}:RefB Tryz.prog R:=refB (nt:=19) (nb:=2) Tryz.func96 [.t 4] (fun KK=>.s .z (.s (.s .z (.b (.sub [.sel [0,1,7,8] [0,1]] (qkt KK) []))) (.s .z (.v [.sel [4] [0,1]])))) S43_ (qb8 (R:=R)) (fun f v KK=>f (v.l 0 0) (v.l 3 0) (v.l 3 1) (v.l 3 2) (qlo KK)) (by kernel_rfl) (by kernel_rfl) (fun _=>(by kernel_rfl)) rfl
def qkf {R:Type}(KK:AV->Mem->Option R):=(fun v4 Av Aw Ax=>KK (.bool v4) (qe [(some (.box true (qh Av Aw Ax))),(some (.box true [.nils,.nils,.nils]))]))
def qb3 {R:Type}(v0 Av Aw Ax:LA)(kr:Bool->(List AV)->(List AV)->(List AV)->Option R):Option R:=
 (qfa v0 Av Aw Ax fun v4q1 b0_0q2 b0_1q3 b0_2q4=>(kr (decide (v4q1>=0)) b0_0q2 b0_1q3 b0_2q4))
def qcw {R:Type}:=hull (qb3 (R:=R))
theorem qkg {R:Type}:qcw (R:=R)=qb3:=qa _
def qku {R:Type}:RefB Tryz.prog R:=refB (nt:=9) (nb:=2) Tryz.func39 [.t 4] (fun KK=>.s .z (.s (.r [(2,.s (.sel [5,6] [0,1])),(2,.r ql3)] []) (.v [.sel [4] [0,1]]))) S43_ (qb3 (R:=R)) (fun f v KK=>f (v.l 0 0) (v.l 3 0) (v.l 3 1) (v.l 3 2) (qkf KK)) (by kernel_rfl) (by kernel_rfl) (fun _=>(by kernel_rfl)) rfl
def qbpk:AV->Option (AV×Bool):=decN [(.st [.b,(.i .u64),(.i .u64),(.i .i64),(.i .i64),.s,.s,(.i .i64)]),(.one .b)] fun z=>((gC (tpL z) 0),aB (gC (tpL z) 1))
def qx1 (v0:LA)(B7:Bool)(B8 B9 Ca:Int):Option (AV×Bool):=
 (oB (quf v0 B7 B8 B9 Ca) fun r1=>(bif(decide (r1>=0))then(oB (ixB v0 r1) fun y2=>(bif fitC qb y2.cells then(some ((.agg [(.bool (gB y2.cells 0)),(.int .u64 (gI y2.cells 1)),(.int .u64 (gI y2.cells 2)),(.int .i64 (gI y2.cells 3)),(.int .i64 (gI y2.cells 4)),(.str (gS y2.cells 5)),(.str (gS y2.cells 6)),(.int .i64 (gI y2.cells 7))]),true))else none))else(some ((.agg [(.bool false),(.int .u64 0),(.int .u64 0),(.int .i64 0),(.int .i64 0),(.str ([]:List UInt8)),(.str ([]:List UInt8)),(.int .i64 0)]),false))))
def qso:=hull qx1
theorem qbr3:qso=qx1:=qa _
def qx2 {R:Type}:EntF Tryz.prog R:=entB (nt:=17) (dec:=qbpk) (enc:=(fun r=>.tup [qfe (.st [.b,(.i .u64),(.i .u64),(.i .i64),(.i .i64),.s,.s,(.i .i64)]) r.1,.bool r.2])) Tryz.func51 [(.cell 4 true 8),.t 5] (hdeN fun _=>rfl) (.s .z (.s (.s (.r [(2,.c q1u.b)] []) (.s .z (.s (.s (.r [(2,.p (.etac 14 qb))] []) .z) .z))) .z)) S16_ qx1 (fun f v=>f (v.l 0 0) (v.b 5 0) (v.i 5 1) (v.i 5 2) (v.i 5 3))
def qpq (Aa:Bool)(Ab Ac Bt:Int):Option Int:=
 (bif Aa then(some 128)else(some 32))
def qz6:=hull qpq
theorem qbhz:qz6=qpq:=qa _
def qblj {R:Type}:EntF Tryz.prog R:=entB (nt:=6) (dec:=(decI .i64)) (enc:=(AV.int .i64)) Tryz.func149 [.t 2] hdeI (.z) S8_ qpq (fun f v=>f (v.b 1 0) (v.i 1 1) (v.i 1 2) (v.i 1 3))
def qq2 (Aa:Bool)(Ab Ac Bt:Int)(B7:Bool)(B8 B9 Ca:Int):Option Bool:=
 (oB (ql2 Aa Ab Ac Bt B7 B8 B9 Ca) fun r1=>(bif r1 then(some true)else(oB (ql2 B7 B8 B9 Ca Aa Ab Ac Bt) fun r2=>(some r2))))
def q1w:=hull qq2
theorem qblk:q1w=qq2:=qa _
def q55 {R:Type}:EntF Tryz.prog R:=entB (nt:=13) (dec:=decB) (enc:=AV.bool) Tryz.func190 [.t 4] hdeB (.s .z (.s (.r [(2,.c qls.b),(6,.c qls.b)] []) .z)) S20_ qq2 (fun f v=>f (v.b 1 0) (v.i 1 1) (v.i 1 2) (v.i 1 3) (v.b 5 0) (v.i 5 1) (v.i 5 2) (v.i 5 3))
def S44_:Shp:=⟨[(1,.one (.l (.i .i64))),(2,.one (.l (.i .u64))),(3,.one (.ptr 0 0)),(6,.one (.ptr 1 0))],[.box true (lk qk),.box true (lk qk)]⟩
def S45_:Shp:=⟨[(1,.one (.l (.i .i64))),(2,.one (.l (.i .u64))),(3,.one (.ptr 0 0)),(6,.one (.ptr 1 0)),(8,.one (.l (.i .i64)))],[.box true (lk qk),.box true (lk qk)]⟩
def S46_:Shp:=⟨[(1,.one (.l (.i .i64))),(2,.one (.l (.i .u64))),(3,.one (.ptr 0 0)),(6,.one (.ptr 1 0)),(9,.one (.l (.i .u64))),(10,.one (.l (.i .u64))),(11,.one (.l (.i .u64)))],[.box true (lk qk),.box true (lk qk)]⟩
def S47_:Shp:=⟨[(0,.st (lk qk)),(1,.one (.l (.i .i64))),(2,.one (.l (.i .u64)))],[]⟩
def qtj:AV->Option (AV×Bool):=decN [(.st [.b,(.i .u64),(.i .u64),(.i .i64)]),(.one .b)] fun z=>((gC (tpL z) 0),aB (gC (tpL z) 1))
def qbll (v1 v2:Int)(Av:Bool)(Aw Ax Ay:Int)(Ad:Bool)(Ae Af Ag:Int)(K:Ex->Env->Mem->Option (AV×Bool)):=(fun z_v28=>K .norm (qi [(1,(.int .i64 v1)),(2,(.int .u64 v2)),(3,(.ptr 0 0)),(6,(.ptr 1 0)),(28,(.bool z_v28))]) (qe [(some (.box true (qj Av Aw Ax Ay))),(some (.box true (qj Ad Ae Af Ag)))]))
def qq3 (v1 v2:Int)(Av:Bool)(Aw Ax Ay:Int)(Ad:Bool)(Ae Af Ag:Int)(kn:Bool->Option (AV×Bool)):Option (AV×Bool):=
 (oB (qk8 Av Aw Ax Ay) fun r1=>(bif((!r1)||(decide (v1<Ay)))then(kn true)else(oB (qn4 Av Aw Ax) fun r2=>(kn (decide (v1>r2))))))
def q1x:=hull (qq3)
theorem qblm:q1x=qq3:=qa _
def qbnq:SubB Tryz.prog (TIof Tryz.prog) 81 0 (kret [(.cell 6 true 4),.t 7] qtj):=jnB Tryz.f156 9 (.r [(1,.c qne.b),(4,.g 4),(13,.c qtc.b)] [.sel [1,2,3,6,28] [0,1]]) S44_ (qq3) (fun f v K=>f (v.i 4 0) (v.i 8 0) (v.b 3 0) (v.i 3 1) (v.i 3 2) (v.i 3 3) (v.b 7 0) (v.i 7 1) (v.i 7 2) (v.i 7 3) (qbll (v.i 4 0) (v.i 8 0) (v.b 3 0) (v.i 3 1) (v.i 3 2) (v.i 3 3) (v.b 7 0) (v.i 7 1) (v.i 7 2) (v.i 7 3) K))
def qbh0 (v1 v2:Int)(Av:Bool)(Aw Ax Ay:Int)(Ad:Bool)(Ae Af Ag:Int)(K:Ex->Env->Mem->Option (AV×Bool)):=(fun z_v42=>K .norm (qi [(1,(.int .i64 v1)),(2,(.int .u64 v2)),(3,(.ptr 0 0)),(6,(.ptr 1 0)),(42,(.bool z_v42))]) (qe [(some (.box true (qj Av Aw Ax Ay))),(some (.box true (qj Ad Ae Af Ag)))]))
def ql8 (v1 v2 v8:Int)(Av:Bool)(Aw Ax Ay:Int)(Ad:Bool)(Ae Af Ag:Int)(kn:Bool->Option (AV×Bool)):Option (AV×Bool):=
 (bif(decide (v8<64))then(bif decide ((u64.wrap v8)<0)then none else(kn ((v2.fdiv (2^min (u64.wrap v8).toNat u64.bits)) != 0)))else(kn false))
def q8j:=hull (ql8)
theorem q3e:q8j=ql8:=qa _
def qbln:SubB Tryz.prog (TIof Tryz.prog) 81 0 (kret [(.cell 6 true 4),.t 7] qtj):=jnB Tryz.f156 43 (.v [.sel [1,2,3,6,42] [0,1]]) S45_ (ql8) (fun f v K=>f (v.i 4 0) (v.i 8 0) (v.i 32 0) (v.b 3 0) (v.i 3 1) (v.i 3 2) (v.i 3 3) (v.b 7 0) (v.i 7 1) (v.i 7 2) (v.i 7 3) (qbh0 (v.i 4 0) (v.i 8 0) (v.b 3 0) (v.i 3 1) (v.i 3 2) (v.i 3 3) (v.b 7 0) (v.i 7 1) (v.i 7 2) (v.i 7 3) K))
def qbh1 (v1:Int)(Av:Bool)(Aw Ax Ay:Int)(Ad:Bool)(Ae Af Ag:Int)(K:Ex->Env->Mem->Option (AV×Bool)):=(fun z_v10 z_v11=>K .norm (qi [(1,(.int .i64 v1)),(3,(.ptr 0 0)),(6,(.ptr 1 0)),(10,(.int .u64 z_v10)),(11,(.int .u64 z_v11))]) (qe [(some (.box true (qj Av Aw Ax Ay))),(some (.box true (qj Ad Ae Af Ag)))]))
def ql9 (v1 v2 v9 v10 v11:Int)(Av:Bool)(Aw Ax Ay:Int)(Ad:Bool)(Ae Af Ag:Int)(kn:Int->Int->Option (AV×Bool)):Option (AV×Bool):=
 (bif(decide (v9>=64))then(bif decide ((u64.wrap (v9-64))<0)then none else(kn (u64.wrap (v2*2^min (u64.wrap (v9-64)).toNat u64.bits)) 0))else(bif(decide (v9>0))then(bif decide ((u64.wrap (64-v9))<0)then none else(bif decide (v9<0)then none else(kn (v2.fdiv (2^min (u64.wrap (64-v9)).toNat u64.bits)) (u64.wrap (v2*2^min v9.toNat u64.bits)))))else(kn v10 v11)))
def qoe:=hull (ql9)
theorem q3f:qoe=ql9:=qa _
def qblo:SubB Tryz.prog (TIof Tryz.prog) 81 0 (kret [(.cell 6 true 4),.t 7] qtj):=jnB Tryz.f156 95 (.s .z (.s (.v [.sel [1,3,6,10,11] [0,1]]) (.s .z (.s (.v [.sel [1,3,6,10,11] [0,1]]) (.v [.sel [1,3,6,10,11] [0,1]]))))) S46_ (ql9) (fun f v K=>f (v.i 4 0) (v.i 8 0) (v.i 36 0) (v.i 40 0) (v.i 44 0) (v.b 3 0) (v.i 3 1) (v.i 3 2) (v.i 3 3) (v.b 7 0) (v.i 7 1) (v.i 7 2) (v.i 7 3) (qbh1 (v.i 4 0) (v.b 3 0) (v.i 3 1) (v.i 3 2) (v.i 3 3) (v.b 7 0) (v.i 7 1) (v.i 7 2) (v.i 7 3) K))
def qr9 (Aa:Bool)(Ab Ac Bt v1 v2:Int):Option (AV×Bool):=
 (q1x v1 v2 Aa Ab Ac Bt false 0 0 0 (fun v28q1=>(bif v28q1 then(some ((.agg [(.bool false),(.int .u64 0),(.int .u64 0),(.int .i64 0)]),false))else(q8j v1 v2 (i64.wrap (v1-Bt)) Aa Ab Ac Bt false 0 0 0 (fun v42q2=>(bif v42q2 then(some ((.agg [(.bool false),(.int .u64 0),(.int .u64 0),(.int .i64 0)]),false))else(oB (qn4 Aa Ab Ac) fun r3=>(qoe v1 v2 (u64.wrap (i64.wrap (r3-v1))) 0 v2 Aa Ab Ac Bt false 0 0 0 (fun v10q4 v11q5=>(some ((.agg [(.bool Aa),(.int .u64 (qbn .or .u64 Ab v10q4)),(.int .u64 (qbn .or .u64 Ac v11q5)),(.int .i64 v1)]),true)))))))))))
def qe4:=hull qr9
theorem qbaz:qe4=qr9:=qa _
def q4g {R:Type}:EntF Tryz.prog R:=entB (nt:=81) (dec:=qtj) (enc:=(fun r=>.tup [qfe (.st [.b,(.i .u64),(.i .u64),(.i .i64)]) r.1,.bool r.2])) Tryz.func156 [(.cell 6 true 4),.t 7] (hdeN fun _=>rfl) (.s .z (.s (.s (.sub [.sel [1,2,3,6] [0,1]] qbnq []) .z) (.s (.s .z (.s (.sub [.sel [1,2,3,6,8] [0,1]] qbln []) .z)) (.s (.r [(2,.c qtc.b)] []) (.s .z (.s (.sub [.sel [1,2,3,6,9,10,11] [0,1]] qblo []) .z)))))) S47_ qr9 (fun f v=>f (v.b 1 0) (v.i 1 1) (v.i 1 2) (v.i 1 3) (v.i 4 0) (v.i 8 0))
def S48_:Shp:=⟨[(1,.one (.ptr 0 0)),(2,.one (.ptr 1 0)),(3,.one (.ptr 2 0)),(5,.one (.ptr 3 0)),(6,.one (.l .b))],[.box true (lk qk),.box true (lk qk),.box true (lk qk),.box true (lk qk)]⟩
def q4s:AV->Option (AV×AV×Bool):=decN [(.st [.b,(.i .u64),(.i .u64),(.i .i64)]),(.st [.b,(.i .u64),(.i .u64),(.i .i64)]),(.one .b)] fun z=>((gC (tpL z) 0),(gC (tpL z) 1),aB (gC (tpL z) 2))
def qbf9 (Av:Bool)(Aw Ax Ay:Int)(Ad:Bool)(Ae Af Ag:Int)(Au:Bool)(Bc Bd Be:Int)(Cf:Bool)(Cg Ch Ci:Int)(K:Ex->Env->Mem->Option (AV×AV×Bool)):=(fun z_v22=>K .norm (qi [(1,(.ptr 0 0)),(2,(.ptr 1 0)),(3,(.ptr 2 0)),(5,(.ptr 3 0)),(22,(.bool z_v22))]) (qe [(some (.box true (qj Av Aw Ax Ay))),(some (.box true (qj Ad Ae Af Ag))),(some (.box true (qj Au Bc Bd Be))),(some (.box true (qj Cf Cg Ch Ci)))]))
def qof (v6 Av:Bool)(Aw Ax Ay:Int)(Ad:Bool)(Ae Af Ag:Int)(Au:Bool)(Bc Bd Be:Int)(Cf:Bool)(Cg Ch Ci:Int)(kn:Bool->Option (AV×AV×Bool)):Option (AV×AV×Bool):=
 (bif(!v6)then(kn true)else(oB (qk8 Av Aw Ax Ay) fun r1=>(kn (!r1))))
def q56:=hull (qof)
theorem qbga:q56=qof:=qa _
def qbh2:SubB Tryz.prog (TIof Tryz.prog) 36 0 (kret [(.cell 2 true 4),(.cell 3 true 4),.t 4] q4s):=jnB Tryz.f155 19 (.r [(4,.c qne.b)] [.sel [1,2,3,5,22] [0,1,2,3]]) S48_ (qof) (fun f v K=>f (v.b 24 0) (v.b 3 0) (v.i 3 1) (v.i 3 2) (v.i 3 3) (v.b 7 0) (v.i 7 1) (v.i 7 2) (v.i 7 3) (v.b 11 0) (v.i 11 1) (v.i 11 2) (v.i 11 3) (v.b 15 0) (v.i 15 1) (v.i 15 2) (v.i 15 3) (qbf9 (v.b 3 0) (v.i 3 1) (v.i 3 2) (v.i 3 3) (v.b 7 0) (v.i 7 1) (v.i 7 2) (v.i 7 3) (v.b 11 0) (v.i 11 1) (v.i 11 2) (v.i 11 3) (v.b 15 0) (v.i 15 1) (v.i 15 2) (v.i 15 3) K))
def qtk (Aa:Bool)(Ab Ac Bt:Int):Option (AV×AV×Bool):=
 (oB (qe4 Aa Ab Ac Bt (i64.wrap (Bt+1)) 0) fun r1=>(q56 r1.2 Aa Ab Ac Bt false 0 0 0 false 0 0 0 (gB r1.1.cells 0) (gI r1.1.cells 1) (gI r1.1.cells 2) (gI r1.1.cells 3) (fun v22q2=>(bif v22q2 then(some ((.agg [(.bool false),(.int .u64 0),(.int .u64 0),(.int .i64 0)]),(.agg [(.bool false),(.int .u64 0),(.int .u64 0),(.int .i64 0)]),false))else(oB (qe4 Aa Ab Ac Bt (i64.wrap (Bt+1)) 1) fun r3=>(some ((.agg [(.bool (gB r1.1.cells 0)),(.int .u64 (gI r1.1.cells 1)),(.int .u64 (gI r1.1.cells 2)),(.int .i64 (gI r1.1.cells 3))]),(.agg [(.bool (gB r3.1.cells 0)),(.int .u64 (gI r3.1.cells 1)),(.int .u64 (gI r3.1.cells 2)),(.int .i64 (gI r3.1.cells 3))]),r3.2)))))))
def ql4:=hull qtk
theorem qbnr:ql4=qtk:=qa _
def qz7 {R:Type}:EntF Tryz.prog R:=entB (nt:=36) (dec:=q4s) (enc:=(fun r=>.tup [qfe (.st [.b,(.i .u64),(.i .u64),(.i .i64)]) r.1,qfe (.st [.b,(.i .u64),(.i .u64),(.i .i64)]) r.2.1,.bool r.2.2])) Tryz.func155 [(.cell 2 true 4),(.cell 3 true 4),.t 4] (hdeN fun _=>rfl) (.s .z (.s (.r [(4,.c q4g.b)] []) (.s (.s (.sub [.sel [1,2,3,5,6] [0,1,2,3]] qbh2 []) .z) (.s (.r [(4,.c q4g.b)] []) .z)))) S8_ qtk (fun f v=>f (v.b 1 0) (v.i 1 1) (v.i 1 2) (v.i 1 3))
def qbpl {β:Type}(cs:LA)(f:Bool->Int->Int->Int->β):β:=f (gB cs 0) (gI cs 1) (gI cs 2) (gI cs 3)
def qz8:Shp:=⟨[(0,.one (.own 0)),(1,.one (.l (.sl 8))),(2,.st (lk qk))],[.arr true 4]⟩
def qg8 (rec:(List AV)->(List AV)->Bool->Int->Int->Int->Option (List AV))(xs cl:LA):Option (List AV):=chk (q5e qz8 (qc6 (.own 0 xs.length::cl)) (M1 4 xs)) (cond (hdS qz8 (qc6 (.own 0 xs.length::cl)) (M1 4 xs)) (rec xs (gL [(qc6 (.own 0 xs.length::cl)) 1] 0) (gB ((qc6 (.own 0 xs.length::cl)) 2).cells 0) (gI ((qc6 (.own 0 xs.length::cl)) 2).cells 1) (gI ((qc6 (.own 0 xs.length::cl)) 2).cells 2) (gI ((qc6 (.own 0 xs.length::cl)) 2).cells 3)) none)
def qog (a0:LA)(Ad:Bool)(Ae Af Ag:Int)(K:Ex->Env->Mem->Option (List AV)):=(fun z_a2=>K (.exit 0) (qi [(0,(.own 0 a0.length)),(5,(.ptr 1 0)),(7,(.own 2 z_a2.length))]) (qe [(some (.arr true 4 a0)),(some (.box true (qj Ad Ae Af Ag))),(some (.arr true 8 z_a2))]))
def qbh3:Shp:=⟨[(0,.one (.own 0)),(5,.one (.ptr 1 0)),(7,.one (.own 2)),(13,.one (.l (.sl 8))),(14,.one (.l (.i .i64))),(15,.one (.l (.i .i64)))],[.arr true 4,.box true (lk qk),.arr true 8]⟩
def qwz (v13:LA)(v14 v15:Int)(a0:LA)(Ad:Bool)(Ae Af Ag:Int)(a2:LA):Env:=qi [(0,(.own 0 a0.length)),(5,(.ptr 1 0)),(7,(.own 2 a2.length)),(13,(.sl 8 v13)),(14,(.int .i64 v14)),(15,(.int .i64 v15))]
def qw0 (v13:LA)(v14 v15:Int)(a0:LA)(Ad:Bool)(Ae Af Ag:Int)(a2:LA):Mem:=qe [(some (.arr true 4 a0)),(some (.box true (qj Ad Ae Af Ag))),(some (.arr true 8 a2))]
def qkh (rec:(List AV)->(List AV)->Bool->Int->Int->Int->Option (List AV))(v13:LA)(v14 v15:Int)(a0:LA)(Ad:Bool)(Ae Af Ag:Int)(a2:LA)(next:Int->(List AV)->Option (List AV))(kx0:(List AV)->Option (List AV)):Option (List AV):=
 (bif(decide (v15<v14))then(oB (ixB v13 v15) fun y1=>(bif fitC qb y1.cells then(oB (ql2 Ad Ae Af Ag (gB y1.cells 0) (gI y1.cells 1) (gI y1.cells 2) (gI y1.cells 3)) fun r2=>(bif r2 then(bif hd a0 a0.length then(some a0)else none)else(oB (q1w (gB y1.cells 0) (gI y1.cells 1) (gI y1.cells 2) (gI y1.cells 3) Ad Ae Af Ag) fun r3=>(bif r3 then(bif hd a2 a2.length then(bif hd ([(.agg [(.bool (gB y1.cells 0)),(.int .u64 (gI y1.cells 1)),(.int .u64 (gI y1.cells 2)),(.int .i64 (gI y1.cells 3)),(.int .i64 (gI y1.cells 4)),(.str (gS y1.cells 5)),(.str (gS y1.cells 6)),(.int .i64 (gI y1.cells 7))])]:List AV) (([(.agg [(.bool (gB y1.cells 0)),(.int .u64 (gI y1.cells 1)),(.int .u64 (gI y1.cells 2)),(.int .i64 (gI y1.cells 3)),(.int .i64 (gI y1.cells 4)),(.str (gS y1.cells 5)),(.str (gS y1.cells 6)),(.int .i64 (gI y1.cells 7))])]:List AV).length)then(bif decide ((a2.length+([(.agg [(.bool (gB y1.cells 0)),(.int .u64 (gI y1.cells 1)),(.int .u64 (gI y1.cells 2)),(.int .i64 (gI y1.cells 3)),(.int .i64 (gI y1.cells 4)),(.str (gS y1.cells 5)),(.str (gS y1.cells 6)),(.int .i64 (gI y1.cells 7))])]:List AV).length)*80<=140737488355328)then(next (i64.wrap (v15+1)) (a2++([(.agg [(.bool (gB y1.cells 0)),(.int .u64 (gI y1.cells 1)),(.int .u64 (gI y1.cells 2)),(.int .i64 (gI y1.cells 3)),(.int .i64 (gI y1.cells 4)),(.str (gS y1.cells 5)),(.str (gS y1.cells 6)),(.int .i64 (gI y1.cells 7))])]:List AV)))else none)else none)else none)else(next (i64.wrap (v15+1)) a2)))))else none))else(kx0 a2))
def qq4 (rec:(List AV)->(List AV)->Bool->Int->Int->Int->Option (List AV))(v13:LA)(v14:Int)(a0:LA)(Ad:Bool)(Ae Af Ag:Int)(kx0:(List AV)->Option (List AV)):Nat->Int->(List AV)->Option (List AV)
 |0=>(fun _ _=>none)
 |n+1=>(fun v15 a2=>qkh rec v13 v14 v15 a0 Ad Ae Af Ag a2 (qq4 rec v13 v14 a0 Ad Ae Af Ag kx0 n) kx0)
def qqc (rec:(List AV)->(List AV)->Bool->Int->Int->Int->Option (List AV)):=hull (qq4 rec)
theorem q4t (rec:(List AV)->(List AV)->Bool->Int->Int->Int->Option (List AV)):qqc rec=qq4 rec:=qa _
def qki (rec:(List AV)->(List AV)->Bool->Int->Int->Int->Option (List AV)):AC (List AV):=
 .seq (.reg [ao 16 (.bin .lss 15 14)]) (.seq (.cond 16 (.skip) (.seq (.view [.sel [0,5,7] [0,1,2]]) (.exit 0))) (.seq (.block 1 (.seq (.reg [ao 17 (.ia 8 13 15),
 .st (.etac 17 qb),
 ao 18 (.load true 8 17),
 ao 9 (.alloc [(.bool false),(.int .u64 0),(.int .u64 0),(.int .i64 0),(.int .i64 0),(.str []),(.str []),(.int .i64 0)]),
 an (.store 8 9 18)]) (.seq (.seq (.reg [ao 19 (.load true 4 5),
 ao 20 (.fa 0 9),
 ao 21 (.load true 4 20),
 .call (po 22 (.call 122 [19,21])) 122 qls.e]) (.cond 22 (.seq (.reg [ao 23 (.mv 0),
 ao 6 (.mv 23)]) (.ret)) (.skip))) (.seq (.reg [ao 24 (.fa 0 9),
 ao 25 (.load true 4 24),
 ao 26 (.load true 4 5),
 .call (po 27 (.call 190 [25,26])) 190 q55.e]) (.cond 27 (.reg [ao 28 (.mv 7),
 ao 29 (.load true 8 9),
 ao 30 (.bsl 8 [29]),
 ao 31 (.app 8 80 28 30),
 ao 7 (.mv 31)]) (.skip)))))) (.seq (.reg [ao 32 (.bin .add 15 (.c (.int .i64 1))),
 ao 15 (.mv 32)]) (.view [.sel [0,5,7,13,14,15] [0,1,2]]))))
theorem qblp (rec:(List AV)->(List AV)->Bool->Int->Int->Int->Option (List AV))(hrec:qvf Tryz.prog 179 4 (qg8 rec)):AC.ok Tryz.prog (TIof Tryz.prog) 56 1 (qdt [.t 6] (grK 4)) (qki rec):=qb6b (zA (qi0.ok qls.h) (zA (qi0.ok q55.h) trivial))
theorem qbh4 (rec:(List AV)->(List AV)->Bool->Int->Int->Int->Option (List AV))(v13:LA)(v14 v15:Int)(a0:LA)(Ad:Bool)(Ae Af Ag:Int)(a2:LA)(K:Ex->Env->Mem->Option (List AV)):den 1 (qdt [.t 6] (grK 4)) (qki rec) (qwz v13 v14 v15 a0 Ad Ae Af Ag a2) (qw0 v13 v14 v15 a0 Ad Ae Af Ag a2) K=qkh rec v13 v14 v15 a0 Ad Ae Af Ag a2 (fun z_v15 z_a2=>K .norm (qwz v13 v14 z_v15 a0 Ad Ae Af Ag z_a2) (qw0 v13 v14 z_v15 a0 Ad Ae Af Ag z_a2)) (qog a0 Ad Ae Af Ag K):=by kernel_rfl
theorem qbns (rec:(List AV)->(List AV)->Bool->Int->Int->Int->Option (List AV))(v13:LA)(v14:Int)(a0:LA)(Ad:Bool)(Ae Af Ag:Int)(K:Ex->Env->Mem->Option (List AV)):∀(n:Nat) (v15:Int) (a2:LA),q04 (den 1 (qdt [.t 6] (grK 4)) (qki rec)) n (qwz v13 v14 v15 a0 Ad Ae Af Ag a2) (qw0 v13 v14 v15 a0 Ad Ae Af Ag a2) K=qqc rec v13 v14 a0 Ad Ae Af Ag (qog a0 Ad Ae Af Ag K) n v15 a2:=by
 rw[q4t]
 intro n
 induction n with
 |zero=>intros;rfl
 |succ n ih=>
 intro v15 a2
 exact(qbh4 rec v13 v14 v15 a0 Ad Ae Af Ag a2 (itK (den 1 (qdt [.t 6] (grK 4)) (qki rec)) n K)).trans (congrArg (fun q=>qkh rec v13 v14 v15 a0 Ad Ae Af Ag a2 q (qog a0 Ad Ae Af Ag K)) (funext fun v15=>funext fun a2=>ih v15 a2))
def q57 (rec:(List AV)->(List AV)->Bool->Int->Int->Int->Option (List AV)):=subE (R:=List AV) qbh3 fun t m K=>qbpl (bxC (m.s 1)) (qqc rec (gL [t 13] 0) (gI [t 14] 0) (arL (m.s 0))) (qog (arL (m.s 0)) (gB (bxC (m.s 1)) 0) (gI (bxC (m.s 1)) 1) (gI (bxC (m.s 1)) 2) (gI (bxC (m.s 1)) 3) K) FU (gI [t 15] 0) (arL (m.s 2))
theorem qbnt (rec:(List AV)->(List AV)->Bool->Int->Int->Int->Option (List AV))(hrec:qvf Tryz.prog 179 4 (qg8 rec)):q9c Tryz.prog (TIof Tryz.prog) 56 1 (qdt [.t 6] (grK 4)) (.loop (scOf (qki rec))) (q57 rec):=
 qbzs tabOk follows (qblp rec hrec) (qbq7 (by kernel_rfl)) fun t m K=>qbns rec _ _ _ _ _ _ _ K FU _ _
def qx3 (rec:(List AV)->(List AV)->Bool->Int->Int->Int->Option (List AV))(a0 v1:LA)(Cw:Bool)(Cx Cy Cz:Int):Option (List AV):=
 (bif(hd a0 (a0.length)&&(hd ([]:List AV) (([]:List AV).length)&&true))then(qqc rec v1 (v1.length:Int) a0 Cw Cx Cy Cz (fun a2q1=>(bif((a2q1.length:Int)==0)then(bif hd a0 a0.length then(bif hd ([(.agg [(.bool Cw),(.int .u64 Cx),(.int .u64 Cy),(.int .i64 Cz)])]:List AV) (([(.agg [(.bool Cw),(.int .u64 Cx),(.int .u64 Cy),(.int .i64 Cz)])]:List AV).length)then(bif decide ((a0.length+([(.agg [(.bool Cw),(.int .u64 Cx),(.int .u64 Cy),(.int .i64 Cz)])]:List AV).length)*32<=140737488355328)then(bif hd (a0++([(.agg [(.bool Cw),(.int .u64 Cx),(.int .u64 Cy),(.int .i64 Cz)])]:List AV)) ((a0++([(.agg [(.bool Cw),(.int .u64 Cx),(.int .u64 Cy),(.int .i64 Cz)])]:List AV)).length)then(some (a0++([(.agg [(.bool Cw),(.int .u64 Cx),(.int .u64 Cy),(.int .i64 Cz)])]:List AV)))else none)else none)else none)else none)else(oB (ql4 Cw Cx Cy Cz) fun r2=>(bif(!r2.2.2)then(bif hd a0 a0.length then(some a0)else none)else(bif hd a2q1 a2q1.length then(bif hd a0 a0.length then(oB (bif(hd a0 (a0.length)&&true)then(rec a0 a2q1 (gB r2.1.cells 0) (gI r2.1.cells 1) (gI r2.1.cells 2) (gI r2.1.cells 3))else none) fun r3=>(bif hd r3 r3.length then(oB (bif(hd r3 (r3.length)&&true)then(rec r3 a2q1 (gB r2.2.1.cells 0) (gI r2.2.1.cells 1) (gI r2.2.1.cells 2) (gI r2.2.1.cells 3))else none) fun r4=>(bif hd r4 r4.length then(some r4)else none))else none))else none)else none))))) FU 0 ([]:List AV))else none)
def qey:Nat->(List AV)->(List AV)->Bool->Int->Int->Int->Option (List AV)
 |0=>(fun _ _ _ _ _ _=>none)
 |n+1=>(fun a0 v1 Cw Cx Cy Cz=>qx3 (qey n) a0 v1 Cw Cx Cy Cz)
def q9t:(List AV)->(List AV)->Bool->Int->Int->Int->Option (List AV):=hull (qey FU)
theorem qba0:q9t=qey FU:=qa _
def qsa (rec:(List AV)->(List AV)->Bool->Int->Int->Int->Option (List AV)):AC (List AV):=
 .seq (.reg [ao 5 (.box 2),
 ao 6 (.mv (.c .nils))]) (.seq (.reg [ao 7 (.mv (.c .nils))]) (.seq (.seq (.reg [ao 13 (.mv 1),
 ao 14 (.len false 13),
 ao 15 (.mv (.c (.int .i64 0)))]) (.block 0 (.seq (.view [.own 7 8,.sel [0,5,7,13,14,15] [0,1,2]]) (.sub (.loop (scOf (qki rec))) (q57 rec))))) (.seq (.seq (.reg [ao 33 (.mv 7),
 ao 34 (.len false 33),
 ao 35 (.bin .eql 34 (.c (.int .i64 0)))]) (.cond 35 (.seq (.reg [ao 36 (.mv 0),
 ao 37 (.load true 4 5),
 ao 38 (.bsl 4 [37]),
 ao 39 (.app 4 32 36 38),
 ao 6 (.mv 39)]) (.ret)) (.skip))) (.seq (.reg [ao 41 (.load true 4 5),
 .call (po 42 (.call 155 [41])) 155 qz7.e,
 ao 40 (.mv 42),
 ao 43 (.ext 40 0),
 ao 44 (.ext 40 1),
 ao 45 (.ext 40 2),
 ao 10 (.alloc [(.bool false),(.int .u64 0),(.int .u64 0),(.int .i64 0)]),
 ao 11 (.alloc [(.bool false),(.int .u64 0),(.int .u64 0),(.int .i64 0)]),
 an (.store 4 10 43),
 an (.store 4 11 44),
 ao 12 (.mv 45)]) (.seq (.seq (.reg [ao 46 (.mv 12),
 ao 47 (.un .not 46)]) (.cond 47 (.seq (.reg [ao 48 (.mv 0),
 ao 6 (.mv 48)]) (.ret)) (.skip))) (.seq (.seq (.view [.snap 7]) (.draw4 [(po 49 (.mv 0)),(po 50 (.mv 7)),(po 51 (.load true 4 10))] 52 179 4 49 [50,51] (qg8 rec) [(po 53 (.mv 7)),(po 54 (.load true 4 11))] [.callr (po 55 (.call 179 [52,53,54])) 179 (qbxq 4 (qg8 rec)),
 ao 6 (.mv 55)])) (.ret)))))))
theorem qbr4 (rec:(List AV)->(List AV)->Bool->Int->Int->Int->Option (List AV))(hrec:qvf Tryz.prog 179 4 (qg8 rec)):AC.ok Tryz.prog (TIof Tryz.prog) 56 1 (qdt [.t 6] (grK 4)) (qsa rec):=qb6b (zA (qbnt rec hrec) (zA (qi0.ok qz7.h) (zA hrec (zA (qbue hrec) trivial))))
theorem qbvb (rec:(List AV)->(List AV)->Bool->Int->Int->Int->Option (List AV))(v1:LA)(Cw:Bool)(Cx Cy Cz:Int)(a0:LA):den 1 (qdt [.t 6] (grK 4)) (qsa rec) (qi [(0,(.own 0 a0.length)),(1,(.sl 8 v1)),(2,.agg (qj Cw Cx Cy Cz))]) (qe [(some (.arr true 4 a0))]) (kend (qdt [.t 6] (grK 4)))=qx3 rec a0 v1 Cw Cx Cy Cz:=by
 kernel_rfl
theorem qbvc:cFn (TIof Tryz.prog) Tryz.f179=some ⟨56,[.t 6],scOf (qsa (fun _ _ _ _ _ _=>none))⟩:=by kernel_rfl
theorem qbvd (rec:(List AV)->(List AV)->Bool->Int->Int->Int->Option (List AV)):(qsa rec).er=some (scOf (qsa (fun _ _ _ _ _ _=>none))):=by kernel_rfl
theorem qba1:∀(k:Nat),qvf Tryz.prog 179 4 (qg8 (qey k))
 |0=>fun xs cl zs h=>by
  unfold qg8 at h
  obtain⟨h1,h2⟩:=qvg h
  obtain⟨h3,h4⟩:=qr h2
  cases h4
 |k+1=>fun xs cl zs h=>by
  unfold qg8 at h
  obtain⟨h1,h2⟩:=qvg h
  obtain⟨h3,h4⟩:=qr h2
  exact qbq8 tabOk follows Tryz.func179 (by kernel_rfl) qbvc (qbr4 (qey k) (qba1 k)) (qbvd (qey k)) qz8 (qbcv h1 h3) ((qbvb (qey k) (gL [(qc6 (.own 0 xs.length::cl)) 1] 0) (gB ((qc6 (.own 0 xs.length::cl)) 2).cells 0) (gI ((qc6 (.own 0 xs.length::cl)) 2).cells 1) (gI ((qc6 (.own 0 xs.length::cl)) 2).cells 2) (gI ((qc6 (.own 0 xs.length::cl)) 2).cells 3) (arL ((M1 4 xs).s 0))).trans h4)
theorem qbve:qvf Tryz.prog 179 4 (qg8 q9t):=by
 have h:=qba1 FU
 rw[<-qba0]at h
 exact h
def S49_:Shp:=⟨[(3,.one (.ptr 0 0)),(7,.one (.own 1)),(23,.one (.l (.sl 8))),(24,.one (.l (.i .i64))),(25,.one (.l (.i .i64)))],[.box true (lk qk),.arr true 8]⟩
def q1k (Av:Bool)(Aw Ax Ay:Int)(K:Ex->Env->Mem->Option (List AV)):=(fun z_a1=>K (.exit 0) (qi [(3,(.ptr 0 0)),(7,(.own 1 z_a1.length))]) (qe [(some (.box true (qj Av Aw Ax Ay))),(some (.arr true 8 z_a1))]))
def qma (v23:LA)(v24 v25:Int)(Av:Bool)(Aw Ax Ay:Int)(a1:LA)(next:Int->(List AV)->Option (List AV))(kx0:(List AV)->Option (List AV)):Option (List AV):=
 (bif(decide (v25<v24))then(oB (ixB v23 v25) fun y1=>(bif fitC qb y1.cells then(oB (qw8 (gB y1.cells 0) (gI y1.cells 1) (gI y1.cells 2) (gI y1.cells 3) Av Aw Ax Ay) fun r2=>(bif r2 then(bif hd a1 a1.length then(bif hd ([(.agg [(.bool (gB y1.cells 0)),(.int .u64 (gI y1.cells 1)),(.int .u64 (gI y1.cells 2)),(.int .i64 (gI y1.cells 3)),(.int .i64 (gI y1.cells 4)),(.str (gS y1.cells 5)),(.str (gS y1.cells 6)),(.int .i64 (gI y1.cells 7))])]:List AV) (([(.agg [(.bool (gB y1.cells 0)),(.int .u64 (gI y1.cells 1)),(.int .u64 (gI y1.cells 2)),(.int .i64 (gI y1.cells 3)),(.int .i64 (gI y1.cells 4)),(.str (gS y1.cells 5)),(.str (gS y1.cells 6)),(.int .i64 (gI y1.cells 7))])]:List AV).length)then(bif decide ((a1.length+([(.agg [(.bool (gB y1.cells 0)),(.int .u64 (gI y1.cells 1)),(.int .u64 (gI y1.cells 2)),(.int .i64 (gI y1.cells 3)),(.int .i64 (gI y1.cells 4)),(.str (gS y1.cells 5)),(.str (gS y1.cells 6)),(.int .i64 (gI y1.cells 7))])]:List AV).length)*80<=140737488355328)then(next (i64.wrap (v25+1)) (a1++([(.agg [(.bool (gB y1.cells 0)),(.int .u64 (gI y1.cells 1)),(.int .u64 (gI y1.cells 2)),(.int .i64 (gI y1.cells 3)),(.int .i64 (gI y1.cells 4)),(.str (gS y1.cells 5)),(.str (gS y1.cells 6)),(.int .i64 (gI y1.cells 7))])]:List AV)))else none)else none)else none)else(next (i64.wrap (v25+1)) a1)))else none))else(kx0 a1))
def qmb (v23:LA)(v24:Int)(Av:Bool)(Aw Ax Ay:Int)(kx0:(List AV)->Option (List AV)):Nat->Int->(List AV)->Option (List AV)
 |0=>(fun _ _=>none)
 |n+1=>(fun v25 a1=>qma v23 v24 v25 Av Aw Ax Ay a1 (qmb v23 v24 Av Aw Ax Ay kx0 n) kx0)
def qz9:=hull (qmb)
theorem qbh5:qz9=qmb:=qa _
def qblq:SubB Tryz.prog (TIof Tryz.prog) 41 0 (kret [.t 4] (decF true 4)):=lpB Tryz.f154 151 (.s .z (.s (.s .z (.v [.sel [3,7] [0,1]])) (.s (.b (.s (.r [(0,.p (.etac 27 qb))] []) (.s (.r [(3,.c q4b.b)] []) .z))) (.v [.sel [3,7,23,24,25] [0,1]])))) S49_ (qmb) (fun f v K n=>f (v.l 92 0) (v.i 96 0) (v.b 3 0) (v.i 3 1) (v.i 3 2) (v.i 3 3) (q1k (v.b 3 0) (v.i 3 1) (v.i 3 2) (v.i 3 3) K) n) (fun v f K=>qma (v.l 92 0) (v.i 96 0) (v.i 100 0) (v.b 3 0) (v.i 3 1) (v.i 3 2) (v.i 3 3) (v.r 1) f (q1k (v.b 3 0) (v.i 3 1) (v.i 3 2) (v.i 3 3) K)) (fun f v=>f (v.i 100 0) (v.r 1)) (fun k v=>(fun z0 z1=>k ((v.ui 100 0 z0).ur 1 z1)))
def qx4 (v0:LA)(B7:Bool)(B8 B9 Ca:Int):Option (List AV):=
 (oB (qso v0 B7 B8 B9 Ca) fun r1=>(bif((!r1.2)||((gI r1.1.cells 4) != 1))then(bif hd ([]:List AV) (([]:List AV).length)then(some ([]:List AV))else none)else(bif(hd ([]:List AV) (([]:List AV).length)&&true)then(qz9 v0 (v0.length:Int) B7 B8 B9 Ca (fun a1q2=>(bif hd a1q2 a1q2.length then(oB (bif(hd ([]:List AV) (([]:List AV).length)&&true)then(q9t ([]:List AV) a1q2 B7 B8 B9 Ca)else none) fun r3=>(bif hd r3 r3.length then(some r3)else none))else none)) FU 0 ([]:List AV))else none)))
def q2y:=hull qx4
theorem qbr5:q2y=qx4:=qa _
def qbvf {R:Type}:EntF Tryz.prog R:=entB (nt:=41) (dec:=(decF true 4)) (enc:=(AV.fr true 4)) Tryz.func154 [.t 4] hdeF (.s .z (.s (.s (.r [(2,.c qx2.b)] []) (.s (.r [(3,.g 3)] []) (.s (.s .z (.v [.own 4 4])) .z))) (.s .z (.s (.s .z (.b (.sub [.own 7 8,.sel [3,7,23,24,25] [0,2]] qblq []))) (.s (.r [(2,.s (.snap 38)),(2,.r (rB (qbue qbve)))] []) .z))))) S16_ qx4 (fun f v=>f (v.l 0 0) (v.b 5 0) (v.i 5 1) (v.i 5 2) (v.i 5 3))
def S50_:Shp:=⟨[(0,.one (.l (.i .i64))),(1,.one (.l (.i .i64)))],[]⟩
def qnp (v0 v1:Int):Option Bool:=
 (some (decide (v0<v1)))
def q4u:=hull qnp
theorem qbc5:q4u=qnp:=qa _
def qbgb {R:Type}:EntF Tryz.prog R:=entB (nt:=8) (dec:=decB) (enc:=AV.bool) Tryz.func152 [.t 4] hdeB (.z) S50_ qnp (fun f v=>f (v.i 0 0) (v.i 4 0))
def S51_:Shp:=⟨[(1,.one (.l (.i .i64))),(2,.one (.fn 152 [])),(6,.one (.ptr 0 0)),(8,.one (.ptr 1 0)),(9,.one (.l .b)),(11,.one (.ptr 2 0)),(13,.one (.l (.sl 4))),(14,.one (.l (.i .i64))),(15,.one (.l (.i .i64)))],[.box true (lk qk),.box true (lk qk),.box true (lk qk)]⟩
def S52_:Shp:=⟨[(1,.one (.l (.i .i64))),(2,.one (.fn 152 [])),(6,.one (.ptr 0 0)),(8,.one (.ptr 1 0)),(9,.one (.l .b)),(13,.one (.l (.sl 4))),(14,.one (.l (.i .i64))),(15,.one (.l (.i .i64)))],[.box true (lk qk),.box true (lk qk)]⟩
def S53_:Shp:=⟨[(0,.one (.l (.sl 4))),(1,.one (.l (.i .i64))),(2,.one (.fn 152 []))],[]⟩
def qfm:AV->Option (AV×Bool):=decN [(.st [.b,(.i .u64),(.i .u64),(.i .i64)]),(.one .b)] fun z=>((gC (tpL z) 0),aB (gC (tpL z) 1))
def qsb (v1:Int)(v9:Bool)(v13:LA)(v14 v15:Int)(Av:Bool)(Aw Ax Ay:Int)(Ad:Bool)(Ae Af Ag:Int)(Au:Bool)(Bc Bd Be:Int)(K:Ex->Env->Mem->Option (AV×Bool)):=(fun z_v34=>K .norm (qi [(1,(.int .i64 v1)),(2,(.func 152 [])),(6,(.ptr 0 0)),(8,(.ptr 1 0)),(9,(.bool v9)),(11,(.ptr 2 0)),(13,(.sl 4 v13)),(14,(.int .i64 v14)),(15,(.int .i64 v15)),(34,(.bool z_v34))]) (qe [(some (.box true (qj Av Aw Ax Ay))),(some (.box true (qj Ad Ae Af Ag))),(some (.box true (qj Au Bc Bd Be)))]))
def qdc (v1:Int)(v9:Bool)(v13:LA)(v14 v15:Int)(Av:Bool)(Aw Ax Ay:Int)(Ad:Bool)(Ae Af Ag:Int)(Au:Bool)(Bc Bd Be:Int)(kn:Bool->Option (AV×Bool)):Option (AV×Bool):=
 (bif(decide (Be<=v1))then(bif(!v9)then(kn true)else(oB (q4u Be Ag) fun r1=>(kn r1)))else(kn false))
def qla:=hull (qdc)
theorem qsc:qla=qdc:=qa _
def qsw:SubB Tryz.prog (TIof Tryz.prog) 39 0 (kret [(.cell 6 true 4),.t 7] qfm):=jnB Tryz.f153 5323 (.r [(13,.c qbgb.b)] [.sel [1,2,6,8,9,11,13,14,15,34] [0,1,2]]) S51_ (qdc) (fun f v K=>f (v.i 4 0) (v.b 36 0) (v.l 52 0) (v.i 56 0) (v.i 60 0) (v.b 3 0) (v.i 3 1) (v.i 3 2) (v.i 3 3) (v.b 7 0) (v.i 7 1) (v.i 7 2) (v.i 7 3) (v.b 11 0) (v.i 11 1) (v.i 11 2) (v.i 11 3) (qsb (v.i 4 0) (v.b 36 0) (v.l 52 0) (v.i 56 0) (v.i 60 0) (v.b 3 0) (v.i 3 1) (v.i 3 2) (v.i 3 3) (v.b 7 0) (v.i 7 1) (v.i 7 2) (v.i 7 3) (v.b 11 0) (v.i 11 1) (v.i 11 2) (v.i 11 3) K))
def qjg (Av:Bool)(Aw Ax Ay:Int)(K:Ex->Env->Mem->Option (AV×Bool)):=(fun z_v9 z_b1_0 z_b1_1 z_b1_2 z_b1_3=>K (.exit 0) (qi [(6,(.ptr 0 0)),(8,(.ptr 1 0)),(9,(.bool z_v9))]) (qe [(some (.box true (qj Av Aw Ax Ay))),(some (.box true (qj z_b1_0 z_b1_1 z_b1_2 z_b1_3)))]))
def qck (v1:Int)(v9:Bool)(v13:LA)(v14 v15:Int)(Av:Bool)(Aw Ax Ay:Int)(Ad:Bool)(Ae Af Ag:Int)(next:Bool->Int->Bool->Int->Int->Int->Option (AV×Bool))(kx0:Bool->Bool->Int->Int->Int->Option (AV×Bool)):Option (AV×Bool):=
 (bif(decide (v15<v14))then(oB (ixB v13 v15) fun y1=>(bif fitC qk y1.cells then(qla v1 v9 v13 v14 v15 Av Aw Ax Ay Ad Ae Af Ag (gB y1.cells 0) (gI y1.cells 1) (gI y1.cells 2) (gI y1.cells 3) (fun v34q2=>(bif v34q2 then(next true (i64.wrap (v15+1)) (gB y1.cells 0) (gI y1.cells 1) (gI y1.cells 2) (gI y1.cells 3))else(next v9 (i64.wrap (v15+1)) Ad Ae Af Ag))))else none))else(kx0 v9 Ad Ae Af Ag))
def qcl (v1:Int)(v13:LA)(v14:Int)(Av:Bool)(Aw Ax Ay:Int)(kx0:Bool->Bool->Int->Int->Int->Option (AV×Bool)):Nat->Bool->Int->Bool->Int->Int->Int->Option (AV×Bool)
 |0=>(fun _ _ _ _ _ _=>none)
 |n+1=>(fun v9 v15 Ad Ae Af Ag=>qck v1 v9 v13 v14 v15 Av Aw Ax Ay Ad Ae Af Ag (qcl v1 v13 v14 Av Aw Ax Ay kx0 n) kx0)
def qlv:=hull (qcl)
theorem qsx:qlv=qcl:=qa _
def qt8:SubB Tryz.prog (TIof Tryz.prog) 39 0 (kret [(.cell 6 true 4),.t 7] qfm):=lpB Tryz.f153 75 (.s .z (.s (.s .z (.v [.sel [6,8,9] [0,1]])) (.s (.b (.s (.r [(0,.p (.etac 17 qk))] []) (.s (.sub [.sel [1,2,6,8,9,11,13,14,15] [0,1,2]] qsw []) .z))) (.v [.sel [1,2,6,8,9,13,14,15] [0,1]])))) S52_ (qcl) (fun f v K n=>f (v.i 4 0) (v.l 52 0) (v.i 56 0) (v.b 3 0) (v.i 3 1) (v.i 3 2) (v.i 3 3) (qjg (v.b 3 0) (v.i 3 1) (v.i 3 2) (v.i 3 3) K) n) (fun v f K=>qck (v.i 4 0) (v.b 36 0) (v.l 52 0) (v.i 56 0) (v.i 60 0) (v.b 3 0) (v.i 3 1) (v.i 3 2) (v.i 3 3) (v.b 7 0) (v.i 7 1) (v.i 7 2) (v.i 7 3) f (qjg (v.b 3 0) (v.i 3 1) (v.i 3 2) (v.i 3 3) K)) (fun f v=>f (v.b 36 0) (v.i 60 0) (v.b 7 0) (v.i 7 1) (v.i 7 2) (v.i 7 3)) (fun k v=>(fun z0 z1 z2 z3 z4 z5=>k ((((((v.ub 36 0 z0).ui 60 0 z1).ub 7 0 z2).ui 7 1 z3).ui 7 2 z4).ui 7 3 z5)))
def qeb (v0:LA)(v1:Int):Option (AV×Bool):=
 (qlv v1 v0 (v0.length:Int) false 0 0 0 (fun v9q1 b1_0q2 b1_1q3 b1_2q4 b1_3q5=>(some ((.agg [(.bool b1_0q2),(.int .u64 b1_1q3),(.int .u64 b1_2q4),(.int .i64 b1_3q5)]),v9q1))) FU false 0 false 0 0 0)
def qhb:=hull qeb
theorem qvv:qhb=qeb:=qa _
def qmc {R:Type}:EntF Tryz.prog R:=entB (nt:=39) (dec:=qfm) (enc:=(fun r=>.tup [qfe (.st [.b,(.i .u64),(.i .u64),(.i .i64)]) r.1,.bool r.2])) Tryz.func153 [(.cell 6 true 4),.t 7] (hdeN fun _=>rfl) (.s .z (.s .z (.s (.s .z (.b (.sub [.sel [1,2,6,8,9,13,14,15] [0,1]] qt8 []))) .z))) S53_ qeb (fun f v=>f (v.l 0 0) (v.i 4 0))
def qnq (v0 v1:Int):Option Bool:=
 (some (decide (v0>v1)))
def q4v:=hull qnq
theorem qbc6:q4v=qnq:=qa _
def qbgc {R:Type}:EntF Tryz.prog R:=entB (nt:=8) (dec:=decB) (enc:=AV.bool) Tryz.func151 [.t 4] hdeB (.z) S50_ qnq (fun f v=>f (v.i 0 0) (v.i 4 0))
def S54_:Shp:=⟨[(1,.one (.l (.i .i64))),(2,.one (.fn 151 [])),(6,.one (.ptr 0 0)),(8,.one (.ptr 1 0)),(9,.one (.l .b)),(11,.one (.ptr 2 0)),(13,.one (.l (.sl 4))),(14,.one (.l (.i .i64))),(15,.one (.l (.i .i64)))],[.box true (lk qk),.box true (lk qk),.box true (lk qk)]⟩
def S55_:Shp:=⟨[(1,.one (.l (.i .i64))),(2,.one (.fn 151 [])),(6,.one (.ptr 0 0)),(8,.one (.ptr 1 0)),(9,.one (.l .b)),(13,.one (.l (.sl 4))),(14,.one (.l (.i .i64))),(15,.one (.l (.i .i64)))],[.box true (lk qk),.box true (lk qk)]⟩
def S56_:Shp:=⟨[(0,.one (.l (.sl 4))),(1,.one (.l (.i .i64))),(2,.one (.fn 151 []))],[]⟩
def qfn:AV->Option (AV×Bool):=decN [(.st [.b,(.i .u64),(.i .u64),(.i .i64)]),(.one .b)] fun z=>((gC (tpL z) 0),aB (gC (tpL z) 1))
def qsd (v1:Int)(v9:Bool)(v13:LA)(v14 v15:Int)(Av:Bool)(Aw Ax Ay:Int)(Ad:Bool)(Ae Af Ag:Int)(Au:Bool)(Bc Bd Be:Int)(K:Ex->Env->Mem->Option (AV×Bool)):=(fun z_v34=>K .norm (qi [(1,(.int .i64 v1)),(2,(.func 151 [])),(6,(.ptr 0 0)),(8,(.ptr 1 0)),(9,(.bool v9)),(11,(.ptr 2 0)),(13,(.sl 4 v13)),(14,(.int .i64 v14)),(15,(.int .i64 v15)),(34,(.bool z_v34))]) (qe [(some (.box true (qj Av Aw Ax Ay))),(some (.box true (qj Ad Ae Af Ag))),(some (.box true (qj Au Bc Bd Be)))]))
def qdd (v1:Int)(v9:Bool)(v13:LA)(v14 v15:Int)(Av:Bool)(Aw Ax Ay:Int)(Ad:Bool)(Ae Af Ag:Int)(Au:Bool)(Bc Bd Be:Int)(kn:Bool->Option (AV×Bool)):Option (AV×Bool):=
 (bif(decide (Be<=v1))then(bif(!v9)then(kn true)else(oB (q4v Be Ag) fun r1=>(kn r1)))else(kn false))
def qlb:=hull (qdd)
theorem qse:qlb=qdd:=qa _
def qsy:SubB Tryz.prog (TIof Tryz.prog) 39 0 (kret [(.cell 6 true 4),.t 7] qfn):=jnB Tryz.f153 5323 (.r [(13,.c qbgc.b)] [.sel [1,2,6,8,9,11,13,14,15,34] [0,1,2]]) S54_ (qdd) (fun f v K=>f (v.i 4 0) (v.b 36 0) (v.l 52 0) (v.i 56 0) (v.i 60 0) (v.b 3 0) (v.i 3 1) (v.i 3 2) (v.i 3 3) (v.b 7 0) (v.i 7 1) (v.i 7 2) (v.i 7 3) (v.b 11 0) (v.i 11 1) (v.i 11 2) (v.i 11 3) (qsd (v.i 4 0) (v.b 36 0) (v.l 52 0) (v.i 56 0) (v.i 60 0) (v.b 3 0) (v.i 3 1) (v.i 3 2) (v.i 3 3) (v.b 7 0) (v.i 7 1) (v.i 7 2) (v.i 7 3) (v.b 11 0) (v.i 11 1) (v.i 11 2) (v.i 11 3) K))
def qjh (Av:Bool)(Aw Ax Ay:Int)(K:Ex->Env->Mem->Option (AV×Bool)):=(fun z_v9 z_b1_0 z_b1_1 z_b1_2 z_b1_3=>K (.exit 0) (qi [(6,(.ptr 0 0)),(8,(.ptr 1 0)),(9,(.bool z_v9))]) (qe [(some (.box true (qj Av Aw Ax Ay))),(some (.box true (qj z_b1_0 z_b1_1 z_b1_2 z_b1_3)))]))
def qcm (v1:Int)(v9:Bool)(v13:LA)(v14 v15:Int)(Av:Bool)(Aw Ax Ay:Int)(Ad:Bool)(Ae Af Ag:Int)(next:Bool->Int->Bool->Int->Int->Int->Option (AV×Bool))(kx0:Bool->Bool->Int->Int->Int->Option (AV×Bool)):Option (AV×Bool):=
 (bif(decide (v15<v14))then(oB (ixB v13 v15) fun y1=>(bif fitC qk y1.cells then(qlb v1 v9 v13 v14 v15 Av Aw Ax Ay Ad Ae Af Ag (gB y1.cells 0) (gI y1.cells 1) (gI y1.cells 2) (gI y1.cells 3) (fun v34q2=>(bif v34q2 then(next true (i64.wrap (v15+1)) (gB y1.cells 0) (gI y1.cells 1) (gI y1.cells 2) (gI y1.cells 3))else(next v9 (i64.wrap (v15+1)) Ad Ae Af Ag))))else none))else(kx0 v9 Ad Ae Af Ag))
def qcn (v1:Int)(v13:LA)(v14:Int)(Av:Bool)(Aw Ax Ay:Int)(kx0:Bool->Bool->Int->Int->Int->Option (AV×Bool)):Nat->Bool->Int->Bool->Int->Int->Int->Option (AV×Bool)
 |0=>(fun _ _ _ _ _ _=>none)
 |n+1=>(fun v9 v15 Ad Ae Af Ag=>qcm v1 v9 v13 v14 v15 Av Aw Ax Ay Ad Ae Af Ag (qcn v1 v13 v14 Av Aw Ax Ay kx0 n) kx0)
def qlw:=hull (qcn)
theorem qsz:qlw=qcn:=qa _
def qt9:SubB Tryz.prog (TIof Tryz.prog) 39 0 (kret [(.cell 6 true 4),.t 7] qfn):=lpB Tryz.f153 75 (.s .z (.s (.s .z (.v [.sel [6,8,9] [0,1]])) (.s (.b (.s (.r [(0,.p (.etac 17 qk))] []) (.s (.sub [.sel [1,2,6,8,9,11,13,14,15] [0,1,2]] qsy []) .z))) (.v [.sel [1,2,6,8,9,13,14,15] [0,1]])))) S55_ (qcn) (fun f v K n=>f (v.i 4 0) (v.l 52 0) (v.i 56 0) (v.b 3 0) (v.i 3 1) (v.i 3 2) (v.i 3 3) (qjh (v.b 3 0) (v.i 3 1) (v.i 3 2) (v.i 3 3) K) n) (fun v f K=>qcm (v.i 4 0) (v.b 36 0) (v.l 52 0) (v.i 56 0) (v.i 60 0) (v.b 3 0) (v.i 3 1) (v.i 3 2) (v.i 3 3) (v.b 7 0) (v.i 7 1) (v.i 7 2) (v.i 7 3) f (qjh (v.b 3 0) (v.i 3 1) (v.i 3 2) (v.i 3 3) K)) (fun f v=>f (v.b 36 0) (v.i 60 0) (v.b 7 0) (v.i 7 1) (v.i 7 2) (v.i 7 3)) (fun k v=>(fun z0 z1 z2 z3 z4 z5=>k ((((((v.ub 36 0 z0).ui 60 0 z1).ub 7 0 z2).ui 7 1 z3).ui 7 2 z4).ui 7 3 z5)))
def qec (v0:LA)(v1:Int):Option (AV×Bool):=
 (qlw v1 v0 (v0.length:Int) false 0 0 0 (fun v9q1 b1_0q2 b1_1q3 b1_2q4 b1_3q5=>(some ((.agg [(.bool b1_0q2),(.int .u64 b1_1q3),(.int .u64 b1_2q4),(.int .i64 b1_3q5)]),v9q1))) FU false 0 false 0 0 0)
def qhc:=hull qec
theorem qvw:qhc=qec:=qa _
def qmd {R:Type}:EntF Tryz.prog R:=entB (nt:=39) (dec:=qfn) (enc:=(fun r=>.tup [qfe (.st [.b,(.i .u64),(.i .u64),(.i .i64)]) r.1,.bool r.2])) Tryz.func153 [(.cell 6 true 4),.t 7] (hdeN fun _=>rfl) (.s .z (.s .z (.s (.s .z (.b (.sub [.sel [1,2,6,8,9,13,14,15] [0,1]] qt9 []))) .z))) S56_ qec (fun f v=>f (v.l 0 0) (v.i 4 0))
def qnr (v0 v1:Int):Option Bool:=
 (some false)
def q4w:=hull qnr
theorem qbc7:q4w=qnr:=qa _
def qbgd {R:Type}:EntF Tryz.prog R:=entB (nt:=5) (dec:=decB) (enc:=AV.bool) Tryz.func150 [.t 4] hdeB (.z) S50_ qnr (fun f v=>f (v.i 0 0) (v.i 4 0))
def S57_:Shp:=⟨[(1,.one (.l (.i .i64))),(2,.one (.fn 150 [])),(6,.one (.ptr 0 0)),(8,.one (.ptr 1 0)),(9,.one (.l .b)),(11,.one (.ptr 2 0)),(13,.one (.l (.sl 4))),(14,.one (.l (.i .i64))),(15,.one (.l (.i .i64)))],[.box true (lk qk),.box true (lk qk),.box true (lk qk)]⟩
def S58_:Shp:=⟨[(1,.one (.l (.i .i64))),(2,.one (.fn 150 [])),(6,.one (.ptr 0 0)),(8,.one (.ptr 1 0)),(9,.one (.l .b)),(13,.one (.l (.sl 4))),(14,.one (.l (.i .i64))),(15,.one (.l (.i .i64)))],[.box true (lk qk),.box true (lk qk)]⟩
def S59_:Shp:=⟨[(0,.one (.l (.sl 4))),(1,.one (.l (.i .i64))),(2,.one (.fn 150 []))],[]⟩
def qfo:AV->Option (AV×Bool):=decN [(.st [.b,(.i .u64),(.i .u64),(.i .i64)]),(.one .b)] fun z=>((gC (tpL z) 0),aB (gC (tpL z) 1))
def qsf (v1:Int)(v9:Bool)(v13:LA)(v14 v15:Int)(Av:Bool)(Aw Ax Ay:Int)(Ad:Bool)(Ae Af Ag:Int)(Au:Bool)(Bc Bd Be:Int)(K:Ex->Env->Mem->Option (AV×Bool)):=(fun z_v34=>K .norm (qi [(1,(.int .i64 v1)),(2,(.func 150 [])),(6,(.ptr 0 0)),(8,(.ptr 1 0)),(9,(.bool v9)),(11,(.ptr 2 0)),(13,(.sl 4 v13)),(14,(.int .i64 v14)),(15,(.int .i64 v15)),(34,(.bool z_v34))]) (qe [(some (.box true (qj Av Aw Ax Ay))),(some (.box true (qj Ad Ae Af Ag))),(some (.box true (qj Au Bc Bd Be)))]))
def qde (v1:Int)(v9:Bool)(v13:LA)(v14 v15:Int)(Av:Bool)(Aw Ax Ay:Int)(Ad:Bool)(Ae Af Ag:Int)(Au:Bool)(Bc Bd Be:Int)(kn:Bool->Option (AV×Bool)):Option (AV×Bool):=
 (bif(decide (Be<=v1))then(bif(!v9)then(kn true)else(oB (q4w Be Ag) fun r1=>(kn r1)))else(kn false))
def qlc:=hull (qde)
theorem qsg:qlc=qde:=qa _
def qs0:SubB Tryz.prog (TIof Tryz.prog) 39 0 (kret [(.cell 6 true 4),.t 7] qfo):=jnB Tryz.f153 5323 (.r [(13,.c qbgd.b)] [.sel [1,2,6,8,9,11,13,14,15,34] [0,1,2]]) S57_ (qde) (fun f v K=>f (v.i 4 0) (v.b 36 0) (v.l 52 0) (v.i 56 0) (v.i 60 0) (v.b 3 0) (v.i 3 1) (v.i 3 2) (v.i 3 3) (v.b 7 0) (v.i 7 1) (v.i 7 2) (v.i 7 3) (v.b 11 0) (v.i 11 1) (v.i 11 2) (v.i 11 3) (qsf (v.i 4 0) (v.b 36 0) (v.l 52 0) (v.i 56 0) (v.i 60 0) (v.b 3 0) (v.i 3 1) (v.i 3 2) (v.i 3 3) (v.b 7 0) (v.i 7 1) (v.i 7 2) (v.i 7 3) (v.b 11 0) (v.i 11 1) (v.i 11 2) (v.i 11 3) K))
def qji (Av:Bool)(Aw Ax Ay:Int)(K:Ex->Env->Mem->Option (AV×Bool)):=(fun z_v9 z_b1_0 z_b1_1 z_b1_2 z_b1_3=>K (.exit 0) (qi [(6,(.ptr 0 0)),(8,(.ptr 1 0)),(9,(.bool z_v9))]) (qe [(some (.box true (qj Av Aw Ax Ay))),(some (.box true (qj z_b1_0 z_b1_1 z_b1_2 z_b1_3)))]))
def qco (v1:Int)(v9:Bool)(v13:LA)(v14 v15:Int)(Av:Bool)(Aw Ax Ay:Int)(Ad:Bool)(Ae Af Ag:Int)(next:Bool->Int->Bool->Int->Int->Int->Option (AV×Bool))(kx0:Bool->Bool->Int->Int->Int->Option (AV×Bool)):Option (AV×Bool):=
 (bif(decide (v15<v14))then(oB (ixB v13 v15) fun y1=>(bif fitC qk y1.cells then(qlc v1 v9 v13 v14 v15 Av Aw Ax Ay Ad Ae Af Ag (gB y1.cells 0) (gI y1.cells 1) (gI y1.cells 2) (gI y1.cells 3) (fun v34q2=>(bif v34q2 then(next true (i64.wrap (v15+1)) (gB y1.cells 0) (gI y1.cells 1) (gI y1.cells 2) (gI y1.cells 3))else(next v9 (i64.wrap (v15+1)) Ad Ae Af Ag))))else none))else(kx0 v9 Ad Ae Af Ag))
def qcp (v1:Int)(v13:LA)(v14:Int)(Av:Bool)(Aw Ax Ay:Int)(kx0:Bool->Bool->Int->Int->Int->Option (AV×Bool)):Nat->Bool->Int->Bool->Int->Int->Int->Option (AV×Bool)
 |0=>(fun _ _ _ _ _ _=>none)
 |n+1=>(fun v9 v15 Ad Ae Af Ag=>qco v1 v9 v13 v14 v15 Av Aw Ax Ay Ad Ae Af Ag (qcp v1 v13 v14 Av Aw Ax Ay kx0 n) kx0)
def qlx:=hull (qcp)
theorem qs1:qlx=qcp:=qa _
def qua:SubB Tryz.prog (TIof Tryz.prog) 39 0 (kret [(.cell 6 true 4),.t 7] qfo):=lpB Tryz.f153 75 (.s .z (.s (.s .z (.v [.sel [6,8,9] [0,1]])) (.s (.b (.s (.r [(0,.p (.etac 17 qk))] []) (.s (.sub [.sel [1,2,6,8,9,11,13,14,15] [0,1,2]] qs0 []) .z))) (.v [.sel [1,2,6,8,9,13,14,15] [0,1]])))) S58_ (qcp) (fun f v K n=>f (v.i 4 0) (v.l 52 0) (v.i 56 0) (v.b 3 0) (v.i 3 1) (v.i 3 2) (v.i 3 3) (qji (v.b 3 0) (v.i 3 1) (v.i 3 2) (v.i 3 3) K) n) (fun v f K=>qco (v.i 4 0) (v.b 36 0) (v.l 52 0) (v.i 56 0) (v.i 60 0) (v.b 3 0) (v.i 3 1) (v.i 3 2) (v.i 3 3) (v.b 7 0) (v.i 7 1) (v.i 7 2) (v.i 7 3) f (qji (v.b 3 0) (v.i 3 1) (v.i 3 2) (v.i 3 3) K)) (fun f v=>f (v.b 36 0) (v.i 60 0) (v.b 7 0) (v.i 7 1) (v.i 7 2) (v.i 7 3)) (fun k v=>(fun z0 z1 z2 z3 z4 z5=>k ((((((v.ub 36 0 z0).ui 60 0 z1).ub 7 0 z2).ui 7 1 z3).ui 7 2 z4).ui 7 3 z5)))
def qed (v0:LA)(v1:Int):Option (AV×Bool):=
 (qlx v1 v0 (v0.length:Int) false 0 0 0 (fun v9q1 b1_0q2 b1_1q3 b1_2q4 b1_3q5=>(some ((.agg [(.bool b1_0q2),(.int .u64 b1_1q3),(.int .u64 b1_2q4),(.int .i64 b1_3q5)]),v9q1))) FU false 0 false 0 0 0)
def qhd:=hull qed
theorem qvx:qhd=qed:=qa _
def qme {R:Type}:EntF Tryz.prog R:=entB (nt:=39) (dec:=qfo) (enc:=(fun r=>.tup [qfe (.st [.b,(.i .u64),(.i .u64),(.i .i64)]) r.1,.bool r.2])) Tryz.func153 [(.cell 6 true 4),.t 7] (hdeN fun _=>rfl) (.s .z (.s .z (.s (.s .z (.b (.sub [.sel [1,2,6,8,9,13,14,15] [0,1]] qua []))) .z))) S59_ qed (fun f v=>f (v.l 0 0) (v.i 4 0))
def q7o {R:Type}:List AV->(AV->Option R)->Option R:=(fun xs K=>bif fnAt xs 2 152 then qmc.e xs K else(fun xs K=>bif fnAt xs 2 151 then qmd.e xs K else qme.e xs K) xs K)
theorem qba2 {R:Type}:qi0 Tryz.prog 153 (q7o (R:=R)):=(qbzt (fun xs=>fnAt xs 2 152) qmc.h (qbzt (fun xs=>fnAt xs 2 151) qmd.h qme.h))
def S60_:Shp:=⟨[(0,.one (.l (.sl 8))),(1,.st (lk qk)),(2,.one (.l (.i .i64))),(3,.one (.l (.i .i64)))],[]⟩
def qbge:AV->Option (AV×Int):=decN [(.st [.b,(.i .u64),(.i .u64),(.i .i64)]),(.one (.i .i64))] fun z=>((gC (tpL z) 0),aI (gC (tpL z) 1))
def qpr (v0:LA)(B7:Bool)(B8 B9 Ca v2 v3:Int):Option (AV×Int):=
 (oB (qso v0 B7 B8 B9 Ca) fun r1=>(bif(!r1.2)then(some ((.agg [(.bool false),(.int .u64 0),(.int .u64 0),(.int .i64 0)]),11))else(bif((gI r1.1.cells 4) != 1)then(some ((.agg [(.bool false),(.int .u64 0),(.int .u64 0),(.int .i64 0)]),21))else(bif(decide (v2<Ca))then(some ((.agg [(.bool false),(.int .u64 0),(.int .u64 0),(.int .i64 0)]),1))else(oB (qz6 B7 B8 B9 Ca) fun r2=>(bif(((decide (v2>r2))||(decide (v3<1)))||(decide (v3>3)))then(some ((.agg [(.bool false),(.int .u64 0),(.int .u64 0),(.int .i64 0)]),1))else(oB (q2y v0 B7 B8 B9 Ca) fun r6=>(bif((v3==1)&&true)then(oB (qhd r6 v2) fun r9=>(bif(!r9.2)then(some ((.agg [(.bool false),(.int .u64 0),(.int .u64 0),(.int .i64 0)]),22))else(bif((v3==3)&&(decide ((gI r9.1.cells 3)<v2)))then(oB (ql4 (gB r9.1.cells 0) (gI r9.1.cells 1) (gI r9.1.cells 2) (gI r9.1.cells 3)) fun r16=>(oB (qe4 (gB r16.2.1.cells 0) (gI r16.2.1.cells 1) (gI r16.2.1.cells 2) (gI r16.2.1.cells 3) v2 0) fun r17=>(some ((.agg [(.bool (gB r17.1.cells 0)),(.int .u64 (gI r17.1.cells 1)),(.int .u64 (gI r17.1.cells 2)),(.int .i64 (gI r17.1.cells 3))]),0))))else(oB (qe4 (gB r9.1.cells 0) (gI r9.1.cells 1) (gI r9.1.cells 2) (gI r9.1.cells 3) v2 0) fun r18=>(some ((.agg [(.bool (gB r18.1.cells 0)),(.int .u64 (gI r18.1.cells 1)),(.int .u64 (gI r18.1.cells 2)),(.int .i64 (gI r18.1.cells 3))]),0))))))else(bif((v3==2)&&true)then(oB (qhc r6 v2) fun r8=>(bif(!r8.2)then(some ((.agg [(.bool false),(.int .u64 0),(.int .u64 0),(.int .i64 0)]),22))else(bif((v3==3)&&(decide ((gI r8.1.cells 3)<v2)))then(oB (ql4 (gB r8.1.cells 0) (gI r8.1.cells 1) (gI r8.1.cells 2) (gI r8.1.cells 3)) fun r13=>(oB (qe4 (gB r13.2.1.cells 0) (gI r13.2.1.cells 1) (gI r13.2.1.cells 2) (gI r13.2.1.cells 3) v2 0) fun r14=>(some ((.agg [(.bool (gB r14.1.cells 0)),(.int .u64 (gI r14.1.cells 1)),(.int .u64 (gI r14.1.cells 2)),(.int .i64 (gI r14.1.cells 3))]),0))))else(oB (qe4 (gB r8.1.cells 0) (gI r8.1.cells 1) (gI r8.1.cells 2) (gI r8.1.cells 3) v2 0) fun r15=>(some ((.agg [(.bool (gB r15.1.cells 0)),(.int .u64 (gI r15.1.cells 1)),(.int .u64 (gI r15.1.cells 2)),(.int .i64 (gI r15.1.cells 3))]),0))))))else(bif((v3==3)&&true)then(oB (qhb r6 v2) fun r7=>(bif(!r7.2)then(some ((.agg [(.bool false),(.int .u64 0),(.int .u64 0),(.int .i64 0)]),22))else(bif((v3==3)&&(decide ((gI r7.1.cells 3)<v2)))then(oB (ql4 (gB r7.1.cells 0) (gI r7.1.cells 1) (gI r7.1.cells 2) (gI r7.1.cells 3)) fun r10=>(oB (qe4 (gB r10.2.1.cells 0) (gI r10.2.1.cells 1) (gI r10.2.1.cells 2) (gI r10.2.1.cells 3) v2 0) fun r11=>(some ((.agg [(.bool (gB r11.1.cells 0)),(.int .u64 (gI r11.1.cells 1)),(.int .u64 (gI r11.1.cells 2)),(.int .i64 (gI r11.1.cells 3))]),0))))else(oB (qe4 (gB r7.1.cells 0) (gI r7.1.cells 1) (gI r7.1.cells 2) (gI r7.1.cells 3) v2 0) fun r12=>(some ((.agg [(.bool (gB r12.1.cells 0)),(.int .u64 (gI r12.1.cells 1)),(.int .u64 (gI r12.1.cells 2)),(.int .i64 (gI r12.1.cells 3))]),0))))))else none))))))))))
def q0a:=hull qpr
theorem qbh6:q0a=qpr:=qa _
def qblr {R:Type}:EntF Tryz.prog R:=entB (nt:=86) (dec:=qbge) (enc:=(fun r=>.tup [qfe (.st [.b,(.i .u64),(.i .u64),(.i .i64)]) r.1,.int .i64 r.2])) Tryz.func98 [(.cell 8 true 4),.t 9] (hdeN fun _=>rfl) (.s .z (.s (.r [(2,.c qx2.b)] []) (.s (.b (.s .z (.s .z (.s .z (.s .z (.s (.r [(7,.c qblj.b),(11,.g 2),(15,.g 2)] []) .z)))))) (.s .z (.s (.d [] [(2,.c qbvf.b),(7,.c (eB qba2))] [] []) (.s .z (.s (.s (.r [(3,.g 4)] []) (.s (.r [(1,.c qz7.b)] []) .z)) (.s (.r [(2,.c q4g.b)] []) .z)))))))) S60_ qpr (fun f v=>f (v.l 0 0) (v.b 5 0) (v.i 5 1) (v.i 5 2) (v.i 5 3) (v.i 8 0) (v.i 12 0))
def S61_:Shp:=⟨[(0,.one (.l (.sl 8))),(1,.st (lk qk)),(2,.one (.l (.i .i64))),(3,.one (.l (.i .i64))),(4,.one (.l .s)),(5,.one (.l .s))],[]⟩
def qba3:AV->Option ((List AV)×AV×Int):=decN [(.one (.sl 8)),(.st [.b,(.i .u64),(.i .u64),(.i .i64)]),(.one (.i .i64))] fun z=>(aL (gC (tpL z) 0),(gC (tpL z) 1),aI (gC (tpL z) 2))
def qns (v0:LA)(B7:Bool)(B8 B9 Ca v2 v3:Int)(v4 v5:LU):Option ((List AV)×AV×Int):=
 (oB (q0a v0 B7 B8 B9 Ca v2 v3) fun r1=>(bif(r1.2 != 0)then(some (([]:List AV),(.agg [(.bool false),(.int .u64 0),(.int .u64 0),(.int .i64 0)]),r1.2))else(oB (q46 v0 (gB r1.1.cells 0) (gI r1.1.cells 1) (gI r1.1.cells 2) (gI r1.1.cells 3) 2 v4 v5 0) fun r2=>(bif(r2.2 != 0)then(some (([]:List AV),(.agg [(.bool false),(.int .u64 0),(.int .u64 0),(.int .i64 0)]),r2.2))else(some (r2.1,(.agg [(.bool (gB r1.1.cells 0)),(.int .u64 (gI r1.1.cells 1)),(.int .u64 (gI r1.1.cells 2)),(.int .i64 (gI r1.1.cells 3))]),0))))))
def qps:=hull qns
theorem qbc8:qps=qns:=qa _
def q1l {R:Type}:EntF Tryz.prog R:=entB (nt:=45) (dec:=qba3) (enc:=(fun r=>.tup [.sl 8 r.1,qfe (.st [.b,(.i .u64),(.i .u64),(.i .i64)]) r.2.1,.int .i64 r.2.2])) Tryz.func42 [.t 12,(.cell 13 true 4),.t 14] (hdeN fun _=>rfl) (.s .z (.s (.r [(4,.c qblr.b)] []) (.s (.s .z (.s (.s .z (.v [.eta 12 (.one (.sl 8))])) .z)) (.s (.r [(5,.k qbhv.b)] []) (.s (.s .z (.s (.s .z (.v [.eta 12 (.one (.sl 8))])) .z)) .z))))) S61_ qns (fun f v=>f (v.l 0 0) (v.b 5 0) (v.i 5 1) (v.i 5 2) (v.i 5 3) (v.i 8 0) (v.i 12 0) (v.s 16 0) (v.s 20 0))
def S62_:Shp:=⟨[(0,.one (.l .s)),(1,.one (.l .s))],[]⟩
def qju (v0 v1:LU):Option Bool:=
 (bif(decide ((v0.length:Int)>=(v1.length:Int)))then(oB (cutI v0 (some (i64.wrap ((v0.length:Int)-(v1.length:Int)))) none) fun s1=>(some (s1==v1)))else(some false))
def qy8:=hull qju
theorem q58:qy8=qju:=qa _
def q7p {R:Type}:EntF Tryz.prog R:=entB (nt:=21) (dec:=decB) (enc:=AV.bool) Tryz.func168 [.t 4] hdeB (.z) S62_ qju (fun f v=>f (v.s 0 0) (v.s 4 0))
def qnt (v0 v1:LU):Option Bool:=
 (oB (qy8 v0 v1) fun r1=>(some r1))
def qpt:=hull qnt
theorem qbc9:qpt=qnt:=qa _
def q1m {R:Type}:EntF Tryz.prog R:=entB (nt:=8) (dec:=decB) (enc:=AV.bool) Tryz.func113 [.t 4] hdeB (.s .z (.s (.r [(2,.c q7p.b)] []) .z)) S62_ qnt (fun f v=>f (v.s 0 0) (v.s 4 0))
theorem qbv8 {R:Type}:qm6 Tryz.prog 195 (q2n (R:=R)):=qby6 Tryz.func195 (by kernel_rfl) (by kernel_rfl) (by kernel_rfl) (by kernel_rfl)
theorem qbv9 {R:Type}:qm6 Tryz.prog 203 (q2o (R:=R)):=qby7 Tryz.func203 (by kernel_rfl) (by kernel_rfl) (by kernel_rfl) (by kernel_rfl)
def S63_:Shp:=⟨[(0,.one (.l .s)),(1,.one (.l (.i .u8)))],[]⟩
def qjv (v0:LU)(v1:Int):Option Int:=
 (oB (q5i v0 v1) fun r1=>(some r1))
def qy9:=hull qjv
theorem q59:qy9=qjv:=qa _
def q7q {R:Type}:EntF Tryz.prog R:=entB (nt:=8) (dec:=(decI .i64)) (enc:=(AV.int .i64)) Tryz.func199 [.t 4] hdeI (.s .z (.s (.r [(2,.c (eK qbv9))] []) .z)) S63_ qjv (fun f v=>f (v.s 0 0) (v.i 4 0))
def qnu (v0 v1:LU):Option Int:=
 (bif(((v1.length:Int)==0)||(v1==v0))then(some 0)else(bif((v1.length:Int)==1)then(oB (ixB v1 0) fun c1=>(oB (qy9 v0 (c1.toNat:Int)) fun r2=>(some r2)))else(bif(decide ((v1.length:Int)>=(v0.length:Int)))then(some (-1))else none)))
def q4x:=hull qnu
theorem qbda:q4x=qnu:=qa _
def qbgf {R:Type}:EntF Tryz.prog R:=entB (nt:=143) (dec:=(decI .i64)) (enc:=(AV.int .i64)) Tryz.func196 [.t 4] hdeI (.s .z (.s .z (.s (.b (.s (.r [(3,.g 3)] []) (.s .z (.s .z (.s (.s (.r [(3,.c q7q.b)] []) .z) .z))))) (.s .z (.s .z (.s .z (.s .z (.s .z (.s (.b .x) .z))))))))) S62_ qnu (fun f v=>f (v.s 0 0) (v.s 4 0))
def qtl (v0 v1:LU):Option Int:=
 (oB (q4x v0 v1) fun r1=>(some r1))
def qx5:=hull qtl
theorem qbnu:qx5=qtl:=qa _
def q8k {R:Type}:EntF Tryz.prog R:=entB (nt:=8) (dec:=(decI .i64)) (enc:=(AV.int .i64)) Tryz.func187 [.t 4] hdeI (.s .z (.s (.r [(2,.c qbgf.b)] []) .z)) S62_ qtl (fun f v=>f (v.s 0 0) (v.s 4 0))
def S64_:Shp:=⟨[(0,.one (.l .s)),(1,.one (.l .s)),(5,.one (.l (.i .i64)))],[]⟩
def q1n (v0 v1:LU)(v5:Int)(next:(List UInt8)->Int->Option Int):Option Int:=
 (oB (qx5 v0 v1) fun r1=>(bif(r1==(-1))then(some v5)else(oB (cutI v0 (some (i64.wrap (r1+(v1.length:Int)))) none) fun s2=>(next s2 (i64.wrap (v5+1))))))
def qs2 (v1:LU):Nat->(List UInt8)->Int->Option Int
 |0=>(fun _ _=>none)
 |n+1=>(fun v0 v5=>q1n v0 v1 v5 (qs2 v1 n))
def qbls:=hull (qs2)
def qbgg:SubB Tryz.prog (TIof Tryz.prog) 34 0 (kret [.t 4] (decI .i64)):=lpB Tryz.f186 79 (.b (.s (.r [(2,.c q8k.b)] []) (.s .z (.s .z (.v [.sel [0,1,5] []]))))) S64_ (qs2) (fun f v K n=>f (v.s 4 0) n) (fun v f K=>q1n (v.s 0 0) (v.s 4 0) (v.i 20 0) f) (fun f v=>f (v.s 0 0) (v.i 20 0)) (fun k v=>(fun z0 z1=>k ((v.us 0 0 z0).ui 20 0 z1)))
def qtm (v0 v1:LU):Option Int:=
 (bif((v1.length:Int)==0)then none else(bif((v1.length:Int)==1)then(oB (ixB v1 0) fun c1=>(oB (q5h v0 (c1.toNat:Int)) fun r2=>(some r2)))else(qbls v1 FU v0 0)))
def q4h:=hull qtm
theorem qbnv:q4h=qtm:=qa _
def qbpm {R:Type}:EntF Tryz.prog R:=entB (nt:=34) (dec:=(decI .i64)) (enc:=(AV.int .i64)) Tryz.func186 [.t 4] hdeI (.s .z (.s (.s .z (.s (.s (.r [(1,.c (eK (qb2s (f:=193))))] []) .z) .z)) (.s (.s .z (.s (.s (.r [(3,.c (eK qbv8))] []) .z) .z)) (.s .z (.b (.sub [.sel [0,1,5] []] qbgg [])))))) S62_ qtm (fun f v=>f (v.s 0 0) (v.s 4 0))
def S65_:Shp:=⟨[(0,.one (.l .s)),(1,.one (.l .s)),(2,.one (.l (.i .i64))),(3,.one (.l (.i .i64)))],[]⟩
def S66_:Shp:=⟨[(0,.one (.l .s)),(1,.one (.l .s)),(2,.one (.l (.i .i64))),(3,.one (.l (.i .i64))),(9,.one (.own 0)),(10,.one (.l (.i .i64)))],[.arr true 1]⟩
def q7r (v0 v1:LU)(v2:Int)(K:Ex->Env->Mem->Option (List AV)):=(fun z_v3=>K .norm (qi [(0,(.str v0)),(1,(.str v1)),(2,(.int .i64 v2)),(3,(.int .i64 z_v3))]) (qe []))
def qkv (v0 v1:LU)(v2 v3:Int)(kn:Int->Option (List AV)):Option (List AV):=
 (bif(decide (v3<0))then(oB (q4h v0 v1) fun r1=>(kn (i64.wrap (r1+1))))else(kn v3))
def q0b:=hull (qkv)
theorem q7s:q0b=qkv:=qa _
def q9u:SubB Tryz.prog (TIof Tryz.prog) 66 0 (kret [.t 8] (decX (.one (.sl 1)) fun z=>aL z)):=jnB Tryz.f169 23 (.s .z (.s (.r [(2,.c qbpm.b)] [.sel [0,1,2,3] []]) (.v [.sel [0,1,2,3] []]))) S65_ (qkv) (fun f v K=>f (v.s 0 0) (v.s 4 0) (v.i 8 0) (v.i 12 0) (q7r (v.s 0 0) (v.s 4 0) (v.i 8 0) K))
def qui (K:Ex->Env->Mem->Option (List AV)):=(fun z_v0 z_v10 z_a0=>K (.exit 0) (qi [(0,(.str z_v0)),(9,(.own 0 z_a0.length)),(10,(.int .i64 z_v10))]) (qe [(some (.arr true 1 z_a0))]))
def qgk (v0 v1:LU)(v2 v3 v10:Int)(a0:LA)(next:(List UInt8)->Int->(List AV)->Option (List AV))(kx0:(List UInt8)->Int->(List AV)->Option (List AV)):Option (List AV):=
 (bif(decide (v10<v3))then(oB (qx5 v0 v1) fun r1=>(bif(decide (r1<0))then(kx0 v0 v10 a0)else(oB (cutI v0 none (some (i64.wrap (r1+v2)))) fun s2=>(bif hd a0 a0.length then(bif decide (0<=v10/\v10<a0.length)then(bif hd a0 a0.length then(oB (a0[v10.toNat]?) fun y3=>(oB (putE y3 0 1 [(.str s2)]) fun z4=>(oB (cutI v0 (some (i64.wrap (r1+(v1.length:Int)))) none) fun s5=>(bif hd (a0.set v10.toNat z4) a0.length then(next s5 (i64.wrap (v10+1)) (a0.set v10.toNat z4))else none))))else none)else none)else none))))else(kx0 v0 v10 a0))
def qd1 (v1:LU)(v2 v3:Int)(kx0:(List UInt8)->Int->(List AV)->Option (List AV)):Nat->(List UInt8)->Int->(List AV)->Option (List AV)
 |0=>(fun _ _ _=>none)
 |n+1=>(fun v0 v10 a0=>qgk v0 v1 v2 v3 v10 a0 (qd1 v1 v2 v3 kx0 n) kx0)
def q0c:=hull (qd1)
theorem q7t:q0c=qd1:=qa _
def q9v:SubB Tryz.prog (TIof Tryz.prog) 66 0 (kret [.t 8] (decX (.one (.sl 1)) fun z=>aL z)):=lpB Tryz.f169 2303 (.s (.s .z (.s .z (.v [.sel [0,9,10] [0]]))) (.b (.s (.r [(2,.c q8k.b)] []) (.s (.s .z (.s (.v [.sel [0,9,10] [0]]) .z)) (.s .z (.s .z (.v [.hd 9,.sel [0,1,2,3,9,10] [0]]))))))) S66_ (qd1) (fun f v K n=>f (v.s 4 0) (v.i 8 0) (v.i 12 0) (qui K) n) (fun v f K=>qgk (v.s 0 0) (v.s 4 0) (v.i 8 0) (v.i 12 0) (v.i 40 0) (v.r 0) f (qui K)) (fun f v=>f (v.s 0 0) (v.i 40 0) (v.r 0)) (fun k v=>(fun z0 z1 z2=>k (((v.us 0 0 z0).ui 40 0 z1).ur 0 z2)))
def qoh (v0 v1:LU)(v2 v3:Int):Option (List AV):=
 (bif(v3==0)then(some ([]:List AV))else(bif(v1==([]:List UInt8))then none else(q0b v0 v1 v2 v3 (fun v3q1=>(bif decide (0<=(if(i64.wrap ((v0.length:Int)+1))<v3q1 then(i64.wrap ((v0.length:Int)+1))else v3q1)/\(if(i64.wrap ((v0.length:Int)+1))<v3q1 then(i64.wrap ((v0.length:Int)+1))else v3q1)<=(if(i64.wrap ((v0.length:Int)+1))<v3q1 then(i64.wrap ((v0.length:Int)+1))else v3q1)/\(if(i64.wrap ((v0.length:Int)+1))<v3q1 then(i64.wrap ((v0.length:Int)+1))else v3q1)*16<=281474976710656)then(bif(hd (List.replicate (if(i64.wrap ((v0.length:Int)+1))<v3q1 then(i64.wrap ((v0.length:Int)+1))else v3q1).toNat ((.str ([]:List UInt8)):AV)) ((List.replicate (if(i64.wrap ((v0.length:Int)+1))<v3q1 then(i64.wrap ((v0.length:Int)+1))else v3q1).toNat ((.str ([]:List UInt8)):AV)).length)&&true)then(q0c v1 v2 (i64.wrap ((if(i64.wrap ((v0.length:Int)+1))<v3q1 then(i64.wrap ((v0.length:Int)+1))else v3q1)-1)) (fun v0q2 v10q3 a0q4=>(bif hd a0q4 a0q4.length then(bif decide (0<=v10q3/\v10q3<a0q4.length)then(bif hd a0q4 a0q4.length then(oB (a0q4[v10q3.toNat]?) fun y5=>(oB (putE y5 0 1 [(.str v0q2)]) fun z6=>(bif hd (a0q4.set v10q3.toNat z6) a0q4.length then(oB (cutI (a0q4.set v10q3.toNat z6) none (some (i64.wrap (v10q3+1)))) fun s7=>(some s7))else none)))else none)else none)else none)) FU v0 0 (List.replicate (if(i64.wrap ((v0.length:Int)+1))<v3q1 then(i64.wrap ((v0.length:Int)+1))else v3q1).toNat ((.str ([]:List UInt8)):AV)))else none)else none)))))
def q6a:=hull qoh
theorem qbgh:q6a=qoh:=qa _
def qbh7 {R:Type}:EntF Tryz.prog R:=entB (nt:=66) (dec:=(decX (.one (.sl 1)) fun z=>aL z)) (enc:=(fun r=>.sl 1 r)) Tryz.func169 [.t 8] (hdeX fun _=>rfl) (.s .z (.s (.s .z (.s (.s .z (.v [.eta 8 (.one (.sl 1))])) .z)) (.s (.s .z (.s (.s (.r [(2,.c (eK (qb2s (f:=185))))] []) .z) .z)) (.s (.sub [.sel [0,1,2,3] []] q9u []) (.s .z (.s .z (.s .z (.s .z (.s (.b (.sub [.sel [0,1,2,3,9,10] [0]] q9v [])) .z))))))))) S65_ qoh (fun f v=>f (v.s 0 0) (v.s 4 0) (v.i 8 0) (v.i 12 0))
def qtn (v0 v1:LU):Option (List AV):=
 (oB (q6a v0 v1 0 (-1)) fun r1=>(some r1))
def qx6:=hull qtn
theorem qbnw:qx6=qtn:=qa _
def q8l {R:Type}:EntF Tryz.prog R:=entB (nt:=8) (dec:=(decX (.one (.sl 1)) fun z=>aL z)) (enc:=(fun r=>.sl 1 r)) Tryz.func114 [.t 4] (hdeX fun _=>rfl) (.s .z (.s (.r [(2,.k qbh7.b)] []) .z)) S62_ qtn (fun f v=>f (v.s 0 0) (v.s 4 0))
def S67_:Shp:=⟨[(0,.one (.l .s)),(4,.one (.l (.i .u8))),(13,.one (.l (.i .i64))),(14,.one (.l (.i .i64)))],[]⟩
def S68_:Shp:=⟨[(0,.one (.l .s)),(13,.one (.l (.i .i64))),(14,.one (.l (.i .i64)))],[]⟩
def S69_:Shp:=⟨[(0,.one (.l .s))],[]⟩
def qba4 (v0:LU)(v13 v14:Int)(K:Ex->Env->Mem->Option Bool):=(fun z_v41=>K .norm (qi [(0,(.str v0)),(13,(.int .i64 v13)),(14,(.int .i64 v14)),(41,(.bool z_v41))]) (qe []))
def qmp (v0:LU)(v4 v13 v14:Int)(kn:Bool->Option Bool):Option Bool:=
 (bif((decide (v4<97))||(decide (v4>122)))then(bif(decide (v4<48))then(kn ((v4 != 45)&&(v4 != 95)))else(kn (((decide (v4>57))&&(v4 != 45))&&(v4 != 95))))else(kn false))
def quj:=hull (qmp)
theorem qba5:quj=qmp:=qa _
def qbdb:SubB Tryz.prog (TIof Tryz.prog) 43 0 (kret [.t 2] decB):=jnB Tryz.f115 11467 (.r [(3,.g 2),(15,.g 2),(19,.g 2)] [.sel [0,13,14,41] []]) S67_ (qmp) (fun f v K=>f (v.s 0 0) (v.i 16 0) (v.i 52 0) (v.i 56 0) (qba4 (v.s 0 0) (v.i 52 0) (v.i 56 0) K))
def qxa (K:Ex->Env->Mem->Option Bool):=(fun(_:Unit)=>K (.exit 0) (qi []) (qe []))
def qh8 (v0:LU)(v13 v14:Int)(next:Int->Option Bool)(kx0:Unit->Option Bool):Option Bool:=
 (bif(decide (v14<v13))then(oB (ixB v0 v14) fun c1=>(quj v0 (c1.toNat:Int) v13 v14 (fun v41q2=>(bif v41q2 then(some false)else(next (i64.wrap (v14+1)))))))else(kx0 ()))
def qh9 (v0:LU)(v13:Int)(kx0:Unit->Option Bool):Nat->Int->Option Bool
 |0=>(fun _=>none)
 |n+1=>(fun v14=>qh8 v0 v13 v14 (qh9 v0 v13 kx0 n) kx0)
def q3g:=hull (qh9)
theorem qba6:q3g=qh9:=qa _
def qbdc:SubB Tryz.prog (TIof Tryz.prog) 43 0 (kret [.t 2] decB):=lpB Tryz.f115 75 (.s .z (.s (.s .z (.v [.sel [] []])) (.s (.b (.s .z (.s .z (.s (.sub [.sel [0,4,13,14] []] qbdb []) .z)))) (.v [.sel [0,13,14] []])))) S68_ (qh9) (fun f v K n=>f (v.s 0 0) (v.i 52 0) (qxa K) n) (fun v f K=>qh8 (v.s 0 0) (v.i 52 0) (v.i 56 0) f (qxa K)) (fun f v=>f (v.i 56 0)) (fun k v=>(fun z0=>k (v.ui 56 0 z0)))
def qq5 (v0:LU):Option Bool:=
 (bif((v0==([]:List UInt8))||(decide ((v0.length:Int)>63)))then(some false)else(q3g v0 (v0.length:Int) (fun(_:Unit)=>(some true)) FU 0))
def q1y:=hull qq5
theorem qblt:q1y=qq5:=qa _
def qbnx {R:Type}:EntF Tryz.prog R:=entB (nt:=43) (dec:=decB) (enc:=AV.bool) Tryz.func115 [.t 2] hdeB (.s .z (.s (.s (.r [(3,.g 3)] []) .z) (.s (.s .z (.b (.sub [.sel [0,13,14] []] qbdc []))) .z))) S69_ qq5 (fun f v=>f (v.s 0 0))
def S70_:Shp:=⟨[(3,.one (.l (.i .i64))),(4,.one (.l .s)),(20,.one (.l (.sl 1))),(21,.one (.l (.i .i64))),(22,.one (.l (.i .i64)))],[]⟩
def S71_:Shp:=⟨[(20,.one (.l (.sl 1))),(21,.one (.l (.i .i64))),(22,.one (.l (.i .i64)))],[]⟩
def qbh8 (v0:LU)(K:Ex->Env->Mem->Option Bool):=(fun z_v14=>K .norm (qi [(0,(.str v0)),(14,(.bool z_v14))]) (qe []))
def qpu (v0:LU)(kn:Bool->Option Bool):Option Bool:=
 (bif(decide ((v0.length:Int)>=255))then(kn true)else(oB (qpt v0 ([46]:List UInt8)) fun r1=>(kn (!r1))))
def q8m:=hull (qpu)
theorem qbh9:q8m=qpu:=qa _
def qblu:SubB Tryz.prog (TIof Tryz.prog) 39 0 (kret [.t 2] decB):=jnB Tryz.f59 19 (.r [(5,.c q1m.b)] [.sel [0,14] []]) S69_ (qpu) (fun f v K=>f (v.s 0 0) (qbh8 (v.s 0 0) K))
def qbia (v20:LA)(v21 v22:Int)(K:Ex->Env->Mem->Option Bool):=(fun z_v37=>K .norm (qi [(20,(.sl 1 v20)),(21,(.int .i64 v21)),(22,(.int .i64 v22)),(37,(.bool z_v37))]) (qe []))
def qpv (v3:Int)(v4:LU)(v20:LA)(v21 v22:Int)(kn:Bool->Option Bool):Option Bool:=
 (oB (q1y v4) fun r1=>(bif(!r1)then(bif(decide (v3>0))then(kn true)else(kn (!(v4==([42]:List UInt8)))))else(kn false)))
def q8n:=hull (qpv)
theorem qbib:q8n=qpv:=qa _
def qblv:SubB Tryz.prog (TIof Tryz.prog) 39 0 (kret [.t 2] decB):=jnB Tryz.f59 10647 (.r [(1,.c qbnx.b)] [.sel [20,21,22,37] []]) S70_ (qpv) (fun f v K=>f (v.i 12 0) (v.s 16 0) (v.l 80 0) (v.i 84 0) (v.i 88 0) (qbia (v.l 80 0) (v.i 84 0) (v.i 88 0) K))
def q1o (K:Ex->Env->Mem->Option Bool):=(fun(_:Unit)=>K (.exit 0) (qi []) (qe []))
def qmf (v20:LA)(v21 v22:Int)(next:Int->Option Bool)(kx0:Unit->Option Bool):Option Bool:=
 (bif(decide (v22<v21))then(oB (ixB v20 v22) fun y1=>(bif fitC [.s] y1.cells then(q8n v22 (gS y1.cells 0) v20 v21 v22 (fun v37q2=>(bif v37q2 then(some false)else(next (i64.wrap (v22+1))))))else none))else(kx0 ()))
def qmg (v20:LA)(v21:Int)(kx0:Unit->Option Bool):Nat->Int->Option Bool
 |0=>(fun _=>none)
 |n+1=>(fun v22=>qmf v20 v21 v22 (qmg v20 v21 kx0 n) kx0)
def q0d:=hull (qmg)
theorem qbic:q0d=qmg:=qa _
def qblw:SubB Tryz.prog (TIof Tryz.prog) 39 0 (kret [.t 2] decB):=lpB Tryz.f59 151 (.s .z (.s (.s .z (.v [.sel [] []])) (.s (.b (.s (.r [(1,.p (.etac 25 [.s]))] []) (.s (.sub [.sel [3,4,20,21,22] []] qblv []) .z))) (.v [.sel [20,21,22] []])))) S71_ (qmg) (fun f v K n=>f (v.l 80 0) (v.i 84 0) (q1o K) n) (fun v f K=>qmf (v.l 80 0) (v.i 84 0) (v.i 88 0) f (q1o K)) (fun f v=>f (v.i 88 0)) (fun k v=>(fun z0=>k (v.ui 88 0 z0)))
def qx7 (v0:LU):Option Bool:=
 (bif(v0==([46]:List UInt8))then(some true)else(q8m v0 (fun v14q1=>(bif v14q1 then(some false)else(oB (cutI v0 none (some (i64.wrap ((v0.length:Int)-1)))) fun s2=>(oB (qx6 s2 ([46]:List UInt8)) fun r3=>(q0d r3 (r3.length:Int) (fun(_:Unit)=>(some true)) FU 0)))))))
def qgl:=hull qx7
theorem qbr6:qgl=qx7:=qa _
def qjj {R:Type}:EntF Tryz.prog R:=entB (nt:=39) (dec:=decB) (enc:=AV.bool) Tryz.func59 [.t 2] hdeB (.s .z (.s .z (.s (.s (.sub [.sel [0] []] qblu []) .z) (.s (.s (.r [(5,.k q8l.b)] []) (.b (.sub [.sel [20,21,22] []] qblw []))) .z)))) S69_ qx7 (fun f v=>f (v.s 0 0))
def qeg (x0:LU)(x1:Bool)(x2 x3 x4:Int):List AV:=[.str x0,.bool x1,.int .u64 x2,.int .u64 x3,.int .i64 x4]
def S72_:Shp:=⟨[(1,.one (.ptr 0 0))],[.box true (lk qc)]⟩
def S73_:Shp:=⟨[(0,.st (lk qc))],[]⟩
def qbgi (Av:LU)(Aw:Bool)(Ax Ay Az:Int)(K:Ex->Env->Mem->Option Int):=(fun z_v3=>K .norm (qi [(1,(.ptr 0 0)),(3,(.bool z_v3))]) (qe [(some (.box true (qeg Av Aw Ax Ay Az)))]))
def qoi (Av:LU)(Aw:Bool)(Ax Ay Az:Int)(kn:Bool->Option Int):Option Int:=
 (oB (qgl Av) fun r1=>(bif(!r1)then(kn true)else(oB (ixB Av 0) fun c2=>(kn ((c2.toNat:Int)==42)))))
def q6b:=hull (qoi)
theorem qbgj:q6b=qoi:=qa _
def qbid:SubB Tryz.prog (TIof Tryz.prog) 28 0 (kret [.t 2] (decI .i64)):=jnB Tryz.f111 17 (.r [(2,.c qjj.b)] [.sel [1,3] [0]]) S72_ (qoi) (fun f v K=>f (v.s 3 0) (v.b 3 1) (v.i 3 2) (v.i 3 3) (v.i 3 4) (qbgi (v.s 3 0) (v.b 3 1) (v.i 3 2) (v.i 3 3) (v.i 3 4) K))
def qto (Aa:LU)(Ab:Bool)(Ac Bt Bu:Int):Option Int:=
 (q6b Aa Ab Ac Bt Bu (fun v3q1=>(bif v3q1 then(some 2)else(oB (qz2 Ab Ac Bt) fun r2=>(bif(!r2)then(some 3)else(bif((decide (Bu<0))||(decide (Bu>2147483647)))then(some 1)else(some 0)))))))
def q4i:=hull qto
theorem qbny:q4i=qto:=qa _
def qbpn {R:Type}:EntF Tryz.prog R:=entB (nt:=28) (dec:=(decI .i64)) (enc:=(AV.int .i64)) Tryz.func111 [.t 2] hdeI (.s .z (.s (.b (.s (.sub [.sel [1] [0]] qbid []) (.s .z (.s (.r [(2,.c q5z.b)] []) (.s .z (.s (.r [(4,.g 3)] []) .z)))))) .z)) S73_ qto (fun f v=>f (v.s 1 0) (v.b 1 1) (v.i 1 2) (v.i 1 3) (v.i 1 4))
theorem qbwa {R:Type}:qm6 Tryz.prog 188 (q2p (R':=R)):=qby8 Tryz.func188 (by kernel_rfl) (by kernel_rfl) (by kernel_rfl) (by kernel_rfl)
def qn3 (v0 v1:LU):Option Int:=
 (oB (qbe7 v0 v1) fun r1=>(some r1))
def qza:=hull qn3
theorem q6c:qza=qn3:=qa _
def q7u {R:Type}:EntF Tryz.prog R:=entB (nt:=8) (dec:=(decI .i64)) (enc:=(AV.int .i64)) Tryz.func170 [.t 4] hdeI (.s .z (.s (.r [(2,.c (eK qbwa))] []) .z)) S62_ qn3 (fun f v=>f (v.s 0 0) (v.s 4 0))
def qpw (v0 v1:LU):Option Int:=
 (oB (qza v0 v1) fun r1=>(some r1))
def qtp:=hull qpw
theorem qbie:qtp=qpw:=qa _
def q4y {R:Type}:EntF Tryz.prog R:=entB (nt:=8) (dec:=(decI .i64)) (enc:=(AV.int .i64)) Tryz.func116 [.t 4] hdeI (.s .z (.s (.r [(2,.c q7u.b)] []) .z)) S62_ qpw (fun f v=>f (v.s 0 0) (v.s 4 0))
def qbif (v0:LU)(K:Ex->Env->Mem->Option (List AV)):=(fun z_v9=>K .norm (qi [(0,(.str v0)),(9,(.bool z_v9))]) (qe []))
def qpx (v0:LU)(kn:Bool->Option (List AV)):Option (List AV):=
 (bif(v0==([46]:List UInt8))then(kn true)else(oB (qgl v0) fun r1=>(kn (!r1))))
def q8o:=hull (qpx)
theorem qbig:q8o=qpx:=qa _
def qblx:SubB Tryz.prog (TIof Tryz.prog) 16 0 (kret [.t 2] (decX (.one (.sl 1)) fun z=>aL z)):=jnB Tryz.f117 9 (.r [(4,.c qjj.b)] [.sel [0,9] []]) S69_ (qpx) (fun f v K=>f (v.s 0 0) (qbif (v.s 0 0) K))
def qvy (v0:LU):Option (List AV):=
 (q8o v0 (fun v9q1=>(bif v9q1 then(some ([]:List AV))else(oB (cutI v0 none (some (i64.wrap ((v0.length:Int)-1)))) fun s2=>(oB (qx6 s2 ([46]:List UInt8)) fun r3=>(some r3))))))
def quk:=hull qvy
theorem qbpo:quk=qvy:=qa _
def q1z {R:Type}:EntF Tryz.prog R:=entB (nt:=16) (dec:=(decX (.one (.sl 1)) fun z=>aL z)) (enc:=(fun r=>.sl 1 r)) Tryz.func117 [.t 2] (hdeX fun _=>rfl) (.s .z (.s (.s (.sub [.sel [0] []] qblx []) (.s (.s .z (.v [.eta 2 (.one (.sl 1))])) .z)) (.s (.r [(5,.k q8l.b)] []) .z))) S69_ qvy (fun f v=>f (v.s 0 0))
def S74_:Shp:=⟨[(7,.one (.l (.sl 1))),(8,.one (.l (.sl 1))),(9,.one (.l (.i .i64)))],[]⟩
def qzb (v7 v8:LA)(K:Ex->Env->Mem->Option Int):=(fun(_:Unit)=>K (.exit 1) (qi [(7,(.sl 1 v7)),(8,(.sl 1 v8))]) (qe []))
def qs3 (v7 v8:LA)(v9:Int)(next:Int->Option Int)(kx1:Unit->Option Int):Option Int:=
 (bif((decide (v9<=(v7.length:Int)))&&(decide (v9<=(v8.length:Int))))then(oB (ixB v7 (i64.wrap ((v7.length:Int)-v9))) fun y1=>(bif fitC [.s] y1.cells then(oB (ixB v8 (i64.wrap ((v8.length:Int)-v9))) fun y2=>(bif fitC [.s] y2.cells then(oB (qtp (gS y1.cells 0) (gS y2.cells 0)) fun r3=>(bif(r3 != 0)then(some r3)else(next (i64.wrap (v9+1)))))else none))else none))else(kx1 ()))
def qgg (v7 v8:LA)(kx1:Unit->Option Int):Nat->Int->Option Int
 |0=>(fun _=>none)
 |n+1=>(fun v9=>qs3 v7 v8 v9 (qgg v7 v8 kx1 n) kx1)
def q4z:=hull (qgg)
theorem qbdd:q4z=qgg:=qa _
def qbgk:SubB Tryz.prog (TIof Tryz.prog) 79 0 (kret [.t 4] (decI .i64)):=lpB Tryz.f60 303 (.s (.s (.r [(5,.g 4)] []) (.s .z (.v [.sel [7,8] []]))) (.s (.b (.s (.d [] [(5,.e 54 [.s]),(12,.e 61 [.s])] [(0,.c q4y.b)] []) .z)) (.v [.sel [7,8,9] []]))) S74_ (qgg) (fun f v K n=>f (v.l 28 0) (v.l 32 0) (qzb (v.l 28 0) (v.l 32 0) K) n) (fun v f K=>qs3 (v.l 28 0) (v.l 32 0) (v.i 36 0) f (qzb (v.l 28 0) (v.l 32 0) K)) (fun f v=>f (v.i 36 0)) (fun k v=>(fun z0=>k (v.ui 36 0 z0)))
def qtq (v0 v1:LU):Option Int:=
 (oB (qgl v0) fun r1=>(oB (qgl v1) fun r2=>(bif(r1&&(!r2))then(some (-1))else(bif(r2&&(!r1))then(some 1)else(bif(!r1)then(oB (qtp v0 v1) fun r3=>(some r3))else(oB (quk v0) fun r4=>(oB (quk v1) fun r5=>(q4z r4 r5 (fun(_:Unit)=>(bif(decide ((r4.length:Int)<(r5.length:Int)))then(some (-1))else(bif(decide ((r4.length:Int)>(r5.length:Int)))then(some 1)else(some 0)))) FU 1))))))))
def qsh:=hull qtq
theorem qbnz:qsh=qtq:=qa _
def q0e {R:Type}:EntF Tryz.prog R:=entB (nt:=79) (dec:=(decI .i64)) (enc:=(AV.int .i64)) Tryz.func60 [.t 4] hdeI (.s .z (.s (.r [(1,.c qjj.b),(3,.c qjj.b)] []) (.s (.b (.s (.r [(2,.g 2)] []) (.s .z (.s (.r [(2,.g 2)] []) (.s .z (.s .z (.s (.s (.r [(2,.c q4y.b)] []) .z) .z))))))) (.s (.r [(1,.k q1z.b),(3,.k q1z.b)] []) (.s (.s .z (.b (.sub [.sel [7,8,9] []] qbgk []))) .z))))) S62_ qtq (fun f v=>f (v.s 0 0) (v.s 4 0))
def S75_:Shp:=⟨[(0,.st (lk qc)),(1,.st (lk qc))],[]⟩
def qtr (Aa:LU)(Ab:Bool)(Ac Bt Bu:Int)(B7:LU)(B8:Bool)(B9 Ca Cb:Int):Option Int:=
 (oB (quh Ab Ac Bt B8 B9 Ca) fun r1=>(bif(r1 != 0)then(some r1)else(oB (qsh Aa B7) fun r2=>(some r2))))
def q4j:=hull qtr
theorem qbn0:q4j=qtr:=qa _
def qbpp {R:Type}:EntF Tryz.prog R:=entB (nt:=19) (dec:=(decI .i64)) (enc:=(AV.int .i64)) Tryz.func112 [.t 4] hdeI (.s .z (.s (.s (.r [(4,.c q1v.b)] []) .z) (.s (.r [(4,.c q0e.b)] []) .z))) S75_ qtr (fun f v=>f (v.s 1 0) (v.b 1 1) (v.i 1 2) (v.i 1 3) (v.i 1 4) (v.s 5 0) (v.b 5 1) (v.i 5 2) (v.i 5 3) (v.i 5 4))
def S76_:Shp:=⟨[(0,.one (.l (.sl 5))),(10,.one (.l (.sl 5))),(11,.one (.l (.i .i64))),(12,.one (.l (.i .i64)))],[]⟩
def S77_:Shp:=⟨[(0,.one (.l (.sl 5)))],[]⟩
def qzc (K:Ex->Env->Mem->Option Int):=(fun(_:Unit)=>K (.exit 0) (qi []) (qe []))
def qj1 (v0 v10:LA)(v11 v12:Int)(next:Int->Option Int)(kx0:Unit->Option Int):Option Int:=
 (bif(decide (v12<v11))then(oB (ixB v10 v12) fun y1=>(bif fitC qc y1.cells then(oB (q4i (gS y1.cells 0) (gB y1.cells 1) (gI y1.cells 2) (gI y1.cells 3) (gI y1.cells 4)) fun r2=>(bif(r2 != 0)then(some r2)else(bif(v12==0)then(next (i64.wrap (v12+1)))else(oB (ixB v0 (i64.wrap (v12-1))) fun y3=>(bif fitC qc y3.cells then(oB (q4j (gS y1.cells 0) (gB y1.cells 1) (gI y1.cells 2) (gI y1.cells 3) (gI y1.cells 4) (gS y3.cells 0) (gB y3.cells 1) (gI y3.cells 2) (gI y3.cells 3) (gI y3.cells 4)) fun r4=>(bif(decide (r4<0))then(some 7)else(bif(r4==0)then(some 12)else(next (i64.wrap (v12+1))))))else none)))))else none))else(kx0 ()))
def qj2 (v0 v10:LA)(v11:Int)(kx0:Unit->Option Int):Nat->Int->Option Int
 |0=>(fun _=>none)
 |n+1=>(fun v12=>qj1 v0 v10 v11 v12 (qj2 v0 v10 v11 kx0 n) kx0)
def q40:=hull (qj2)
theorem qbde:q40=qj2:=qa _
def qbgl:SubB Tryz.prog (TIof Tryz.prog) 38 0 (kret [.t 2] (decI .i64)):=lpB Tryz.f58 75 (.s .z (.s (.s .z (.v [.sel [] []])) (.s (.b (.s (.r [(1,.p (.etac 15 qc))] []) (.s (.s (.r [(1,.c qbpn.b)] []) .z) (.s .z (.s (.d [] [(4,.e 28 qc)] [(0,.c qbpp.b)] []) .z))))) (.v [.sel [0,10,11,12] []])))) S76_ (qj2) (fun f v K n=>f (v.l 0 0) (v.l 40 0) (v.i 44 0) (qzc K) n) (fun v f K=>qj1 (v.l 0 0) (v.l 40 0) (v.i 44 0) (v.i 48 0) f (qzc K)) (fun f v=>f (v.i 48 0)) (fun k v=>(fun z0=>k (v.ui 48 0 z0)))
def qts (v0:LA):Option Int:=
 (bif(decide ((v0.length:Int)>256))then(some 9)else(q40 v0 v0 (v0.length:Int) (fun(_:Unit)=>(some 0)) FU 0))
def qx8:=hull qts
theorem qbn1:qx8=qts:=qa _
def q8p {R:Type}:EntF Tryz.prog R:=entB (nt:=38) (dec:=(decI .i64)) (enc:=(AV.int .i64)) Tryz.func58 [.t 2] hdeI (.s .z (.s .z (.s (.s .z (.b (.sub [.sel [0,10,11,12] []] qbgl []))) .z))) S77_ qts (fun f v=>f (v.l 0 0))
def qvz (Aa:LU)(Ab:Bool)(Ac Bt Bu:Int)(B7:LU)(B8:Bool)(B9 Ca Cb:Int):Option Int:=
 (oB (quh Ab Ac Bt B8 B9 Ca) fun r1=>(bif(r1 != 0)then(some r1)else(oB (qsh Aa B7) fun r2=>(some r2))))
def qul:=hull qvz
theorem qbpq:qul=qvz:=qa _
def qba7 {R:Type}:EntF Tryz.prog R:=entB (nt:=19) (dec:=(decI .i64)) (enc:=(AV.int .i64)) Tryz.func158 [.t 4] hdeI (.s .z (.s (.s (.r [(4,.c q1v.b)] []) .z) (.s (.r [(4,.c q0e.b)] []) .z))) S75_ qvz (fun f v=>f (v.s 1 0) (v.b 1 1) (v.i 1 2) (v.i 1 3) (v.i 1 4) (v.s 5 0) (v.b 5 1) (v.i 5 2) (v.i 5 3) (v.i 5 4))
def S78_:Shp:=⟨[(0,.one (.l (.sl 5))),(2,.one (.fn 158 [])),(4,.one (.ptr 0 0)),(8,.one (.l (.i .i64))),(9,.one (.l (.i .i64))),(10,.one (.l (.i .i64)))],[.box true (lk qc)]⟩
def S79_:Shp:=⟨[(0,.one (.l (.sl 5))),(1,.st (lk qc)),(2,.one (.fn 158 []))],[]⟩
def qc1:AV->Option (Int×Bool):=decN [(.one (.i .i64)),(.one .b)] fun z=>(aI (gC (tpL z) 0),aB (gC (tpL z) 1))
def qcu (v0:LA)(v8:Int)(Av:LU)(Aw:Bool)(Ax Ay Az:Int)(K:Ex->Env->Mem->Option (Int×Bool)):=(fun z_v9=>K (.exit 0) (qi [(0,(.sl 5 v0)),(2,(.func 158 [])),(4,(.ptr 0 0)),(8,(.int .i64 v8)),(9,(.int .i64 z_v9))]) (qe [(some (.box true (qeg Av Aw Ax Ay Az)))]))
def qb1 (v0:LA)(v8 v9 v10:Int)(Av:LU)(Aw:Bool)(Ax Ay Az:Int)(next:Int->Int->Option (Int×Bool))(kx0:Int->Option (Int×Bool)):Option (Int×Bool):=
 (bif(decide (v9<v10))then(oB (ixB v0 (i64.wrap ((u64.wrap (i64.wrap (v9+v10))).fdiv (2^min (1:Int).toNat u64.bits)))) fun y1=>(bif fitC qc y1.cells then(oB (qul (gS y1.cells 0) (gB y1.cells 1) (gI y1.cells 2) (gI y1.cells 3) (gI y1.cells 4) Av Aw Ax Ay Az) fun r2=>(bif(decide (r2<0))then(next (i64.wrap ((i64.wrap ((u64.wrap (i64.wrap (v9+v10))).fdiv (2^min (1:Int).toNat u64.bits)))+1)) v10)else(next v9 (i64.wrap ((u64.wrap (i64.wrap (v9+v10))).fdiv (2^min (1:Int).toNat u64.bits))))))else none))else(kx0 v9))
def qq (v0:LA)(v8:Int)(Av:LU)(Aw:Bool)(Ax Ay Az:Int)(kx0:Int->Option (Int×Bool)):Nat->Int->Int->Option (Int×Bool)
 |0=>(fun _ _=>none)
 |n+1=>(fun v9 v10=>qb1 v0 v8 v9 v10 Av Aw Ax Ay Az (qq v0 v8 Av Aw Ax Ay Az kx0 n) kx0)
def qc4:=hull (qq)
theorem qf0:qc4=qq:=qa _
def qf5:SubB Tryz.prog (TIof Tryz.prog) 49 0 (kret [.t 6,.t 7] qc1):=lpB Tryz.f157 71 (.s (.s .z (.s .z (.v [.sel [0,2,4,8,9] [0]]))) (.b (.s .z (.s (.d [] [(3,.e 27 qc)] [(0,.c qba7.b)] []) (.s (.v [.sel [0,2,4,8,9,10] [0]]) (.v [.sel [0,2,4,8,9,10] [0]])))))) S78_ (qq) (fun f v K n=>f (v.l 0 0) (v.i 32 0) (v.s 3 0) (v.b 3 1) (v.i 3 2) (v.i 3 3) (v.i 3 4) (qcu (v.l 0 0) (v.i 32 0) (v.s 3 0) (v.b 3 1) (v.i 3 2) (v.i 3 3) (v.i 3 4) K) n) (fun v f K=>qb1 (v.l 0 0) (v.i 32 0) (v.i 36 0) (v.i 40 0) (v.s 3 0) (v.b 3 1) (v.i 3 2) (v.i 3 3) (v.i 3 4) f (qcu (v.l 0 0) (v.i 32 0) (v.s 3 0) (v.b 3 1) (v.i 3 2) (v.i 3 3) (v.i 3 4) K)) (fun f v=>f (v.i 36 0) (v.i 40 0)) (fun k v=>(fun z0 z1=>k ((v.ui 36 0 z0).ui 40 0 z1)))
def qbj (v0:LA)(B7:LU)(B8:Bool)(B9 Ca Cb:Int):Option (Int×Bool):=
 (qc4 v0 (v0.length:Int) B7 B8 B9 Ca Cb (fun v9q1=>(bif(decide (v9q1<(v0.length:Int)))then(oB (ixB v0 v9q1) fun y2=>(bif fitC qc y2.cells then(oB (qul (gS y2.cells 0) (gB y2.cells 1) (gI y2.cells 2) (gI y2.cells 3) (gI y2.cells 4) B7 B8 B9 Ca Cb) fun r3=>(some (v9q1,(r3==0))))else none))else(some (v9q1,false)))) FU 0 (v0.length:Int))
def qc9:=hull qbj
theorem qgf:qc9=qbj:=qa _
def qgm {R:Type}:EntF Tryz.prog R:=entB (nt:=49) (dec:=qc1) (enc:=(fun r=>.tup [.int .i64 r.1,.bool r.2])) Tryz.func157 [.t 6,.t 7] (hdeN fun _=>rfl) (.s .z (.s .z (.s .z (.s (.b (.sub [.sel [0,2,4,8,9,10] [0]] qf5 [])) (.s (.d [] [(8,.e 43 qc),(11,.c qba7.b)] [] []) .z))))) S79_ qbj (fun f v=>f (v.l 0 0) (v.s 5 0) (v.b 5 1) (v.i 5 2) (v.i 5 3) (v.i 5 4))
def S80_:Shp:=⟨[(0,.one (.l (.sl 5))),(1,.st (lk qc))],[]⟩
def qbpr:AV->Option (Int×Bool):=decN [(.one (.i .i64)),(.one .b)] fun z=>(aI (gC (tpL z) 0),aB (gC (tpL z) 1))
def qx9 (v0:LA)(B7:LU)(B8:Bool)(B9 Ca Cb:Int):Option (Int×Bool):=
 (oB (qc9 v0 B7 B8 B9 Ca Cb) fun r1=>(some (r1.1,r1.2)))
def qxb:=hull qx9
theorem qbr7:qxb=qx9:=qa _
def q4k {R:Type}:EntF Tryz.prog R:=entB (nt:=11) (dec:=qbpr) (enc:=(fun r=>.tup [.int .i64 r.1,.bool r.2])) Tryz.func99 [.t 4,.t 5] (hdeN fun _=>rfl) (.s .z (.s (.r [(2,.c qgm.b)] []) .z)) S80_ qx9 (fun f v=>f (v.l 0 0) (v.s 5 0) (v.b 5 1) (v.i 5 2) (v.i 5 3) (v.i 5 4))
def q0f (v0 v1:LU):Option Bool:=
 (bif((v1==([46]:List UInt8))||(v0==v1))then(some true)else(bif decide (([46]:List UInt8).length+v1.length<=9223372036854775807)then(oB (qpt v0 (([46]:List UInt8)++v1)) fun r1=>(some r1))else none))
def qbps:=hull q0f
theorem qbvg:qbps=q0f:=qa _
def qbwb {R:Type}:EntF Tryz.prog R:=entB (nt:=18) (dec:=decB) (enc:=AV.bool) Tryz.func172 [.t 4] hdeB (.s .z (.s (.r [(3,.g 3),(11,.c q1m.b)] []) .z)) S62_ q0f (fun f v=>f (v.s 0 0) (v.s 4 0))
def qya (v0 v1:LU):Option Bool:=
 (oB (qgl v0) fun r1=>(bif r1 then(oB (qgl v1) fun r2=>(bif r2 then(oB (qbps v0 v1) fun r3=>(some r3))else(some false)))else(some false)))
def q9w:=hull qya
theorem qbr8:q9w=qya:=qa _
def qbvh {R:Type}:EntF Tryz.prog R:=entB (nt:=16) (dec:=decB) (enc:=AV.bool) Tryz.func120 [.t 4] hdeB (.s .z (.s (.r [(1,.c qjj.b),(4,.c qjj.b),(9,.c qbwb.b)] []) .z)) S62_ qya (fun f v=>f (v.s 0 0) (v.s 4 0))
def S81_:Shp:=⟨[(0,.one (.l .s)),(1,.one (.ptr 0 0))],[.box true [(.l .s)]]⟩
def qbgm {R:Type}(KK:AV->Mem->Option R):=(fun v3 Av=>KK (.bool v3) (qe [(some (.box true [(.str Av)]))]))
def qoj {R:Type}(v0 Av:LU)(kr:Bool->(List UInt8)->Option R):Option R:=
 (oB (q9w Av v0) fun r1=>(kr r1 Av))
def q6d {R:Type}:=hull (qoj (R:=R))
theorem qbgn {R:Type}:q6d (R:=R)=qoj:=qa _
def qbih {R:Type}:RefB Tryz.prog R:=refB (nt:=7) (nb:=1) Tryz.func119 [.t 3] (fun KK=>.s .z (.s (.r [(2,.c qbvh.b)] []) (.v [.sel [3] [0]]))) S81_ (qoj (R:=R)) (fun f v KK=>f (v.s 0 0) (v.s 3 0) (qbgm KK)) (by kernel_rfl) (by kernel_rfl) (fun _=>(by kernel_rfl)) rfl
def S82_:Shp:=⟨[(0,.one (.l (.sl 1))),(1,.one (.fn 119 [(0,0)])),(7,.one (.l (.i .i64))),(8,.one (.l (.i .i64)))],[.box true [(.l .s)]]⟩
def S83_:Shp:=⟨[(0,.one (.l (.sl 1))),(1,.one (.fn 119 [(0,0)]))],[.box true [(.l .s)]]⟩
def qep {R:Type}(K:Ex->Env->Mem->Option R):=(fun z_b0_0=>K (.exit 0) (qi []) (qe [(some (.box true [(.str z_b0_0)]))]))
def qer {R:Type}(KK:AV->Mem->Option R):=(fun v4 Av=>KK (.int .i64 v4) (qe [(some (.box true [(.str Av)]))]))
def qbl {R:Type}(v0:LA)(v7 v8:Int)(Av:LU)(next:Int->(List UInt8)->Option R)(kx0:(List UInt8)->Option R)(kr:Int->(List UInt8)->Option R):Option R:=
 (bif(decide (v8<v7))then(oB (ixB v0 v8) fun y1=>(bif fitC [.s] y1.cells then(q6d (gS y1.cells 0) Av fun v3q2 b0_0q3=>(bif v3q2 then(kr v8 b0_0q3)else(next (i64.wrap (v8+1)) b0_0q3)))else none))else(kx0 Av))
def qbm {R:Type}(v0:LA)(v7:Int)(kx0:(List UInt8)->Option R)(kr:Int->(List UInt8)->Option R):Nat->Int->(List UInt8)->Option R
 |0=>(fun _ _=>none)
 |n+1=>(fun v8 Av=>qbl v0 v7 v8 Av (qbm v0 v7 kx0 kr n) kx0 kr)
def qe6 {R:Type}:=hull (qbm (R:=R))
theorem qld {R:Type}:qe6 (R:=R)=qbm:=qa _
def qlq {R:Type}(KK:AV->Mem->Option R):SubB Tryz.prog (TIof Tryz.prog) 19 1 (qdt [.t 4] KK):=lpB Tryz.f171 37 (.s .z (.s (.s .z (.v [.sel [] [0]])) (.s (.b (.s .z (.s (.r [(3,.p (.etac 14 [.s])),(5,.s (.sel [0,1,5,7,8,11,15] [0])),(5,.r qbih)] []) (.s (.s .z (.v [.sel [4] [0]])) .z)))) (.v [.sel [0,1,7,8] [0]])))) S82_ (qbm (R:=R)) (fun f v K n=>f (v.l 0 0) (v.i 28 0) (qep K) (qer KK) n) (fun v f K=>qbl (v.l 0 0) (v.i 28 0) (v.i 32 0) (v.s 3 0) f (qep K) (qer KK)) (fun f v=>f (v.i 32 0) (v.s 3 0)) (fun k v=>(fun z0 z1=>k ((v.ui 32 0 z0).us 3 0 z1)))
def qmh {R:Type}(KK:AV->Mem->Option R):=(fun v4 Av=>KK (.int .i64 v4) (qe [(some (.box true [(.str Av)]))]))
def qcb {R:Type}(v0:LA)(Av:LU)(kr:Int->(List UInt8)->Option R):Option R:=
 (qe6 v0 (v0.length:Int) (fun b0_0q1=>(kr (-1) b0_0q1)) kr FU 0 Av)
def qfp {R:Type}:=hull (qcb (R:=R))
theorem qmi {R:Type}:qfp (R:=R)=qcb:=qa _
def qmq {R:Type}:RefB Tryz.prog R:=refB (nt:=19) (nb:=1) Tryz.func171 [.t 4] (fun KK=>.s .z (.s (.s .z (.b (.sub [.sel [0,1,7,8] [0]] (qlq KK) []))) (.s .z (.v [.sel [4] [0]])))) S83_ (qcb (R:=R)) (fun f v KK=>f (v.l 0 0) (v.s 3 0) (qmh KK)) (by kernel_rfl) (by kernel_rfl) (fun _=>(by kernel_rfl)) rfl
def qle {R:Type}(KK:AV->Mem->Option R):=(fun v4 Av=>KK (.bool v4) (qe [(some (.box true [(.str Av)]))]))
def qb6 {R:Type}(v0:LA)(Av:LU)(kr:Bool->(List UInt8)->Option R):Option R:=
 (qfp v0 Av fun v4q1 b0_0q2=>(kr (decide (v4q1>=0)) b0_0q2))
def qe7 {R:Type}:=hull (qb6 (R:=R))
theorem qlf {R:Type}:qe7 (R:=R)=qb6:=qa _
def qlr {R:Type}:RefB Tryz.prog R:=refB (nt:=9) (nb:=1) Tryz.func118 [.t 4] (fun KK=>.s .z (.s (.r [(2,.s (.sel [5,6] [0])),(2,.r qmq)] []) (.v [.sel [4] [0]]))) S83_ (qb6 (R:=R)) (fun f v KK=>f (v.l 0 0) (v.s 3 0) (qle KK)) (by kernel_rfl) (by kernel_rfl) (fun _=>(by kernel_rfl)) rfl
def S84_:Shp:=⟨[(0,.one (.l (.sl 1))),(1,.one (.l .s))],[]⟩
def qq6 (v0:LA)(v1:LU):Option Bool:=
 (qe7 v0 v1 fun v4q1 b0_0q2=>(some v4q1))
def qqd:=hull qq6
theorem qbly:qqd=qq6:=qa _
def qyq {R:Type}:EntF Tryz.prog R:=entB (nt:=8) (dec:=decB) (enc:=AV.bool) Tryz.func61 [.t 4] hdeB (.s .z (.s (.r [(2,.s (.sel [5,6] [0])),(2,.r qlr)] []) .z)) S84_ qq6 (fun f v=>f (v.l 0 0) (v.s 4 0))
def qbvi {R:Type}(vs:LA)(m:Mem)(K:AV->Mem->Option R):Option R:=q32 5 48 vs m K
theorem qbfu {R:Type}:qo7 Tryz.prog 100 (qbvi (R:=R)):=qbud (ρ:=q9f 100 159 160 0 3 4 23 35) tabOk (qbra follows "slices.Insert[[]ddi/api.Host,ddi/api.Host]" (by kernel_rfl) (by kernel_rfl) Tryz.func159 (by kernel_rfl) (by kernel_rfl) (by kernel_rfl) (by kernel_rfl) (by kernel_rfl) (by kernel_rfl) (by kernel_rfl) (by kernel_rfl) (by kernel_rfl) (by kernel_rfl) (by kernel_rfl) (by kernel_rfl) (by kernel_rfl) (by kernel_rfl) (by kernel_rfl) (by kernel_rfl) (by kernel_rfl)) (by kernel_rfl) (by kernel_rfl) (by decide) (by decide)
def S85_:Shp:=⟨[(0,.st [(.own 0),(.own 1),(.own 2)]),(1,.st (lk qc))],[.arr true 8,.arr true 5,.arr true 1]⟩
def qbii:AV->Option (AV×Int):=decN [(.st [(.fr true 8),(.fr true 5),(.fr true 1)]),(.one (.i .i64))] fun z=>((gC (tpL z) 0),aI (gC (tpL z) 1))
def qq7 (B7:LU)(B8:Bool)(B9 Ca Cb:Int)(a0 a1 a2:LA):Option (AV×Int):=
 (bif hd ([(.agg [(.str B7),(.bool B8),(.int .u64 B9),(.int .u64 Ca),(.int .i64 Cb)])]:List AV) (([(.agg [(.str B7),(.bool B8),(.int .u64 B9),(.int .u64 Ca),(.int .i64 Cb)])]:List AV).length)then(oB (qx8 ([(.agg [(.str B7),(.bool B8),(.int .u64 B9),(.int .u64 Ca),(.int .i64 Cb)])]:List AV)) fun r1=>(bif(r1 != 0)then(bif hd ([]:List AV) (([]:List AV).length)then(bif hd ([]:List AV) (([]:List AV).length)then(bif hd ([]:List AV) (([]:List AV).length)then(some ((.agg [(.fr true 8 ([]:List AV)),(.fr true 5 ([]:List AV)),(.fr true 1 ([]:List AV))]),r1))else none)else none)else none)else(bif hd a1 a1.length then(oB (qxb a1 B7 B8 B9 Ca Cb) fun r2=>(bif r2.2 then(bif hd ([]:List AV) (([]:List AV).length)then(bif hd ([]:List AV) (([]:List AV).length)then(bif hd ([]:List AV) (([]:List AV).length)then(some ((.agg [(.fr true 8 ([]:List AV)),(.fr true 5 ([]:List AV)),(.fr true 1 ([]:List AV))]),12))else none)else none)else none)else(bif(decide ((a1.length:Int)>=256))then(bif hd ([]:List AV) (([]:List AV).length)then(bif hd ([]:List AV) (([]:List AV).length)then(bif hd ([]:List AV) (([]:List AV).length)then(some ((.agg [(.fr true 8 ([]:List AV)),(.fr true 5 ([]:List AV)),(.fr true 1 ([]:List AV))]),9))else none)else none)else none)else(bif hd a0 a0.length then(oB (qod a0 B7 B8 B9 Ca Cb) fun r3=>(bif(!r3)then(bif hd ([]:List AV) (([]:List AV).length)then(bif hd ([]:List AV) (([]:List AV).length)then(bif hd ([]:List AV) (([]:List AV).length)then(some ((.agg [(.fr true 8 ([]:List AV)),(.fr true 5 ([]:List AV)),(.fr true 1 ([]:List AV))]),25))else none)else none)else none)else(bif hd a2 a2.length then(oB (qqd a2 B7) fun r4=>(bif(!r4)then(bif hd ([]:List AV) (([]:List AV).length)then(bif hd ([]:List AV) (([]:List AV).length)then(bif hd ([]:List AV) (([]:List AV).length)then(some ((.agg [(.fr true 8 ([]:List AV)),(.fr true 5 ([]:List AV)),(.fr true 1 ([]:List AV))]),13))else none)else none)else none)else(bif hd a1 a1.length then(bif hd ([(.agg [(.str B7),(.bool B8),(.int .u64 B9),(.int .u64 Ca),(.int .i64 Cb)])]:List AV) (([(.agg [(.str B7),(.bool B8),(.int .u64 B9),(.int .u64 Ca),(.int .i64 Cb)])]:List AV).length)then(oB (qql 48 a1 r2.1 ([(.agg [(.str B7),(.bool B8),(.int .u64 B9),(.int .u64 Ca),(.int .i64 Cb)])]:List AV)) fun r5=>(bif hd a0 a0.length then(bif hd r5 r5.length then(bif hd a2 a2.length then(some ((.agg [(.fr true 8 a0),(.fr true 5 r5),(.fr true 1 a2)]),0))else none)else none)else none))else none)else none)))else none)))else none))))else none)))else none)
def q10:=hull qq7
theorem qblz:q10=qq7:=qa _
def qbn2 {R:Type}:EatB Tryz.prog R:=eatB (nt:=55) (nb:=3) (dec:=qbii) (enc:=(fun r=>.tup [qfe (.st [(.fr true 8),(.fr true 5),(.fr true 1)]) r.1,.int .i64 r.2])) Tryz.func43 [(.cell 4 true 3),.t 5] (hdeN fun _=>rfl) (.s .z (.s (.s (.r [(2,.c q8p.b)] []) (.s .z (.s (.s .z (.v [.ownc 5 0 8,.ownc 5 1 5,.ownc 5 2 1])) .z))) (.s (.r [(3,.c q4k.b)] []) (.s (.b (.s .z (.s (.s .z (.v [.ownc 5 0 8,.ownc 5 1 5,.ownc 5 2 1])) (.s .z (.s (.s .z (.v [.ownc 5 0 8,.ownc 5 1 5,.ownc 5 2 1])) (.s (.r [(3,.c qwy.b)] []) (.s (.s .z (.v [.ownc 5 0 8,.ownc 5 1 5,.ownc 5 2 1])) (.s (.r [(4,.c qyq.b)] []) (.s (.s .z (.v [.ownc 5 0 8,.ownc 5 1 5,.ownc 5 2 1])) .z))))))))) (.s (.r [(5,.r (rB qbfu))] []) .z))))) S85_ qq7 (fun f v=>f (v.s 5 0) (v.b 5 1) (v.i 5 2) (v.i 5 3) (v.i 5 4) (v.r 0) (v.r 1) (v.r 2)) (by kernel_rfl) (by kernel_rfl) (by kernel_rfl) rfl
def qbvj {R:Type}(vs:LA)(m:Mem)(K:AV->Mem->Option R):Option R:=q31 5 vs m K
theorem qbvk {R:Type}:qo7 Tryz.prog 101 (qbvj (R:=R)):=qbuc (ρ:=q9e 101 0 3 4 23 35) tabOk (qbq9 follows "slices.Delete[[]ddi/api.Host,ddi/api.Host]" (by kernel_rfl) (by kernel_rfl) (by kernel_rfl) (by kernel_rfl) (by kernel_rfl) (by kernel_rfl) (by kernel_rfl) (by kernel_rfl) (by kernel_rfl) (by kernel_rfl) (by kernel_rfl) (by kernel_rfl) (by kernel_rfl) (by kernel_rfl)) (by kernel_rfl) (by decide)
def qba8:AV->Option (AV×AV×Int):=decN [(.st [(.fr true 8),(.fr true 5),(.fr true 1)]),(.st [.s,.b,(.i .u64),(.i .u64),(.i .i64)]),(.one (.i .i64))] fun z=>((gC (tpL z) 0),(gC (tpL z) 1),aI (gC (tpL z) 2))
def qnv (B7:LU)(B8:Bool)(B9 Ca Cb:Int)(a0 a1 a2:LA):Option (AV×AV×Int):=
 (bif hd a1 a1.length then(oB (qxb a1 B7 B8 B9 Ca Cb) fun r1=>(bif(!r1.2)then(bif hd ([]:List AV) (([]:List AV).length)then(bif hd ([]:List AV) (([]:List AV).length)then(bif hd ([]:List AV) (([]:List AV).length)then(some ((.agg [(.fr true 8 ([]:List AV)),(.fr true 5 ([]:List AV)),(.fr true 1 ([]:List AV))]),(.agg [(.str ([]:List UInt8)),(.bool false),(.int .u64 0),(.int .u64 0),(.int .i64 0)]),11))else none)else none)else none)else(bif hd a1 a1.length then(bif decide (0<=r1.1/\r1.1<a1.length)then(bif hd a1 a1.length then(oB (a1[r1.1.toNat]?) fun y2=>(oB (rdE y2 0 true 5) fun z3=>(bif fitV (.st qc) z3 then(bif hd a1 a1.length then(oB (qzt a1 r1.1 (i64.wrap (r1.1+1))) fun r4=>(bif hd a0 a0.length then(bif hd r4 r4.length then(bif hd a2 a2.length then(some ((.agg [(.fr true 8 a0),(.fr true 5 r4),(.fr true 1 a2)]),(.agg [(.str (gS z3.cells 0)),(.bool (gB z3.cells 1)),(.int .u64 (gI z3.cells 2)),(.int .u64 (gI z3.cells 3)),(.int .i64 (gI z3.cells 4))]),0))else none)else none)else none))else none)else none)))else none)else none)else none)))else none)
def qmj:=hull qnv
theorem qbdf:qmj=qnv:=qa _
def qs4 {R:Type}:EatB Tryz.prog R:=eatB (nt:=35) (nb:=3) (dec:=qba8) (enc:=(fun r=>.tup [qfe (.st [(.fr true 8),(.fr true 5),(.fr true 1)]) r.1,qfe (.st [.s,.b,(.i .u64),(.i .u64),(.i .i64)]) r.2.1,.int .i64 r.2.2])) Tryz.func44 [(.cell 4 true 3),(.cell 5 true 5),.t 6] (hdeN fun _=>rfl) (.s .z (.s (.r [(3,.c q4k.b)] []) (.s (.s .z (.s (.s .z (.v [.ownc 5 0 8,.ownc 5 1 5,.ownc 5 2 1])) .z)) (.s (.r [(4,.p (.eta 25 (.st qc)))] []) (.s (.r [(5,.r (rB qbvk))] []) .z))))) S85_ qnv (fun f v=>f (v.s 5 0) (v.b 5 1) (v.i 5 2) (v.i 5 3) (v.i 5 4) (v.r 0) (v.r 1) (v.r 2)) (by kernel_rfl) (by kernel_rfl) (by kernel_rfl) rfl
def qtt (v0:LU):Option Bool:=
 (oB (quk v0) fun r1=>(bif(decide ((r1.length:Int)>0))then(oB (ixB r1 0) fun y2=>(bif fitC [.s] y2.cells then(some ((gS y2.cells 0)==([42]:List UInt8)))else none))else(some false)))
def q4l:=hull qtt
theorem qbn3:q4l=qtt:=qa _
def qbpt {R:Type}:EntF Tryz.prog R:=entB (nt:=15) (dec:=decB) (enc:=AV.bool) Tryz.func102 [.t 2] hdeB (.s .z (.s (.r [(1,.k q1z.b)] []) (.s (.r [(5,.p (.etac 11 [.s]))] []) .z))) S69_ qtt (fun f v=>f (v.s 0 0))
def S86_:Shp:=⟨[(2,.one (.l .s)),(3,.one (.ptr 0 0)),(4,.one (.ptr 1 0)),(6,.one (.ptr 2 0)),(8,.one (.ptr 3 0))],[.box true [(.own 4),(.own 5),(.own 6)],.box true (lk qc),.box true [(.l .nil),(.l .nil),(.l .nil)],.box true (lk qc),.arr true 8,.arr true 5,.arr true 1]⟩
def S87_:Shp:=⟨[(0,.st (lk qm)),(1,.st (lk qc)),(2,.one (.l .s))],[]⟩
def q41:AV->Option (AV×Int):=decN [(.st [(.fr true 8),(.fr true 5),(.fr true 1)]),(.one (.i .i64))] fun z=>((gC (tpL z) 0),aI (gC (tpL z) 1))
def qbdg (v2 Ad:LU)(Ae:Bool)(Af Ag Ah:Int)(Cf:LU)(Cg:Bool)(Ch Ci Cj:Int)(a4 a5 a6:LA)(K:Ex->Env->Mem->Option (AV×Int)):=(fun z_v30=>K .norm (qi [(2,(.str v2)),(3,(.ptr 0 0)),(4,(.ptr 1 0)),(6,(.ptr 2 0)),(8,(.ptr 3 0)),(30,(.bool z_v30))]) (qe [(some (.box true [(.own 4 a4.length),(.own 5 a5.length),(.own 6 a6.length)])),(some (.box true (qeg Ad Ae Af Ag Ah))),(some (.box true [.nils,.nils,.nils])),(some (.box true (qeg Cf Cg Ch Ci Cj))),(some (.arr true 8 a4)),(some (.arr true 5 a5)),(some (.arr true 1 a6))]))
def qnw (v2 Ad:LU)(Ae:Bool)(Af Ag Ah:Int)(Cf:LU)(Cg:Bool)(Ch Ci Cj:Int)(a4 a5 a6:LA)(kn:Bool->Option (AV×Int)):Option (AV×Int):=
 (oB (qgl v2) fun r1=>(bif(!r1)then(kn true)else(oB (q4l v2) fun r2=>(kn r2))))
def q42:=hull (qnw)
theorem qbdh:q42=qnw:=qa _
def qbgo:SubB Tryz.prog (TIof Tryz.prog) 63 0 (kret [(.cell 6 true 3),.t 7] q41):=jnB Tryz.f45 39 (.r [(1,.c qjj.b),(5,.c qbpt.b)] [.sel [2,3,4,6,8,30] [0,1,2,3,4,5,6]]) S86_ (qnw) (fun f v K=>f (v.s 8 0) (v.s 7 0) (v.b 7 1) (v.i 7 2) (v.i 7 3) (v.i 7 4) (v.s 15 0) (v.b 15 1) (v.i 15 2) (v.i 15 3) (v.i 15 4) (v.r 4) (v.r 5) (v.r 6) (qbdg (v.s 8 0) (v.s 7 0) (v.b 7 1) (v.i 7 2) (v.i 7 3) (v.i 7 4) (v.s 15 0) (v.b 15 1) (v.i 15 2) (v.i 15 3) (v.i 15 4) (v.r 4) (v.r 5) (v.r 6) K))
def qtu (Aa Ab Ac:LA)(B7:LU)(B8:Bool)(B9 Ca Cb:Int)(v2:LU):Option (AV×Int):=
 (oB (qvl Aa Ab Ac) fun r1=>(bif hd (gL r1.cells 0) ((gL r1.cells 0).length)then(bif hd (gL r1.cells 1) ((gL r1.cells 1).length)then(bif hd (gL r1.cells 2) ((gL r1.cells 2).length)then(bif(hd (gL r1.cells 0) ((gL r1.cells 0).length)&&(hd (gL r1.cells 1) ((gL r1.cells 1).length)&&(hd (gL r1.cells 2) ((gL r1.cells 2).length)&&true)))then(oB (qmj B7 B8 B9 Ca Cb (gL r1.cells 0) (gL r1.cells 1) (gL r1.cells 2)) fun r2=>(bif(r2.2.2 != 0)then(bif hd ([]:List AV) (([]:List AV).length)then(bif hd ([]:List AV) (([]:List AV).length)then(bif hd ([]:List AV) (([]:List AV).length)then(some ((.agg [(.fr true 8 ([]:List AV)),(.fr true 5 ([]:List AV)),(.fr true 1 ([]:List AV))]),r2.2.2))else none)else none)else none)else(bif(hd (gL r2.1.cells 0) ((gL r2.1.cells 0).length)&&(hd (gL r2.1.cells 1) ((gL r2.1.cells 1).length)&&(hd (gL r2.1.cells 2) ((gL r2.1.cells 2).length)&&true)))then(q42 v2 B7 B8 B9 Ca Cb (gS r2.2.1.cells 0) (gB r2.2.1.cells 1) (gI r2.2.1.cells 2) (gI r2.2.1.cells 3) (gI r2.2.1.cells 4) (gL r2.1.cells 0) (gL r2.1.cells 1) (gL r2.1.cells 2) (fun v30q3=>(bif v30q3 then(bif hd ([]:List AV) (([]:List AV).length)then(bif hd ([]:List AV) (([]:List AV).length)then(bif hd ([]:List AV) (([]:List AV).length)then(some ((.agg [(.fr true 8 ([]:List AV)),(.fr true 5 ([]:List AV)),(.fr true 1 ([]:List AV))]),2))else none)else none)else none)else(bif hd (gL r2.1.cells 1) ((gL r2.1.cells 1).length)then(oB (qxb (gL r2.1.cells 1) v2 (gB r2.2.1.cells 1) (gI r2.2.1.cells 2) (gI r2.2.1.cells 3) (gI r2.2.1.cells 4)) fun r4=>(bif(r4.2||(v2==B7))then(bif hd ([]:List AV) (([]:List AV).length)then(bif hd ([]:List AV) (([]:List AV).length)then(bif hd ([]:List AV) (([]:List AV).length)then(some ((.agg [(.fr true 8 ([]:List AV)),(.fr true 5 ([]:List AV)),(.fr true 1 ([]:List AV))]),12))else none)else none)else none)else(bif hd (gL r2.1.cells 2) ((gL r2.1.cells 2).length)then(oB (qqd (gL r2.1.cells 2) v2) fun r5=>(bif(!r5)then(bif hd ([]:List AV) (([]:List AV).length)then(bif hd ([]:List AV) (([]:List AV).length)then(bif hd ([]:List AV) (([]:List AV).length)then(some ((.agg [(.fr true 8 ([]:List AV)),(.fr true 5 ([]:List AV)),(.fr true 1 ([]:List AV))]),13))else none)else none)else none)else(bif hd (gL r2.1.cells 1) ((gL r2.1.cells 1).length)then(bif hd ([(.agg [(.str v2),(.bool (gB r2.2.1.cells 1)),(.int .u64 (gI r2.2.1.cells 2)),(.int .u64 (gI r2.2.1.cells 3)),(.int .i64 (gI r2.2.1.cells 4))])]:List AV) (([(.agg [(.str v2),(.bool (gB r2.2.1.cells 1)),(.int .u64 (gI r2.2.1.cells 2)),(.int .u64 (gI r2.2.1.cells 3)),(.int .i64 (gI r2.2.1.cells 4))])]:List AV).length)then(oB (qql 48 (gL r2.1.cells 1) r4.1 ([(.agg [(.str v2),(.bool (gB r2.2.1.cells 1)),(.int .u64 (gI r2.2.1.cells 2)),(.int .u64 (gI r2.2.1.cells 3)),(.int .i64 (gI r2.2.1.cells 4))])]:List AV)) fun r6=>(bif hd (gL r2.1.cells 0) ((gL r2.1.cells 0).length)then(bif hd r6 r6.length then(bif hd (gL r2.1.cells 2) ((gL r2.1.cells 2).length)then(some ((.agg [(.fr true 8 (gL r2.1.cells 0)),(.fr true 5 r6),(.fr true 1 (gL r2.1.cells 2))]),0))else none)else none)else none))else none)else none)))else none)))else none))))else none)))else none)else none)else none)else none))
def q4m:=hull qtu
theorem qbn4:q4m=qtu:=qa _
def qbpu {R:Type}:EntF Tryz.prog R:=entB (nt:=63) (dec:=q41) (enc:=(fun r=>.tup [qfe (.st [(.fr true 8),(.fr true 5),(.fr true 1)]) r.1,.int .i64 r.2])) Tryz.func45 [(.cell 6 true 3),.t 7] (hdeN fun _=>rfl) (.s .z (.s (.d5 [] [(1,qz0.eat),(3,qs4)] [] []) (.s (.s .z (.s (.s .z (.v [.ownc 2 0 8,.ownc 2 1 5,.ownc 2 2 1])) .z)) (.s (.s (.sub [.sel [2,3,4,6,8] [0,1,2,9,6,7,8]] qbgo []) (.s (.s .z (.v [.ownc 2 0 8,.ownc 2 1 5,.ownc 2 2 1])) .z)) (.s .z (.s (.s (.r [(3,.c q4k.b)] []) (.s (.r [(2,.g 4)] []) (.s (.s .z (.v [.ownc 2 0 8,.ownc 2 1 5,.ownc 2 2 1])) (.s (.r [(3,.c qyq.b)] []) (.s (.s .z (.v [.ownc 2 0 8,.ownc 2 1 5,.ownc 2 2 1])) (.r [(5,.r (rB qbfu))] [])))))) .z)))))) S87_ qtu (fun f v=>f (v.l 1 0) (v.l 1 1) (v.l 1 2) (v.s 5 0) (v.b 5 1) (v.i 5 2) (v.i 5 3) (v.i 5 4) (v.s 8 0))
def S88_:Shp:=⟨[(2,.one (.ptr 0 0)),(4,.one (.ptr 1 0)),(8,.one (.l (.i .i64)))],[.box true (lk qm),.box true [(.l .nil),(.l .nil),(.l .nil)]]⟩
def S89_:Shp:=⟨[(2,.one (.ptr 0 0)),(3,.one (.ptr 1 0)),(4,.one (.ptr 2 0)),(8,.one (.l (.i .i64)))],[.box true [(.own 3),(.own 4),(.own 5)],.box true (lk qeh),.box true [(.l .nil),(.l .nil),(.l .nil)],.arr true 8,.arr true 5,.arr true 1]⟩
def S90_:Shp:=⟨[(0,.st (lk qm)),(1,.st (lk qeh))],[]⟩
def qyr:AV->Option (AV×Int):=decN [(.st [(.sl 8),(.sl 5),(.sl 1)]),(.one (.i .i64))] fun z=>((gC (tpL z) 0),aI (gC (tpL z) 1))
def qbgp (v8:Int)(K:Ex->Env->Mem->Option (AV×Int)):=(fun z_v56 z_b0_0 z_b0_1 z_b0_2=>K .norm (qi [(2,(.ptr 0 0)),(4,(.ptr 1 0)),(8,(.int .i64 v8)),(56,(.bool z_v56))]) (qe [(some (.box true (qh z_b0_0 z_b0_1 z_b0_2))),(some (.box true [.nils,.nils,.nils]))]))
def qok (v8:Int)(Av Aw Ax:LA)(kn:Bool->(List AV)->(List AV)->(List AV)->Option (AV×Int)):Option (AV×Int):=
 (bif(v8==0)then(qcw Aw Av Aw Ax fun v4q1 b0_0q2 b0_1q3 b0_2q4=>(kn v4q1 b0_0q2 b0_1q3 b0_2q4))else(kn false Av Aw Ax))
def q6e:=hull (qok)
theorem qbgq:q6e=qok:=qa _
def qbij:SubB Tryz.prog (TIof Tryz.prog) 115 0 (kret [(.cell 4 true 3),.t 5] qyr):=jnB Tryz.f14 11183 (.r [(6,.s (.sel [2,4,8,51,53,54] [0,1])),(6,.r qku)] [.sel [2,4,8,56] [0,1]]) S88_ (qok) (fun f v K=>f (v.i 32 0) (v.l 3 0) (v.l 3 1) (v.l 3 2) (qbgp (v.i 32 0) K))
def qbgr (K:Ex->Env->Mem->Option (AV×Int)):=(fun z_v8 z_b0_0 z_b0_1 z_b0_2=>K .norm (qi [(2,(.ptr 0 0)),(4,(.ptr 1 0)),(8,(.int .i64 z_v8))]) (qe [(some (.box true (qh z_b0_0 z_b0_1 z_b0_2))),(some (.box true [.nils,.nils,.nils]))]))
def qol (v8 Ad:Int)(Ae:Bool)(Af Ag Ah Ai:Int)(Aj Ak:LU)(Al Am An:Int)(Ao:LU)(Ap:Bool)(Aq Ar As:Int)(At:LU)(a3 a4 a5:LA)(kn:Int->(List AV)->(List AV)->(List AV)->Option (AV×Int)):Option (AV×Int):=
 (bif(Ad==1)then(bif hd a3 a3.length then(oB (q46 a3 Ae Af Ag Ah Ai Aj Ak Al) fun r1=>(bif hd a4 a4.length then(bif hd a5 a5.length then(kn r1.2 r1.1 a4 a5)else none)else none))else none)else(bif(Ad==2)then(bif hd a3 a3.length then(oB (q4e a3 Ae Af Ag Ah) fun r2=>(bif hd a4 a4.length then(bif hd a5 a5.length then(q6e r2.2 r2.1 a4 a5 (fun v56q3 b0_0q4 b0_1q5 b0_2q6=>(bif v56q3 then(kn 25 b0_0q4 b0_1q5 b0_2q6)else(kn r2.2 b0_0q4 b0_1q5 b0_2q6))))else none)else none))else none)else(bif(Ad==3)then(bif hd a3 a3.length then(oB (qps a3 Ae Af Ag Ah Am An Aj Ak) fun r7=>(bif hd a4 a4.length then(bif hd a5 a5.length then(kn r7.2.2 r7.1 a4 a5)else none)else none))else none)else(bif(Ad==4)then(bif hd a3 a3.length then(bif hd a4 a4.length then(bif hd a5 a5.length then(bif(hd a3 (a3.length)&&(hd a4 (a4.length)&&(hd a5 (a5.length)&&true)))then(oB (q10 Ao Ap Aq Ar As a3 a4 a5) fun r8=>(bif hd (gL r8.1.cells 0) ((gL r8.1.cells 0).length)then(bif hd (gL r8.1.cells 1) ((gL r8.1.cells 1).length)then(bif hd (gL r8.1.cells 2) ((gL r8.1.cells 2).length)then(kn r8.2 (gL r8.1.cells 0) (gL r8.1.cells 1) (gL r8.1.cells 2))else none)else none)else none))else none)else none)else none)else none)else(bif(Ad==5)then(bif hd a3 a3.length then(bif hd a4 a4.length then(bif hd a5 a5.length then(bif(hd a3 (a3.length)&&(hd a4 (a4.length)&&(hd a5 (a5.length)&&true)))then(oB (qmj Ao Ap Aq Ar As a3 a4 a5) fun r9=>(bif hd (gL r9.1.cells 0) ((gL r9.1.cells 0).length)then(bif hd (gL r9.1.cells 1) ((gL r9.1.cells 1).length)then(bif hd (gL r9.1.cells 2) ((gL r9.1.cells 2).length)then(kn r9.2.2 (gL r9.1.cells 0) (gL r9.1.cells 1) (gL r9.1.cells 2))else none)else none)else none))else none)else none)else none)else none)else(bif(Ad==6)then(bif hd a3 a3.length then(bif hd a4 a4.length then(bif hd a5 a5.length then(oB (q4m a3 a4 a5 Ao Ap Aq Ar As At) fun r10=>(kn r10.2 (gL r10.1.cells 0) (gL r10.1.cells 1) (gL r10.1.cells 2)))else none)else none)else none)else(bif hd a3 a3.length then(bif hd a4 a4.length then(bif hd a5 a5.length then(kn v8 a3 a4 a5)else none)else none)else none)))))))
def q6f:=hull (qol)
theorem qbgs:q6f=qol:=qa _
def qbik:SubB Tryz.prog (TIof Tryz.prog) 115 0 (kret [(.cell 4 true 3),.t 5] qyr):=jnB Tryz.f14 47 (.s .z (.b (.s .z (.s (.r [(4,.k qbhv.b)] [.snapb 0,.sel [2,4,8] [0,2]]) (.s .z (.s (.s (.r [(5,.k qbpi.b)] []) (.s (.sub [.snapb 0,.sel [2,4,8] [0,2]] qbij []) (.s (.v [.sel [2,4,8] [0,1]]) (.v [.sel [2,4,8] [0,1]])))) (.s .z (.s (.r [(15,.k q1l.b)] [.snapb 0,.sel [2,4,8] [0,2]]) (.s .z (.s (.r [(3,.r qbn2.r)] [.snapb 0,.sel [2,4,8] [0,2]]) (.s .z (.s (.r [(3,.r qs4.r)] [.snapb 0,.sel [2,4,8] [0,2]]) (.s .z (.s (.r [(5,.k qbpu.b)] [.sel [2,4,8] [0,2]]) (.v [.snapb 0,.sel [2,4,8] [0,2]]))))))))))))))) S89_ (qol) (fun f v K=>f (v.i 32 0) (v.i 7 0) (v.b 7 1) (v.i 7 2) (v.i 7 3) (v.i 7 4) (v.i 7 5) (v.s 7 6) (v.s 7 7) (v.i 7 8) (v.i 7 9) (v.i 7 10) (v.s 7 11) (v.b 7 12) (v.i 7 13) (v.i 7 14) (v.i 7 15) (v.s 7 16) (v.r 3) (v.r 4) (v.r 5) (qbgr K))
def qv0 (Aa Ab Ac:LA)(B7:Int)(B8:Bool)(B9 Ca Cb Cc:Int)(Cd Ce:LU)(C0 C1 C2:Int)(C3:LU)(C4:Bool)(C5 C6 C7:Int)(C8:LU):Option (AV×Int):=
 (oB (q9r B7 B8 B9 Ca Cb Cc Cd Ce C0 C1 C2 C3 C4 C5 C6 C7 C8) fun r1=>(bif((!r1.2)||(!(((gI r1.1.cells 0)==B7)&&(((gB r1.1.cells 1)==B8)&&(((gI r1.1.cells 2)==B9)&&(((gI r1.1.cells 3)==Ca)&&(((gI r1.1.cells 4)==Cb)&&(((gI r1.1.cells 5)==Cc)&&(((gS r1.1.cells 6)==Cd)&&(((gS r1.1.cells 7)==Ce)&&(((gI r1.1.cells 8)==C0)&&(((gI r1.1.cells 9)==C1)&&(((gI r1.1.cells 10)==C2)&&(((gS r1.1.cells 11)==C3)&&(((gB r1.1.cells 12)==C4)&&(((gI r1.1.cells 13)==C5)&&(((gI r1.1.cells 14)==C6)&&(((gI r1.1.cells 15)==C7)&&(((gS r1.1.cells 16)==C8)&&true)))))))))))))))))))then(some ((.agg [(.sl 8 ([]:List AV)),(.sl 5 ([]:List AV)),(.sl 1 ([]:List AV))]),1))else(oB (qvl Aa Ab Ac) fun r2=>(bif(hd (gL r2.cells 0) ((gL r2.cells 0).length)&&(hd (gL r2.cells 1) ((gL r2.cells 1).length)&&(hd (gL r2.cells 2) ((gL r2.cells 2).length)&&true)))then(q6f 0 B7 B8 B9 Ca Cb Cc Cd Ce C0 C1 C2 C3 C4 C5 C6 C7 C8 (gL r2.cells 0) (gL r2.cells 1) (gL r2.cells 2) (fun v8q3 b0_0q4 b0_1q5 b0_2q6=>(bif(v8q3 != 0)then(some ((.agg [(.sl 8 ([]:List AV)),(.sl 5 ([]:List AV)),(.sl 1 ([]:List AV))]),v8q3))else(some ((.agg [(.sl 8 b0_0q4),(.sl 5 b0_1q5),(.sl 1 b0_2q6)]),0)))))else none))))
def qfq:=hull qv0
theorem qbpv:qfq=qv0:=qa _
def qv1 {R:Type}:EntF Tryz.prog R:=entB (nt:=115) (dec:=qyr) (enc:=(fun r=>.tup [qfe (.st [(.sl 8),(.sl 5),(.sl 1)]) r.1,.int .i64 r.2])) Tryz.func14 [(.cell 4 true 3),.t 5] (hdeN fun _=>rfl) (.s .z (.s (.s (.r [(1,.c qbu3.b)] []) (.s (.r [(3,.g 3)] []) (.s (.s .z (.v [.nilc 2 0 8,.nilc 2 1 5,.nilc 2 2 1])) .z))) (.s (.r [(1,.c qz0.b)] []) (.s .z (.s (.sub [.sel [2,3,4,8] [0,1,2,4,5,6]] qbik []) (.s (.s .z (.s (.s .z (.v [.nilc 1 0 8,.nilc 1 1 5,.nilc 1 2 1])) .z)) .z)))))) S90_ qv0 (fun f v=>f (v.l 1 0) (v.l 1 1) (v.l 1 2) (v.i 5 0) (v.b 5 1) (v.i 5 2) (v.i 5 3) (v.i 5 4) (v.i 5 5) (v.s 5 6) (v.s 5 7) (v.i 5 8) (v.i 5 9) (v.i 5 10) (v.s 5 11) (v.b 5 12) (v.i 5 13) (v.i 5 14) (v.i 5 15) (v.s 5 16))
def q3h (Aa Ab Ac:LA)(B7:Int)(B8:Bool)(B9 Ca Cb Cc:Int)(Cd Ce:LU)(C0 C1 C2:Int)(C3:LU)(C4:Bool)(C5 C6 C7:Int)(C8:LU):Option AV:=
 (oB (qps Aa B8 B9 Ca Cb C1 C2 Cd Ce) fun r1=>(oB (qso r1.1 (gB r1.2.1.cells 0) (gI r1.2.1.cells 1) (gI r1.2.1.cells 2) (gI r1.2.1.cells 3)) fun r2=>(some (.agg [(.bool (gB r2.1.cells 0)),(.int .u64 (gI r2.1.cells 1)),(.int .u64 (gI r2.1.cells 2)),(.int .i64 (gI r2.1.cells 3)),(.int .i64 (gI r2.1.cells 4)),(.str (gS r2.1.cells 5)),(.str (gS r2.1.cells 6)),(.int .i64 (gI r2.1.cells 7))]))))
def qbn5:=hull q3h
def qbil {R:Type}:EntF Tryz.prog R:=entB (nt:=37) (dec:=(decT [.b,(.i .u64),(.i .u64),(.i .i64),(.i .i64),.s,.s,(.i .i64)])) (enc:=(qfe (.st [.b,(.i .u64),(.i .u64),(.i .i64),(.i .i64),.s,.s,(.i .i64)]))) Tryz.func52 [(.cell 4 true 8)] hdeT (.s .z (.s (.r [(15,.k q1l.b)] []) (.s (.r [(2,.c qx2.b)] []) .z))) S90_ q3h (fun f v=>f (v.l 1 0) (v.l 1 1) (v.l 1 2) (v.i 5 0) (v.b 5 1) (v.i 5 2) (v.i 5 3) (v.i 5 4) (v.i 5 5) (v.s 5 6) (v.s 5 7) (v.i 5 8) (v.i 5 9) (v.i 5 10) (v.s 5 11) (v.b 5 12) (v.i 5 13) (v.i 5 14) (v.i 5 15) (v.s 5 16))
def qbim:AV->Option (AV×Int):=decN [(.st [(.i .i64),.b,(.i .u64),(.i .u64),(.i .i64),(.i .i64),.s,.s,(.i .i64),(.i .i64),(.i .i64),.s,.b,(.i .u64),(.i .u64),(.i .i64),.s]),(.one (.i .i64))] fun z=>((gC (tpL z) 0),aI (gC (tpL z) 1))
def qq8 (Aa Ab Ac:LA)(B7:Int)(B8:Bool)(B9 Ca Cb Cc:Int)(Cd Ce:LU)(C0 C1 C2:Int)(C3:LU)(C4:Bool)(C5 C6 C7:Int)(C8:LU):Option (AV×Int):=
 (oB (qfq Aa Ab Ac B7 B8 B9 Ca Cb Cc Cd Ce C0 C1 C2 C3 C4 C5 C6 C7 C8) fun r1=>(bif(r1.2 != 0)then(some ((.agg [(.int .i64 0),(.bool false),(.int .u64 0),(.int .u64 0),(.int .i64 0),(.int .i64 0),(.str ([]:List UInt8)),(.str ([]:List UInt8)),(.int .i64 0),(.int .i64 0),(.int .i64 0),(.str ([]:List UInt8)),(.bool false),(.int .u64 0),(.int .u64 0),(.int .i64 0),(.str ([]:List UInt8))]),r1.2))else(bif(B7==1)then(some ((.agg [(.int .i64 2),(.bool B8),(.int .u64 B9),(.int .u64 Ca),(.int .i64 Cb),(.int .i64 0),(.str ([]:List UInt8)),(.str ([]:List UInt8)),(.int .i64 0),(.int .i64 0),(.int .i64 0),(.str ([]:List UInt8)),(.bool false),(.int .u64 0),(.int .u64 0),(.int .i64 0),(.str ([]:List UInt8))]),0))else(bif(B7==2)then(oB (qso Aa B8 B9 Ca Cb) fun r2=>(some ((.agg [(.int .i64 1),(.bool (gB r2.1.cells 0)),(.int .u64 (gI r2.1.cells 1)),(.int .u64 (gI r2.1.cells 2)),(.int .i64 (gI r2.1.cells 3)),(.int .i64 (gI r2.1.cells 4)),(.str (gS r2.1.cells 5)),(.str (gS r2.1.cells 6)),(.int .i64 (gI r2.1.cells 7)),(.int .i64 0),(.int .i64 0),(.str ([]:List UInt8)),(.bool false),(.int .u64 0),(.int .u64 0),(.int .i64 0),(.str ([]:List UInt8))]),0)))else(bif(B7==3)then(oB (qbn5 Aa Ab Ac B7 B8 B9 Ca Cb Cc Cd Ce C0 C1 C2 C3 C4 C5 C6 C7 C8) fun r3=>(some ((.agg [(.int .i64 2),(.bool (gB r3.cells 0)),(.int .u64 (gI r3.cells 1)),(.int .u64 (gI r3.cells 2)),(.int .i64 (gI r3.cells 3)),(.int .i64 0),(.str ([]:List UInt8)),(.str ([]:List UInt8)),(.int .i64 0),(.int .i64 0),(.int .i64 0),(.str ([]:List UInt8)),(.bool false),(.int .u64 0),(.int .u64 0),(.int .i64 0),(.str ([]:List UInt8))]),0)))else(bif(B7==4)then(some ((.agg [(.int .i64 5),(.bool false),(.int .u64 0),(.int .u64 0),(.int .i64 0),(.int .i64 0),(.str ([]:List UInt8)),(.str ([]:List UInt8)),(.int .i64 0),(.int .i64 0),(.int .i64 0),(.str C3),(.bool C4),(.int .u64 C5),(.int .u64 C6),(.int .i64 0),(.str ([]:List UInt8))]),0))else(bif(B7==5)then(oB (qvl Aa Ab Ac) fun r4=>(bif hd (gL r4.cells 0) ((gL r4.cells 0).length)then(bif hd (gL r4.cells 1) ((gL r4.cells 1).length)then(bif hd (gL r4.cells 2) ((gL r4.cells 2).length)then(bif(hd (gL r4.cells 0) ((gL r4.cells 0).length)&&(hd (gL r4.cells 1) ((gL r4.cells 1).length)&&(hd (gL r4.cells 2) ((gL r4.cells 2).length)&&true)))then(oB (qmj C3 C4 C5 C6 C7 (gL r4.cells 0) (gL r4.cells 1) (gL r4.cells 2)) fun r5=>(some ((.agg [(.int .i64 4),(.bool false),(.int .u64 0),(.int .u64 0),(.int .i64 0),(.int .i64 0),(.str ([]:List UInt8)),(.str ([]:List UInt8)),(.int .i64 0),(.int .i64 0),(.int .i64 0),(.str (gS r5.2.1.cells 0)),(.bool (gB r5.2.1.cells 1)),(.int .u64 (gI r5.2.1.cells 2)),(.int .u64 (gI r5.2.1.cells 3)),(.int .i64 (gI r5.2.1.cells 4)),(.str ([]:List UInt8))]),0)))else none)else none)else none)else none))else(some ((.agg [(.int .i64 6),(.bool false),(.int .u64 0),(.int .u64 0),(.int .i64 0),(.int .i64 0),(.str ([]:List UInt8)),(.str ([]:List UInt8)),(.int .i64 0),(.int .i64 0),(.int .i64 0),(.str C8),(.bool C4),(.int .u64 C5),(.int .u64 C6),(.int .i64 0),(.str C3)]),0)))))))))
def qv2:=hull qq8
theorem qbl0:qv2=qq8:=qa _
def qbn6 {R:Type}:EntF Tryz.prog R:=entB (nt:=86) (dec:=qbim) (enc:=(fun r=>.tup [qfe (.st [(.i .i64),.b,(.i .u64),(.i .u64),(.i .i64),(.i .i64),.s,.s,(.i .i64),(.i .i64),(.i .i64),.s,.b,(.i .u64),(.i .u64),(.i .i64),.s]) r.1,.int .i64 r.2])) Tryz.func17 [(.cell 4 true 17),.t 5] (hdeN fun _=>rfl) (.s .z (.s (.s (.r [(2,.k qv1.b)] []) .z) (.s (.s .z (.b (.s .z (.s .z (.s .z (.s (.s (.r [(5,.c qx2.b)] []) .z) (.s .z (.s (.s (.r [(2,.c qbil.b)] []) .z) (.s .z (.s .z (.s .z (.s (.s (.d5 [] [(1,qz0.eat),(4,qs4)] [] []) .z) .z)))))))))))) .z))) S90_ qq8 (fun f v=>f (v.l 1 0) (v.l 1 1) (v.l 1 2) (v.i 5 0) (v.b 5 1) (v.i 5 2) (v.i 5 3) (v.i 5 4) (v.i 5 5) (v.s 5 6) (v.s 5 7) (v.i 5 8) (v.i 5 9) (v.i 5 10) (v.s 5 11) (v.b 5 12) (v.i 5 13) (v.i 5 14) (v.i 5 15) (v.s 5 16))
end
end Go.Proofs.YtoaaphlopbabeaaGreatDoor.Dn
