import Derived.Test.YtoaaphlopbabeaaGreatDoorProg
import Derived.Test.YtoaaphlopbabeaaGreatDoorCULibD
import Derived.Test.YtoaaphlopbabeaaGreatDoorCUDn51x2
set_option linter.all false
namespace Go.Proofs.YtoaaphlopbabeaaGreatDoor.Dn
open Go Go.Pev
set_option maxRecDepth 100000
set_option maxHeartbeats 4000000
noncomputable section
def qri (Aa Ab Ac:LA):Option Bool:=
 (some ((((Aa.length:Int)==0)&&((Ab.length:Int)==0))&&((Ac.length:Int)==0)))
def qpq:=hull qri
theorem q8e:qpq=qri:=qa _
def q9r {R:Type}:EntF Tryz.prog R:=entB (nt:=19) (dec:=decB) (enc:=AV.bool) tabOk follows Tryz.func24 [.t 2] hdeB (.s .z (.s (.r [(5,.g 4),(11,.g 4)] []) .z)) S4_ qri (fun f v=>f (v.l 1 0) (v.l 1 1) (v.l 1 2))
def S149_:Shp:=⟨[(5,.one (.ptr 0 0)),(6,.one (.l (.i .i64))),(7,.one (.ptr 1 0)),(8,.one (.l (.i .i64)))],[.box true (lk qby),.box true (lk qg5)]⟩
def qtl (Av Aw Ax:LA)(Ad:Int)(Ae:Bool)(Af Ag Ah Ai:Int)(Aj Ak:LU)(Al Am An:Int)(Ao:LU)(Ap:Bool)(Aq Ar As:Int)(At:LU)(K:Ex->Env->Mem->Option Bool):=(fun z_v17=>K .norm (qo [(2,(.ptr 0 0)),(3,(.ptr 1 0)),(17,(.bool z_v17))]) (qh [(some (.box true (qcg Av Aw Ax))),(some (.box true (qqw Ad Ae Af Ag Ah Ai Aj Ak Al Am An Ao Ap Aq Ar As At)))]))
def qez (Av Aw Ax:LA)(Ad:Int)(Ae:Bool)(Af Ag Ah Ai:Int)(Aj Ak:LU)(Al Am An:Int)(Ao:LU)(Ap:Bool)(Aq Ar As:Int)(At:LU)(kn:Bool->Option Bool):Option Bool:=
 (oB (qqu Av Aw Ax ([]:List AV)) fun r1=>(bif r1 then(kn true)else(oB (qv2 Av Aw Ax) fun r2=>(kn (r2 != (0:Int))))))
def qnp:=hull (qez)
theorem qtm:qnp=qez:=qa _
def qud:SubB Tryz.prog (TIof Tryz.prog) 68 0 (kret [.t 4] decB):=jnB tabOk follows Tryz.f8 9 (.r [(1,.c q52.b),(4,.c qbb7.b)] [.sel [2,3,17] [0,1]]) S140_ (qez) (fun f v K=>f (v.l 3 0) (v.l 3 1) (v.l 3 2) (v.i 7 0) (v.b 7 1) (v.i 7 2) (v.i 7 3) (v.i 7 4) (v.i 7 5) (v.s 7 6) (v.s 7 7) (v.i 7 8) (v.i 7 9) (v.i 7 10) (v.s 7 11) (v.b 7 12) (v.i 7 13) (v.i 7 14) (v.i 7 15) (v.s 7 16) (qtl (v.l 3 0) (v.l 3 1) (v.l 3 2) (v.i 7 0) (v.b 7 1) (v.i 7 2) (v.i 7 3) (v.i 7 4) (v.i 7 5) (v.s 7 6) (v.s 7 7) (v.i 7 8) (v.i 7 9) (v.i 7 10) (v.s 7 11) (v.b 7 12) (v.i 7 13) (v.i 7 14) (v.i 7 15) (v.s 7 16) K))
def qse (K:Ex->Env->Mem->Option Bool):=(fun z_v4=>K .norm (qo [(4,(.bool z_v4))]) (qh []))
def qel (v6 v8:Int)(Av Aw Ax:LA)(Ad:Int)(Ae:Bool)(Af Ag Ah Ai:Int)(Aj Ak:LU)(Al Am An:Int)(Ao:LU)(Ap:Bool)(Aq Ar As:Int)(At:LU)(kn:Bool->Option Bool):Option Bool:=
 (bif((v6==v8)&&((Ad==0)&&((Ae==false)&&((Af==0)&&((Ag==0)&&((Ah==0)&&((Ai==0)&&((Aj==([]:List UInt8))&&((Ak==([]:List UInt8))&&((Al==0)&&((Am==0)&&((An==0)&&((Ao==([]:List UInt8))&&((Ap==false)&&((Aq==0)&&((Ar==0)&&((As==0)&&((At==([]:List UInt8))&&true))))))))))))))))))then(oB (qpq Av Aw Ax) fun r1=>(bif r1 then(oB (qks) fun r2=>(kn r2))else(kn false)))else(kn false))
def qm7:=hull (qel)
theorem qsf:qm7=qel:=qa _
def qtn:SubB Tryz.prog (TIof Tryz.prog) 68 0 (kret [.t 4] decB):=jnB tabOk follows Tryz.f8 303 (.r [(4,.g 3),(10,.c q9r.b),(13,.c qp2.b)] [.sel [4] []]) S149_ (qel) (fun f v K=>f (v.i 24 0) (v.i 32 0) (v.l 3 0) (v.l 3 1) (v.l 3 2) (v.i 7 0) (v.b 7 1) (v.i 7 2) (v.i 7 3) (v.i 7 4) (v.i 7 5) (v.s 7 6) (v.s 7 7) (v.i 7 8) (v.i 7 9) (v.i 7 10) (v.s 7 11) (v.b 7 12) (v.i 7 13) (v.i 7 14) (v.i 7 15) (v.s 7 16) (qse K))
def qgb (Aa Ab Ac:LA)(B7:Int)(B8:Bool)(B9 Ca Cb Cc:Int)(Cd Ce:LU)(C0 C1 C2:Int)(C3:LU)(C4:Bool)(C5 C6 C7:Int)(C8:LU):Option Bool:=
 (qnp Aa Ab Ac B7 B8 B9 Ca Cb Cc Cd Ce C0 C1 C2 C3 C4 C5 C6 C7 C8 (fun v17q1=>(bif v17q1 then(oB (qks) fun r2=>(some r2))else(oB (qdv Aa Ab Ac B7 B8 B9 Ca Cb Cc Cd Ce C0 C1 C2 C3 C4 C5 C6 C7 C8) fun r3=>(oB (qir Aa Ab Ac B7 B8 B9 Ca Cb Cc Cd Ce C0 C1 C2 C3 C4 C5 C6 C7 C8) fun r4=>(bif((r3.2 != (0:Int))||(r4.2 != (0:Int)))then(qm7 r3.2 r4.2 (gL r3.1.cells 0) (gL r3.1.cells 1) (gL r3.1.cells 2) (gI r4.1.cells 0) (gB r4.1.cells 1) (gI r4.1.cells 2) (gI r4.1.cells 3) (gI r4.1.cells 4) (gI r4.1.cells 5) (gS r4.1.cells 6) (gS r4.1.cells 7) (gI r4.1.cells 8) (gI r4.1.cells 9) (gI r4.1.cells 10) (gS r4.1.cells 11) (gB r4.1.cells 12) (gI r4.1.cells 13) (gI r4.1.cells 14) (gI r4.1.cells 15) (gS r4.1.cells 16) (fun v4q5=>(some v4q5)))else(oB (qdv (gL r3.1.cells 0) (gL r3.1.cells 1) (gL r3.1.cells 2) (gI r4.1.cells 0) (gB r4.1.cells 1) (gI r4.1.cells 2) (gI r4.1.cells 3) (gI r4.1.cells 4) (gI r4.1.cells 5) (gS r4.1.cells 6) (gS r4.1.cells 7) (gI r4.1.cells 8) (gI r4.1.cells 9) (gI r4.1.cells 10) (gS r4.1.cells 11) (gB r4.1.cells 12) (gI r4.1.cells 13) (gI r4.1.cells 14) (gI r4.1.cells 15) (gS r4.1.cells 16)) fun r6=>(bif(r6.2==0)then(oB (qpp (gL r6.1.cells 0) (gL r6.1.cells 1) (gL r6.1.cells 2) Aa Ab Ac) fun r7=>(bif r7 then(oB (qks) fun r8=>(some r8))else(some false)))else(some false)))))))))
def qhu:=hull qgb
theorem qv3:qhu=qgb:=qa _
def qw9 {R:Type}:EntF Tryz.prog R:=entB (nt:=68) (dec:=decB) (enc:=AV.bool) tabOk follows Tryz.func8 [.t 4] hdeB (.s .z (.s (.s (.sub [.sel [2,3] [0,1]] qud []) (.s (.s (.r [(0,.c qp2.b)] []) .z) .z)) (.s (.r [(2,.k qkr.b)] []) (.s (.r [(2,.c qvx.b)] []) (.s (.s (.r [(3,.g 2)] []) (.s (.s (.sub [.sel [5,6,7,8] [2,3]] qtn []) .z) .z)) (.s (.r [(2,.k qkr.b)] []) (.s (.r [(5,.c q9q.b),(8,.c qp2.b)] []) .z))))))) S90_ qgb (fun f v=>f (v.l 1 0) (v.l 1 1) (v.l 1 2) (v.i 5 0) (v.b 5 1) (v.i 5 2) (v.i 5 3) (v.i 5 4) (v.i 5 5) (v.s 5 6) (v.s 5 7) (v.i 5 8) (v.i 5 9) (v.i 5 10) (v.s 5 11) (v.b 5 12) (v.i 5 13) (v.i 5 14) (v.i 5 15) (v.s 5 16))
end
end Go.Proofs.YtoaaphlopbabeaaGreatDoor.Dn
