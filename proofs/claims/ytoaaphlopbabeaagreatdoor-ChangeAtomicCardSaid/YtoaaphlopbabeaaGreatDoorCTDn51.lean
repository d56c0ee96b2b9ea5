import Derived.Test.YtoaaphlopbabeaaGreatDoorProg
import Derived.Test.YtoaaphlopbabeaaGreatDoorCTLibD
import Derived.Test.YtoaaphlopbabeaaGreatDoorCTDn51x2
set_option linter.all false
namespace Go.Proofs.YtoaaphlopbabeaaGreatDoor.Dn
open Go Go.Pev
set_option maxRecDepth 100000
set_option maxHeartbeats 4000000
noncomputable section
def qrj (Aa Ab Ac:LA):Option Bool:=
 (some ((((Aa.length:Int)==0)&&((Ab.length:Int)==0))&&((Ac.length:Int)==0)))
def qh0:=hull qrj
theorem q8o:qh0=qrj:=qa _
def qrk {R:Type}:EntF Tryz.prog R:=entB (nt:=19) (dec:=decB) (enc:=AV.bool) tabOk follows Tryz.func24 [.t 2] hdeB (.s .z (.s (.r [(5,.g 4),(11,.g 4)] []) .z)) S4_ qrj (fun f v=>f (v.l 1 0) (v.l 1 1) (v.l 1 2))
def S150_:Shp:=⟨[(5,.one (.ptr 0 0)),(6,.one (.l (.i .i64))),(7,.one (.l (.i .i64)))],[.box true (lk qbg)]⟩
def S151_:Shp:=⟨[(5,.one (.ptr 0 0)),(6,.one (.l (.i .i64))),(7,.one (.l (.i .i64))),(9,.one (.l (.i .i64))),(11,.one (.ptr 1 0)),(12,.one (.l (.i .i64)))],[.box true (lk qbg),.box true (lk qbg)]⟩
def S152_:Shp:=⟨[(1,.one (.l (.sl 17))),(5,.one (.ptr 0 0)),(6,.one (.l (.i .i64))),(7,.one (.l (.i .i64))),(8,.one (.ptr 1 0)),(46,.one (.l (.sl 17))),(47,.one (.l (.i .i64))),(48,.one (.l (.i .i64)))],[.box true (lk qbg),.box true (lk qbg)]⟩
def qtu (v1 Av Aw Ax:LA)(K:Ex->Env->Mem->Option Bool):=(fun z_v20=>K .norm (qo [(1,(.sl 17 v1)),(2,(.ptr 0 0)),(20,(.bool z_v20))]) (qh [(some (.box true (qbv Av Aw Ax)))]))
def qe0 (v1 Av Aw Ax:LA)(kn:Bool->Option Bool):Option Bool:=
 (oB (qqv Av Aw Ax v1) fun r1=>(bif r1 then(kn true)else(oB (qiu Av Aw Ax) fun r2=>(kn (r2 != (0:Int))))))
def qnr:=hull (qe0)
theorem qtv:qnr=qe0:=qa _
def qun:SubB Tryz.prog (TIof Tryz.prog) 103 0 (kret [.t 4] decB):=jnB tabOk follows Tryz.f9 9 (.r [(2,.c q57.b),(5,.c qzf.b)] [.sel [1,2,20] [0]]) S143_ (qe0) (fun f v K=>f (v.l 4 0) (v.l 3 0) (v.l 3 1) (v.l 3 2) (qtu (v.l 4 0) (v.l 3 0) (v.l 3 1) (v.l 3 2) K))
def qsh (K:Ex->Env->Mem->Option Bool):=(fun z_v4=>K .norm (qo [(4,(.bool z_v4))]) (qh []))
def qeo (v6 v7:Int)(Av Aw Ax:LA)(kn:Bool->Option Bool):Option Bool:=
 (bif((v7==9)&&(v6==0))then(oB (qh0 Av Aw Ax) fun r1=>(bif r1 then(oB (qiq) fun r2=>(kn r2))else(kn false)))else(kn false))
def qm8:=hull (qeo)
theorem qsi:qm8=qeo:=qa _
def qtw:SubB Tryz.prog (TIof Tryz.prog) 103 0 (kret [.t 4] decB):=jnB tabOk follows Tryz.f9 151 (.r [(3,.g 2),(8,.c qrk.b),(11,.c qlj.b)] [.sel [4] []]) S150_ (qeo) (fun f v K=>f (v.i 24 0) (v.i 28 0) (v.l 3 0) (v.l 3 1) (v.l 3 2) (qsh K))
def qsj (K:Ex->Env->Mem->Option Bool):=(fun z_v4=>K .norm (qo [(4,(.bool z_v4))]) (qh []))
def qep (v6 v7 v9 v12:Int)(Av Aw Ax Ad Ae Af:LA)(kn:Bool->Option Bool):Option Bool:=
 (bif((v7==v12)&&(v6==v9))then(oB (qh0 Av Aw Ax) fun r1=>(bif r1 then(oB (qh0 Ad Ae Af) fun r2=>(bif r2 then(oB (qiq) fun r3=>(kn r3))else(kn false)))else(kn false)))else(kn false))
def qm9:=hull (qep)
theorem qsk:qm9=qep:=qa _
def qtx:SubB Tryz.prog (TIof Tryz.prog) 103 0 (kret [.t 4] decB):=jnB tabOk follows Tryz.f9 616031 (.r [(4,.g 3),(10,.c qrk.b),(14,.c qrk.b),(17,.c qlj.b)] [.sel [4] []]) S151_ (qep) (fun f v K=>f (v.i 24 0) (v.i 28 0) (v.i 36 0) (v.i 48 0) (v.l 3 0) (v.l 3 1) (v.l 3 2) (v.l 7 0) (v.l 7 1) (v.l 7 2) (qsj K))
def qj5 (v1:LA)(v6 v7:Int)(Av Aw Ax:LA)(K:Ex->Env->Mem->Option Bool):=(fun z_b1_0 z_b1_1 z_b1_2=>K (.exit 0) (qo [(1,(.sl 17 v1)),(5,(.ptr 0 0)),(6,(.int .i64 v6)),(7,(.int .i64 v7)),(8,(.ptr 1 0))]) (qh [(some (.box true (qbv Av Aw Ax))),(some (.box true (qbv z_b1_0 z_b1_1 z_b1_2)))]))
def qdr (v1:LA)(v6 v7:Int)(v46:LA)(v47 v48:Int)(Av Aw Ax Ad Ae Af:LA)(next:Int->(List AV)->(List AV)->(List AV)->Option Bool)(kx0:(List AV)->(List AV)->(List AV)->Option Bool):Option Bool:=
 (bif(decide (v48<v47))then(oB (ixB v46 v48) fun y1=>(bif fitC qd8 y1.cells then(oB (qdl Ad Ae Af (gI y1.cells 0) (gB y1.cells 1) (gI y1.cells 2) (gI y1.cells 3) (gI y1.cells 4) (gI y1.cells 5) (gS y1.cells 6) (gS y1.cells 7) (gI y1.cells 8) (gI y1.cells 9) (gI y1.cells 10) (gS y1.cells 11) (gB y1.cells 12) (gI y1.cells 13) (gI y1.cells 14) (gI y1.cells 15) (gS y1.cells 16)) fun r2=>(bif(r2.2 != (0:Int))then(qm9 v6 v7 v48 r2.2 Av Aw Ax (gL r2.1.cells 0) (gL r2.1.cells 1) (gL r2.1.cells 2) (fun v4q3=>(some v4q3)))else(next (IntKind.i64.wrap (v48+1)) (gL r2.1.cells 0) (gL r2.1.cells 1) (gL r2.1.cells 2))))else none))else(kx0 Ad Ae Af))
def qds (v1:LA)(v6 v7:Int)(v46:LA)(v47:Int)(Av Aw Ax:LA)(kx0:(List AV)->(List AV)->(List AV)->Option Bool):Nat->Int->(List AV)->(List AV)->(List AV)->Option Bool
 |0=>(fun _ _ _ _=>none)
 |n+1=>(fun v48 Ad Ae Af=>qdr v1 v6 v7 v46 v47 v48 Av Aw Ax Ad Ae Af (qds v1 v6 v7 v46 v47 Av Aw Ax kx0 n) kx0)
def qii:=hull (qds)
theorem qsl:qii=qds:=qa _
def qty:SubB Tryz.prog (TIof Tryz.prog) 103 0 (kret [.t 4] decB):=lpB tabOk follows Tryz.f9 607 (.s .z (.s (.s .z (.v [.sel [1,5,6,7,8] [0,1]])) (.s (.b (.s (.r [(1,.p (.etac 51 qd8))] []) (.s (.r [(2,.k qkt.b)] []) (.s (.s .z (.s (.s (.sub [.sel [5,6,7,9,11,12] [0,3]] qtx []) .z) .z)) .z)))) (.v [.sel [1,5,6,7,8,46,47,48] [0,1]])))) S152_ (qds) (fun f v K n=>f (v.l 4 0) (v.i 24 0) (v.i 28 0) (v.l 184 0) (v.i 188 0) (v.l 3 0) (v.l 3 1) (v.l 3 2) (qj5 (v.l 4 0) (v.i 24 0) (v.i 28 0) (v.l 3 0) (v.l 3 1) (v.l 3 2) K) n) (fun v f K=>qdr (v.l 4 0) (v.i 24 0) (v.i 28 0) (v.l 184 0) (v.i 188 0) (v.i 192 0) (v.l 3 0) (v.l 3 1) (v.l 3 2) (v.l 7 0) (v.l 7 1) (v.l 7 2) f (qj5 (v.l 4 0) (v.i 24 0) (v.i 28 0) (v.l 3 0) (v.l 3 1) (v.l 3 2) K)) (fun f v=>f (v.i 192 0) (v.l 7 0) (v.l 7 1) (v.l 7 2)) (fun k v=>(fun z0 z1 z2 z3=>k ((((v.ui 192 0 z0).ul 7 0 z1).ul 7 1 z2).ul 7 2 z3)))
def qgd (Aa Ab Ac v1:LA):Option Bool:=
 (qnr v1 Aa Ab Ac (fun v20q1=>(bif v20q1 then(oB (qiq) fun r2=>(some r2))else(oB (q0s Aa Ab Ac v1) fun r3=>(bif(decide ((v1.length:Int)>64))then(qm8 r3.2.1 r3.2.2 (gL r3.1.cells 0) (gL r3.1.cells 1) (gL r3.1.cells 2) (fun v4q4=>(some v4q4)))else(qii v1 r3.2.1 r3.2.2 v1 (v1.length:Int) (gL r3.1.cells 0) (gL r3.1.cells 1) (gL r3.1.cells 2) (fun b1_0q5 b1_1q6 b1_2q7=>(bif((r3.2.2==0)&&(r3.2.1==(v1.length:Int)))then(oB (qjd (gL r3.1.cells 0) (gL r3.1.cells 1) (gL r3.1.cells 2) b1_0q5 b1_1q6 b1_2q7) fun r8=>(bif r8 then(oB (qiu (gL r3.1.cells 0) (gL r3.1.cells 1) (gL r3.1.cells 2)) fun r9=>(bif(r9==0)then(oB (qiq) fun r10=>(some r10))else(some false)))else(some false)))else(some false))) FU (0:Int) Aa Ab Ac))))))
def qhu:=hull qgd
theorem qwb:qhu=qgd:=qa _
def qxe {R:Type}:EntF Tryz.prog R:=entB (nt:=103) (dec:=decB) (enc:=AV.bool) tabOk follows Tryz.func9 [.t 4] hdeB (.s .z (.s (.s (.sub [.sel [1,2] [0]] qun []) (.s (.s (.r [(0,.c qlj.b)] []) .z) .z)) (.s (.r [(2,.k qbf3.b)] []) (.s (.s .z (.s (.s (.sub [.sel [5,6,7] [1]] qtw []) .z) .z)) (.s .z (.s (.s .z (.b (.sub [.sel [1,5,6,7,8,46,47,48] [1,2]] qty []))) (.s (.r [(3,.g 4),(11,.c q9z.b),(15,.c qzf.b),(19,.c qlj.b)] []) .z))))))) S0_ qgd (fun f v=>f (v.l 1 0) (v.l 1 1) (v.l 1 2) (v.l 4 0))
end
end Go.Proofs.YtoaaphlopbabeaaGreatDoor.Dn
