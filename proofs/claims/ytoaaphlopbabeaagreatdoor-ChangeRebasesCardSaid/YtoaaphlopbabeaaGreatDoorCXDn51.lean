import Derived.Test.YtoaaphlopbabeaaGreatDoorProg
import Derived.Test.YtoaaphlopbabeaaGreatDoorCXLibD
import Derived.Test.YtoaaphlopbabeaaGreatDoorCXDn51x2
set_option linter.all false
namespace Go.Proofs.YtoaaphlopbabeaaGreatDoor.Dn
open Go Go.Pev
set_option maxRecDepth 100000
set_option maxHeartbeats 4000000
def qzw (v2 Av Aw Ax Ad Ae Af:LA)(K:Ex->Env->Mem->Option Bool):=(fun z_v27=>K .norm (qk [(2,(.sl 17 v2)),(3,(.ptr 0 0)),(4,(.ptr 1 0)),(27,(.bool z_v27))]) (qh [(some (.box true (qbr Av Aw Ax))),(some (.box true (qbr Ad Ae Af)))]))
noncomputable section
def qe6 (v2 Av Aw Ax Ad Ae Af:LA)(kn:Bool->Option Bool):Option Bool:=
 (oB (qrg Av Aw Ax v2) fun r1=>(bif r1 then(kn true)else(oB (qrg Ad Ae Af v2) fun r2=>(bif r2 then(kn true)else(oB (qt7 Av Aw Ax) fun r3=>(bif(r3 != (0:Int))then(kn true)else(oB (qt7 Ad Ae Af) fun r4=>(kn (r4 != (0:Int))))))))))
def qsj:=hull (qe6)
theorem qzx:qsj=qe6:=qa _
def q1k:SubB Tryz.prog (TIof Tryz.prog) 57 0 (kret [.t 6] decB):=jnB tabOk follows Tryz.f6 9 (.r [(2,.c q2k.b),(6,.c q2k.b),(10,.c q4r.b),(15,.c q4r.b)] [.sel [2,3,4,27] [0,1]]) S148_ (qe6) (fun f v K=>f (v.l 8 0) (v.l 3 0) (v.l 3 1) (v.l 3 2) (v.l 7 0) (v.l 7 1) (v.l 7 2) (qzw (v.l 8 0) (v.l 3 0) (v.l 3 1) (v.l 3 2) (v.l 7 0) (v.l 7 1) (v.l 7 2) K))
def qg8 (Aa Ab Ac B7 B8 B9 v2:LA):Option Bool:=
 (qsj v2 Aa Ab Ac B7 B8 B9 (fun v27q1=>(bif v27q1 then(oB (qt4) fun r2=>(some r2))else(oB (qbb9 Aa Ab Ac v2) fun r3=>(oB (qv4 Aa Ab Ac B7 B8 B9 v2) fun r4=>(oB (qyg Aa Ab Ac B7 B8 B9 v2) fun r5=>(bif((r4==r5)&&true)then(oB (qv4 Aa Ab Ac Aa Ab Ac v2) fun r6=>(bif((r6==(r3.2.2==0))&&true)then(oB (qt4) fun r7=>(some r7))else(some false)))else(some false))))))))
def qiu:=hull qg8
theorem q3f:qiu=qg8:=qa _
def q42 {R:Type}:EntF Tryz.prog R:=entB (nt:=57) (dec:=decB) (enc:=AV.bool) tabOk follows Tryz.func6 [.t 6] hdeB (.s .z (.s (.s (.sub [.sel [2,3,4] [0,1]] q1k []) (.s (.s (.r [(0,.c q4l.b)] []) .z) .z)) (.s (.r [(2,.k qbva.b)] []) (.s (.d [] [(3,.c q6n.b),(7,.c qbld.b),(13,.c q6n.b)] [(3,.c q4l.b)] []) .z)))) S146_ qg8 (fun f v=>f (v.l 1 0) (v.l 1 1) (v.l 1 2) (v.l 5 0) (v.l 5 1) (v.l 5 2) (v.l 8 0))
end
end Go.Proofs.YtoaaphlopbabeaaGreatDoor.Dn
