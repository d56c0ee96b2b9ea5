import Derived.Test.YtoaaphlopbabeaaGreatDoorCILwA
set_option linter.all false
namespace Go.Proofs.YtoaaphlopbabeaaGreatDoor.Dn
open Go Go.Pev
set_option maxRecDepth 4000
structure Chg where
 k:Int
 v:Bool
 hi:Int
 lo:Int
 bits:Int
 bk:Int
 nm:List UInt8
 ow:List UInt8
 vl:Int
 nb:Int
 po:Int
 hn:List UInt8
 hv:Bool
 hhi:Int
 hlo:Int
 ht:Int
 tx:List UInt8
def Chg.av (c:Chg):AV:=.agg [(.int .i64 c.k),(.bool c.v),(.int .u64 c.hi),(.int .u64 c.lo),(.int .i64 c.bits),(.int .i64 c.bk),(.str c.nm),(.str c.ow),(.int .i64 c.vl),(.int .i64 c.nb),(.int .i64 c.po),(.str c.hn),(.bool c.hv),(.int .u64 c.hhi),(.int .u64 c.hlo),(.int .i64 c.ht),(.str c.tx)]
structure CFit (c:Chg):Prop where
 u1:uok c.hi
 u2:uok c.lo
 u3:uok c.hhi
 u4:uok c.hlo
 n1:c.nm.length<=9223372036854775807
 n2:c.ow.length<=9223372036854775807
 n3:c.hn.length<=9223372036854775807
 n4:c.tx.length<=9223372036854775807
def qop (k:Int):Bool:=k==1||k==2||k==3||k==4||k==5||k==6
def qbcc (c:Chg):Chg:=
 bif c.k==1 then⟨c.k,c.v,c.hi,c.lo,c.bits,c.bk,c.nm,c.ow,c.vl,0,0,[],false,0,0,0,[]⟩else
 bif c.k==2 then⟨c.k,c.v,c.hi,c.lo,c.bits,0,[],[],0,0,0,[],false,0,0,0,[]⟩else
 bif c.k==3 then⟨c.k,c.v,c.hi,c.lo,c.bits,0,c.nm,c.ow,0,c.nb,c.po,[],false,0,0,0,[]⟩else
 bif c.k==4 then⟨c.k,false,0,0,0,0,[],[],0,0,0,c.hn,c.hv,c.hhi,c.hlo,c.ht,[]⟩else
 bif c.k==5 then⟨c.k,false,0,0,0,0,[],[],0,0,0,c.hn,c.hv,c.hhi,c.hlo,0,[]⟩else
 bif c.k==6 then⟨c.k,false,0,0,0,0,[],[],0,0,0,c.hn,c.hv,c.hhi,c.hlo,0,c.tx⟩else
 ⟨c.k,false,0,0,0,0,[],[],0,0,0,[],false,0,0,0,[]⟩
def eqC (a b:Chg):Bool:=(a.k==b.k)&&((a.v==b.v)&&((a.hi==b.hi)&&((a.lo==b.lo)&&((a.bits==b.bits)&&((a.bk==b.bk)&&((a.nm==b.nm)&&((a.ow==b.ow)&&((a.vl==b.vl)&&((a.nb==b.nb)&&((a.po==b.po)&&((a.hn==b.hn)&&((a.hv==b.hv)&&((a.hhi==b.hhi)&&((a.hlo==b.hlo)&&((a.ht==b.ht)&&((a.tx==b.tx)&&true))))))))))))))))
theorem qb5u (c:Chg):q6g c.k c.v c.hi c.lo c.bits c.bk c.nm c.ow c.vl c.nb c.po c.hn c.hv c.hhi c.hlo c.ht c.tx=some ((qbcc c).av,qop c.k):=by
 rw[qbpi];unfold quy
 rw[qbib];unfold qor qbcc qop
 cases h1:(c.k==1)
 case true=>rfl
 cases h2:(c.k==2)
 case true=>rfl
 cases h3:(c.k==3)
 case true=>rfl
 cases h4:(c.k==4)
 case true=>rfl
 cases h5:(c.k==5)
 case true=>rfl
 cases h6:(c.k==6)
 case true=>rfl
 rfl
theorem qb5v (c:Chg):q1h c.k c.v c.hi c.lo c.bits c.bk c.nm c.ow c.vl c.nb c.po c.hn c.hv c.hhi c.hlo c.ht c.tx=some (qbcc c).av:=by
 rw[qbln];unfold qrs
 rw[qbdr];unfold qmp qbcc
 cases h1:(c.k==1)
 case true=>rfl
 cases h2:(c.k==2)
 case true=>rfl
 cases h3:(c.k==3)
 case true=>rfl
 cases h4:(c.k==4)
 case true=>rfl
 cases h5:(c.k==5)
 case true=>rfl
 cases h6:(c.k==6)
 case true=>rfl
 rfl
def okC (c:Chg):Bool:=qop c.k&&eqC (qbcc c) c
def blkC (c:Chg):AV:=mkB c.v c.hi c.lo c.bits c.bk c.nm c.ow c.vl
def qp1 (e:Int):Sp×Int:=(sp0,e)
def qx7 (s:Sp)(n:LU)(v:Bool)(hi lo t:Int):Sp×Int:=
 bif qi8 [mkH n v hi lo t] != 0 then qp1 (qi8 [mkH n v hi lo t])else bif s.h.any (atH n v hi lo)then qp1 12 else
 bif decide ((s.h.length:Int)>=256)then qp1 9 else bif !blkd s.b v hi lo then qp1 25 else bif !qn8 s.z n then qp1 13 else
 (⟨s.b,insH (mkH n v hi lo t) s.h,s.z⟩,0)
def hst0:AV:=mkH [] false 0 0 0
def outH (h:LA)(k:Nat):List AV:=h.take k++h.drop (k+1)
def hAt (h:LA)(k:Nat):AV:=h[k]?.getD hst0
def qls (s:Sp)(n:LU)(v:Bool)(hi lo:Int):Sp×AV×Int:=match idxO (atH n v hi lo) s.h with
 |none=>(sp0,hst0,11)
 |some k=>(⟨s.b,outH s.h k,s.z⟩,hAt s.h k,0)
def qx8 (s:Sp)(n:LU)(v:Bool)(hi lo:Int)(x:LU):Sp×Int:=match idxO (atH n v hi lo) s.h with
 |none=>qp1 11
 |some k=>bif qs4 x then qp1 2 else bif s.h.any (atH x v hi lo)then qp1 12 else bif !qn8 s.z x then qp1 13 else
  (⟨s.b,insH (mkH x v hi lo (gI (hAt s.h k).cells 4)) (outH s.h k),s.z⟩,0)
def lost (b h:LA):Bool:=h.any fun y=> !blkd b (gB y.cells 1) (gI y.cells 2) (gI y.cells 3)
def qbpf (s:Sp)(c:Chg):Sp×Int:=
 bif c.k==1 then bif(addF s.b (blkC c)).2 != 0 then qp1 (addF s.b (blkC c)).2 else(⟨(addF s.b (blkC c)).1,s.h,s.z⟩,0)else
 bif c.k==2 then bif(qdd s.b c.v c.hi c.lo c.bits).2 != 0 then qp1 (qdd s.b c.v c.hi c.lo c.bits).2 else bif lost (qdd s.b c.v c.hi c.lo c.bits).1 s.h then qp1 25 else(⟨(qdd s.b c.v c.hi c.lo c.bits).1,s.h,s.z⟩,0)else
 bif c.k==3 then bif(qi6 s.b ⟨c.v,c.hi,c.lo,c.bits⟩ c.nb c.po c.nm c.ow).2.2 != 0 then qp1 (qi6 s.b ⟨c.v,c.hi,c.lo,c.bits⟩ c.nb c.po c.nm c.ow).2.2 else(⟨(qi6 s.b ⟨c.v,c.hi,c.lo,c.bits⟩ c.nb c.po c.nm c.ow).1,s.h,s.z⟩,0)else
 bif c.k==4 then qx7 s c.hn c.hv c.hhi c.hlo c.ht else
 bif c.k==5 then((qls s c.hn c.hv c.hhi c.hlo).1,(qls s c.hn c.hv c.hhi c.hlo).2.2)else
 qx8 s c.hn c.hv c.hhi c.hlo c.tx
def qe2 (s:Sp)(c:Chg):Sp×Int:=bif okC c then qbpf s c else qp1 1
structure Wk (s:Sp):Prop where
 f:Fits s
 nb:s.b.length<=1000
 tb:qdx s.b
 nh:s.h.length<=1000
 ph:s.h.Pairwise ltH
 nz:s.z.length<=1000
theorem Plan.wk {s:Sp}(h:Plan s):Wk s:=⟨h.f,by have:=h.nb;omega,h.tb,by have:=h.nh;omega,h.ph,by have:=h.nz;omega⟩
theorem qb5w {l:LA}(hp:l.Pairwise ltH){n:LU}{v:Bool}{hi lo:Int}{r k:Nat}(hr:Cutt l n v hi lo r)(hk:idxO (atH n v hi lo) l=some k):r=k:=by
 obtain⟨y,hy,hf⟩:=qm7 l k hk
 have hat:=List.find?_some hf
 have h0:=q23.1 hat
 have h1:¬k<r:=fun h=>by have:=(hr.2 k y hy).2 h;omega
 have hkl:=(List.getElem?_eq_some_iff.1 hy).1
 rcases Nat.lt_or_ge r k with h|h
 · exfalso
   have hrl:r<l.length:=by omega
   have hlt:=List.pairwise_iff_getElem.1 hp r k hrl hkl h
   have hnl:¬qei (gS (l[r]).cells 0) (gB (l[r]).cells 1) (gI (l[r]).cells 2) (gI (l[r]).cells 3) n v hi lo<0:=fun h=>by have:=(hr.2 r l[r] (by simp[hrl])).1 h;omega
   apply hnl
   have ey:l[k]=y:=by have:=List.getElem?_eq_some_iff.1 hy;exact this.2
   rw[ey]at hlt
   obtain⟨e1,e2,e3,e4⟩:=q21.1 hat
   have:=qbhq.1 hlt
   unfold cmpH at this
   rw[e1,e2,e3,e4]at this
   exact this
 · omega
theorem qbym {s:Sp}(w:Wk s):qwt s.b s.h s.z=some s.fr:=by
 rw[qbsl];unfold qws qr qk5 qn9 q0t
 have h1:s.b.length*80<=140737488355328:=by have:=w.nb;omega
 have h2:s.h.length*48<=140737488355328:=by have:=w.nh;omega
 have h3:s.z.length*16<=140737488355328:=by have:=w.nz;omega
 simp[h1,h2,h3,Sp.fr]
theorem qqe:hd ([]:List AV) ([]:List AV).length=true:=rfl
theorem qbxh {n:LU}{v:Bool}{hi lo t:Int}(u1:uok hi)(u2:uok lo)(h:n.length<=9223372036854775807):qbvl (mkH n v hi lo t):=⟨rfl,u1,u2,h⟩
theorem qbxi {y:AV}(h:qbvl y):qlz [y]:=⟨by simp,fun z hz=>by simp at hz;subst hz;exact h⟩
theorem qb0k {s:Sp}(w:Wk s)(n:LU)(v:Bool)(hi lo t:Int)(u1:uok hi)(u2:uok lo)(hn:n.length<=9223372036854775807):qyy n v hi lo t s.b s.h s.z=some ((qx7 s n v hi lo t).1.fr,(qx7 s n v hi lo t).2):=by
 obtain⟨r,hr⟩:=qbpe n v hi lo w.ph
 rw[qbi6];unfold qo4 qx7
 rw[show(AV.agg [(.str n),(.bool v),(.int .u64 hi),(.int .u64 lo),(.int .i64 t)])=mkH n v hi lo t from rfl]
 simp only[hd_self,qqe,cond_t,qb2h _ (qbxi (qbxh u1 u2 hn)),oB_s,qbvp s.h w.f.h (by have:=w.nh;omega) w.ph n v hi lo t hn hr,qbpd s.b w.f.b,qbsh s.z w.f.z n hn,qb0j s.h (by have:=w.nh;omega) hr.1]
 cases(qi8 [mkH n v hi lo t] != 0)
 case true=>rfl
 simp only[cond_f]
 cases ha:s.h.any (atH n v hi lo)
 case true=>rfl
 simp only[cond_f]
 cases decide ((s.h.length:Int)>=256)
 case true=>rfl
 simp only[cond_f]
 cases blkd s.b v hi lo
 case false=>rfl
 cases qn8 s.z n
 case false=>rfl
 simp only[Bool.not_true,cond_f]
 rw[qbqr n v hi lo t hr ha];rfl
theorem qb0l {y:AV}(h:fitC qj y.cells=true):∃n v hi lo t,y=mkH n v hi lo t:=⟨_,_,_,_,_,(qbca h).symm⟩
theorem qb4k {y:AV}(h:fitC qj y.cells=true):rdE y 0 true 5=some y:=by obtain⟨n,v,hi,lo,t,rfl⟩:=qb0l h;rfl
theorem qb0m {y:AV}(h:fitC qj y.cells=true):fitV (.st qj) y=true:=by obtain⟨n,v,hi,lo,t,rfl⟩:=qb0l h;rfl
theorem qbpg {h:LA}{k:Nat}{y:AV}(e:h[k]?=some y):hAt h k=y:=by unfold hAt;rw[e];rfl
theorem q4t {s:Sp}(w:Wk s)(n:LU)(v:Bool)(hi lo t:Int)(hn:n.length<=9223372036854775807):qj5 n v hi lo t s.b s.h s.z=some ((qls s n v hi lo).1.fr,(qls s n v hi lo).2.1,(qls s n v hi lo).2.2):=by
 obtain⟨r,hr⟩:=qbpe n v hi lo w.ph
 rw[q94];unfold qlh qls
 have hany:s.h.any (atH n v hi lo)=(idxO (atH n v hi lo) s.h).isSome:=by
  rw[<-qs0];unfold idxI
  cases idxO (atH n v hi lo) s.h with
  |none=>rfl
  |some k=>simp
 simp only[hd_self,qqe,cond_t,qbvp s.h w.f.h (by have:=w.nh;omega) w.ph n v hi lo t hn hr,oB_s,hany]
 cases hk:idxO (atH n v hi lo) s.h with
 |none=>rfl
 |some k=>
  have:=qb5w w.ph hr hk
  subst this
  obtain⟨y,hy,_⟩:=qm7 s.h r hk
  have hrl:=(List.getElem?_eq_some_iff.1 hy).1
  have hyf:=w.f.h.2 y (List.mem_of_getElem? hy)
  have h1:decide (0<=(r:Int)/\(r:Int)<(s.h.length:Int))=true:=decide_eq_true ⟨by omega,by omega⟩
  have hw:IntKind.i64.wrap ((r:Int)+1)=((r+1:Nat):Int):=by rw[w64 (by omega) (by have:=w.nh;omega)];omega
  simp only[Option.isSome_some,Bool.not_true,cond_f,h1,cond_t,Int.toNat_natCast,hy,oB_s,hw,qb5t s.h (by have:=w.nh;omega) hrl,hd_self]
  rw[qbpg hy]
  have hz:rdE y 0 true 5=some y:=qb4k hyf.1
  have hv:fitV (.st qj) y=true:=qb0m hyf.1
  rw[hz]
  simp only[oB_s,hv,cond_t]
  rw[show(AV.agg [(.str (gS y.cells 0)),(.bool (gB y.cells 1)),(.int .u64 (gI y.cells 2)),(.int .u64 (gI y.cells 3)),(.int .i64 (gI y.cells 4))])=y from qbca hyf.1]
  rfl
theorem spf0 (s:Sp):gL s.fr.cells 0=s.b:=rfl
theorem spf1 (s:Sp):gL s.fr.cells 1=s.h:=rfl
theorem spf2 (s:Sp):gL s.fr.cells 2=s.z:=rfl
theorem qb4l {h:LA}{k:Nat}{y:AV}(hy:y∈outH h k):y∈h:=by
 rcases List.mem_append.1 hy with h1|h1
 · exact List.mem_of_mem_take h1
 · exact List.mem_of_mem_drop h1
theorem qbqt (h:LA)(k:Nat):(outH h k).Sublist h:=by
 have:h=h.take k++h.drop k:=(List.take_append_drop k h).symm
 unfold outH
 conv=>rhs;rw[this]
 exact(List.Sublist.refl _).append (by rw[show h.drop (k+1)=(h.drop k).drop 1 by simp];exact List.drop_sublist 1 _)
theorem Wk.out {s:Sp}(w:Wk s)(k:Nat):Wk ⟨s.b,outH s.h k,s.z⟩:=⟨⟨w.f.b,⟨Nat.le_trans (qbqt s.h k).length_le w.f.h.1,fun y hy=>w.f.h.2 y (qb4l hy)⟩,w.f.z⟩,w.nb,w.tb,Nat.le_trans (qbqt s.h k).length_le w.nh,w.ph.sublist (qbqt s.h k),w.nz⟩
theorem qb4m {h:LA}{k:Nat}{y:AV}(e:h[k]?=some y)(q:AV->Bool):h.any q=((outH h k).any q||q y):=by
 have hk:=(List.getElem?_eq_some_iff.1 e).1
 have hd:h.drop k=y::h.drop (k+1):=by
  rw[List.drop_eq_getElem_cons hk];congr 1;exact(List.getElem?_eq_some_iff.1 e).2
 have:h=h.take k++(y::h.drop (k+1)):=by rw[<-hd,List.take_append_drop]
 conv=>lhs;rw[this]
 unfold outH
 simp only[List.any_append,List.any_cons]
 cases(h.take k).any q<;>cases q y<;>simp
theorem qb2j {s:Sp}(w:Wk s)(n:LU)(v:Bool)(hi lo t:Int)(x:LU)(hn:n.length<=9223372036854775807)(hx:x.length<=9223372036854775807):q1g s.b s.h s.z n v hi lo t x=some ((qx8 s n v hi lo x).1.fr,(qx8 s n v hi lo x).2):=by
 rw[qbld];unfold qrl qx8
 simp only[qbym w,oB_s,spf0,spf1,spf2,hd_self,qqe,cond_t,Bool.and_self,q4t w n v hi lo t hn]
 unfold qls
 cases hk:idxO (atH n v hi lo) s.h with
 |none=>rfl
 |some k=>
  obtain⟨y,hy,hf⟩:=qm7 s.h k hk
  have hat:=List.find?_some hf
  obtain⟨e1,e2,e3,e4⟩:=q21.1 hat
  have hkl:=(List.getElem?_eq_some_iff.1 hy).1
  have hyf:=w.f.h.2 y (List.mem_of_getElem? hy)
  have wo:=w.out k
  obtain⟨r,hr⟩:=qbpe x v hi lo wo.ph
  simp only[bne_self_eq_false,cond_f,qbpg hy,e1,e2,e3,e4,hd_self,cond_t,Bool.and_self,qqe,spf0,spf1,spf2]
  rw[q96];unfold qli
  rw[qs3 x hx,oB_s]
  unfold qs4
  cases ho:qbd x with
  |false=>rfl
  |true=>
   simp only[Bool.not_true,cond_f,qb2g x hx ho,oB_s,Bool.false_or]
   cases q2t x with
   |true=>rfl
   |false=>
    have hany:s.h.any (atH x v hi lo)=((outH s.h k).any (atH x v hi lo)||(x==n)):=by
     rw[qb4m hy];congr 1
     rw[Bool.eq_iff_iff,q21]
     simp only[e1,e2,e3,e4,and_true,beq_iff_eq]
     exact eq_comm
    simp only[cond_f,qbvp (outH s.h k) wo.f.h (by have:=wo.nh;simp only at this;omega) wo.ph x v hi lo (gI y.cells 4) hx hr,oB_s,hany]
    cases hb:((outH s.h k).any (atH x v hi lo)||(x==n))with
    |true=>rfl
    |false=>
     have ha:(outH s.h k).any (atH x v hi lo)=false:=by
      cases h:(outH s.h k).any (atH x v hi lo)with
      |false=>rfl
      |true=>rw[h]at hb;cases hb
     simp only[cond_f,qbsh s.z w.f.z x hx,oB_s]
     cases qn8 s.z x with
     |false=>rfl
     |true=>
      rw[show(AV.agg [(.str x),(.bool v),(.int .u64 hi),(.int .u64 lo),(.int .i64 (gI y.cells 4))])=mkH x v hi lo (gI y.cells 4)from rfl]
      simp only[Bool.not_true,cond_f,qb0j (outH s.h k) (by have:=wo.nh;simp only at this;omega) hr.1,oB_s,qbqr x v hi lo (gI y.cells 4) hr ha,hd_self,cond_t]
      rfl
theorem qb5x {R:Type}{s:Sp}(hb:qv s.b)(hh:qlz s.h)(kr:Bool->List AV->List AV->List AV->Option R):
 qce s.h s.b s.h s.z kr=kr (lost s.b s.h) s.b s.h s.z:=by
 rw[qia];unfold qbs
 rw[qja];unfold qbw
 rw[qh8]
 have key:=qcq (σ:=List AV×List AV×List AV) s.h hh.1 (fun k i t=>qbb s.h (s.h.length:Int) (fun b0_0q1 b0_1q2 b0_2q3=>(fun v4q1 b0_0q2 b0_1q3 b0_2q4=>(kr (decide (v4q1>=0)) b0_0q2 b0_1q3 b0_2q4)) (-1:Int) b0_0q1 b0_1q2 b0_2q3) (fun v4q1 b0_0q2 b0_1q3 b0_2q4=>(kr (decide (v4q1>=0)) b0_0q2 b0_1q3 b0_2q4)) k i t.1 t.2.1 t.2.2)
  (fun i t nx=>qba s.h (s.h.length:Int) i t.1 t.2.1 t.2.2 (fun i a b c=>nx i (a,b,c)) (fun b0_0q1 b0_1q2 b0_2q3=>(fun v4q1 b0_0q2 b0_1q3 b0_2q4=>(kr (decide (v4q1>=0)) b0_0q2 b0_1q3 b0_2q4)) (-1:Int) b0_0q1 b0_1q2 b0_2q3) (fun v4q1 b0_0q2 b0_1q3 b0_2q4=>(kr (decide (v4q1>=0)) b0_0q2 b0_1q3 b0_2q4))) (fun _ _ _=>rfl)
  (fun _ t=>t=(s.b,s.h,s.z)) (fun r _=>kr (lost s.b r) s.b s.h s.z) ?_ ?_ (s.b,s.h,s.z) FU rfl (qcz (by have:=hh.1;omega))
 · exact key
 · intro t nx ht;subst ht;simp[qba,lost]
 · intro i y r t nx h1 h2 h3 h4 ht h5
   subst ht
   have hy:=hh.2 y (List.mem_of_getElem? h2)
   have h6:(i:Int)<(s.h.length:Int):=by omega
   unfold qba
   simp only[h6,decide_true,cond_t,ixB_nat,h2,oB_s,hy.1,h4]
   rw[qbip];unfold qoy
   rw[qbpd s.b hb,oB_s]
   simp only[h5 _ rfl]
   have e:lost s.b (y::r)=((!blkd s.b (gB y.cells 1) (gI y.cells 2) (gI y.cells 3))||lost s.b r):=rfl
   rw[e]
   have:decide ((i:Int)>=0)=true:=by simp
   cases blkd s.b (gB y.cells 1) (gI y.cells 2) (gI y.cells 3)<;>simp[this]
theorem qb0n {s:Sp}{n:LU}{v:Bool}{hi lo t:Int}(h:(qx7 s n v hi lo t).2≠0):(qx7 s n v hi lo t).1=sp0:=by
 unfold qx7 at*
 cases h1:(qi8 [mkH n v hi lo t] != 0)
 case true=>rfl
 cases h2:s.h.any (atH n v hi lo)
 case true=>rfl
 cases h3:decide ((s.h.length:Int)>=256)
 case true=>rfl
 cases h4:blkd s.b v hi lo
 case false=>rfl
 cases h5:qn8 s.z n
 case false=>rfl
 rw[h1,h2,h3,h4,h5]at h
 exact absurd rfl h
theorem qb0o {s:Sp}{n:LU}{v:Bool}{hi lo:Int}(h:(qls s n v hi lo).2.2≠0):(qls s n v hi lo).1=sp0:=by
 unfold qls at*
 cases hk:idxO (atH n v hi lo) s.h with
 |none=>rfl
 |some k=>rw[hk]at h;exact absurd rfl h
theorem qb0p {s:Sp}{n:LU}{v:Bool}{hi lo:Int}{x:LU}(h:(qx8 s n v hi lo x).2≠0):(qx8 s n v hi lo x).1=sp0:=by
 unfold qx8 at*
 cases hk:idxO (atH n v hi lo) s.h with
 |none=>rfl
 |some k=>
  rw[hk]at h
  simp only at h⊢
  cases h1:qs4 x
  case true=>rfl
  cases h2:s.h.any (atH x v hi lo)
  case true=>rfl
  cases h3:qn8 s.z x
  case false=>rfl
  rw[h1,h2,h3]at h
  exact absurd rfl h
theorem qbyn (r:Sp×Int)(h:r.2≠0->r.1=sp0):(bif r.2 != 0 then(some ((.agg [(.sl 8 []),(.sl 5 []),(.sl 1 [])]),r.2):Option (AV×Int))else some ((.agg [(.sl 8 r.1.b),(.sl 5 r.1.h),(.sl 1 r.1.z)]),0))=some (r.1.av,r.2):=by
 obtain⟨x,e⟩:=r
 by_cases he:e=0
 · subst he;rfl
 · have h1:=h he
   simp only at h1
   subst h1
   have:(e != 0)=true:=by simpa using he
   simp only[this,cond_t];rfl
theorem qbqu {s:Sp}(w:Wk s)(c:Chg)(hc:CFit c):qgk s.b s.h s.z c.k c.v c.hi c.lo c.bits c.bk c.nm c.ow c.vl c.nb c.po c.hn c.hv c.hhi c.hlo c.ht c.tx=some ((qe2 s c).1.av,(qe2 s c).2):=by
 rw[qbm4];unfold qtj qe2
 rw[qb5u c,oB_s]
 have e1:(!qop c.k|| !eqC (qbcc c) c)= !okC c:=by unfold okC;cases qop c.k<;>rfl
 change (bif(!qop c.k|| !eqC (qbcc c) c)then _ else _)=_
 rw[e1]
 cases ho:okC c with
 |false=>rfl
 |true=>
  simp only[Bool.not_true,cond_f,cond_t,qbym w,oB_s,spf0,spf1,spf2,hd_self,Bool.and_self]
  rw[qbdc];unfold qmb qbpf
  simp only[hd_self,cond_t,Bool.and_self]
  cases h1:(c.k==1)with
  |true=>
   simp only[cond_t]
   rw[qb21 s.b w.f.b (by have:=w.nb;omega) w.tb c.v c.hi c.lo c.bits c.bk c.nm c.ow c.vl ⟨rfl,hc.u1,hc.u2,hc.n1,hc.n2⟩]
   simp only[oB_s]
   rw[show mkB c.v c.hi c.lo c.bits c.bk c.nm c.ow c.vl=blkC c from rfl]
   cases he:((addF s.b (blkC c)).2 != 0)<;>rfl
  |false=>
  simp only[cond_f]
  cases h2:(c.k==2)with
  |true=>
   simp only[cond_t]
   rw[qb1s s.b w.f.b (by have:=w.nb;omega) w.tb]
   simp only[oB_s]
   rw[qbda];unfold qma
   cases he:((qdd s.b c.v c.hi c.lo c.bits).2 != 0)with
   |true=>
    have:((qdd s.b c.v c.hi c.lo c.bits).2==0)=false:=by simpa using he
    simp only[this,cond_f,he,cond_t];rfl
   |false=>
    have:((qdd s.b c.v c.hi c.lo c.bits).2==0)=true:=by simpa using he
    have h0:(qdd s.b c.v c.hi c.lo c.bits).2=0:=by simpa using he
    simp only[this,cond_t,he,cond_f]
    obtain⟨r1,_,_⟩:=qbkh w.f.b w.tb h0
    rw[qb5x (s:=⟨(qdd s.b c.v c.hi c.lo c.bits).1,s.h,s.z⟩) r1 w.f.h]
    cases hl:lost (qdd s.b c.v c.hi c.lo c.bits).1 s.h<;>rfl
  |false=>
  simp only[cond_f]
  cases h3:(c.k==3)with
  |true=>
   simp only[cond_t]
   rw[qbo3 s.b w.f.b w.tb w.nb ⟨c.v,c.hi,c.lo,c.bits⟩ c.nb c.po c.nm c.ow hc.n1 hc.n2]
   simp only[oB_s]
   cases he:((qi6 s.b ⟨c.v,c.hi,c.lo,c.bits⟩ c.nb c.po c.nm c.ow).2.2 != 0)<;>rfl
  |false=>
  simp only[cond_f]
  cases h4:(c.k==4)with
  |true=>
   simp only[cond_t,qb0k w c.hn c.hv c.hhi c.hlo c.ht hc.u3 hc.u4 hc.n3,oB_s,spf0,spf1,spf2,hd_self]
   exact qbyn (qx7 s c.hn c.hv c.hhi c.hlo c.ht) qb0n
  |false=>
  simp only[cond_f]
  cases h5:(c.k==5)with
  |true=>
   simp only[cond_t,q4t w c.hn c.hv c.hhi c.hlo c.ht hc.n3,oB_s,spf0,spf1,spf2,hd_self]
   exact qbyn ((qls s c.hn c.hv c.hhi c.hlo).1,(qls s c.hn c.hv c.hhi c.hlo).2.2) qb0o
  |false=>
  have h6:(c.k==6)=true:=by
   unfold okC qop at ho
   rw[h1,h2,h3,h4,h5]at ho
   cases h:(c.k==6)
   · rw[h]at ho;cases ho
   · rfl
  simp only[cond_f,h6,cond_t,qb2j w c.hn c.hv c.hhi c.hlo c.ht c.tx hc.n3 hc.n4,oB_s,spf0,spf1,spf2,hd_self]
  exact qbyn (qx8 s c.hn c.hv c.hhi c.hlo c.tx) qb0p
theorem qbyo {s:Sp}(w:Wk s)(c:Chg)(hc:CFit c):qy5 s.b s.h s.z c.k c.v c.hi c.lo c.bits c.bk c.nm c.ow c.vl c.nb c.po c.hn c.hv c.hhi c.hlo c.ht c.tx=some (
 bif c.k==4 then((qx7 s c.hn c.hv c.hhi c.hlo c.ht).1.av,(qx7 s c.hn c.hv c.hhi c.hlo c.ht).2)else
 bif c.k==5 then((qls s c.hn c.hv c.hhi c.hlo).1.av,(qls s c.hn c.hv c.hhi c.hlo).2.2)else
 ((qx8 s c.hn c.hv c.hhi c.hlo c.tx).1.av,(qx8 s c.hn c.hv c.hhi c.hlo c.tx).2)):=by
 rw[qbju];unfold qpp
 rw[qbqs s.h w.f.h,oB_s]
 cases h4:(c.k==4)with
 |true=>
  unfold qx7
  rw[show(AV.agg [(.str c.hn),(.bool c.hv),(.int .u64 c.hhi),(.int .u64 c.hlo),(.int .i64 c.ht)])=mkH c.hn c.hv c.hhi c.hlo c.ht from rfl]
  simp only[cond_t,hd_self,qbpc _ (qbxi (qbxh hc.u3 hc.u4 hc.n3)),oB_s,qs0,qbhr s.b w.f.b _ _ _ hc.u3 hc.u4,qbqq s.z w.f.z _ hc.n3,qbkl s.h w.f.h (by have:=w.nh;omega) c.hn c.hv c.hhi c.hlo c.ht hc.n3]
  cases(qi8 [mkH c.hn c.hv c.hhi c.hlo c.ht] != 0)
  case true=>rfl
  cases s.h.any (atH c.hn c.hv c.hhi c.hlo)
  case true=>rfl
  cases decide ((s.h.length:Int)>=256)
  case true=>rfl
  cases blkd s.b c.hv c.hhi c.hlo
  case false=>rfl
  cases qn8 s.z c.hn<;>rfl
 |false=>
  simp only[cond_f]
  unfold qls qx8 idxI
  cases hk:idxO (atH c.hn c.hv c.hhi c.hlo) s.h with
  |none=>cases(c.k==5)<;>rfl
  |some k=>
   obtain⟨y,hy,hf⟩:=qm7 s.h k hk
   have hat:=List.find?_some hf
   obtain⟨e1,e2,e3,e4⟩:=q21.1 hat
   have hkl:=(List.getElem?_eq_some_iff.1 hy).1
   have hyf:=w.f.h.2 y (List.mem_of_getElem? hy)
   have wo:=w.out k
   have hneg:decide ((k:Int)<0)=false:=decide_eq_false (by omega)
   simp only[hneg,cond_f,qbvq s.h w.f.h (by have:=w.nh;omega) k,oB_s,qbpg hy]
   rw[show s.h.take k++s.h.drop (k+1)=outH s.h k from rfl]
   cases(c.k==5)with
   |true=>rfl
   |false=>
    simp only[cond_f]
    have hJ:∀kn:Bool->Option (AV×Int),qss (k:Int) (outH s.h k) s.b s.h s.z c.k c.v c.hi c.lo c.bits c.bk c.nm c.ow c.vl c.nb c.po c.hn c.hv c.hhi c.hlo c.ht c.tx kn=kn (qs4 c.tx):=fun kn=>by
     rw[q80];unfold qko qs4
     rw[qbho _ hc.n4,oB_s]
     cases ho:qbd c.tx with
     |false=>rfl
     |true=>
      simp only[Bool.not_true,cond_f,Bool.false_or]
      exact qbxe ho kn
    rw[hJ]
    cases qs4 c.tx with
    |true=>rfl
    |false=>
     simp only[cond_f,qbqs s.h w.f.h,oB_s,qs0,qbqq s.z w.f.z _ hc.n4,ixB_nat,hy,hyf.1,cond_t,qbkl (outH s.h k) wo.f.h (by have:=wo.nh;simp only at this;omega) c.tx c.hv c.hhi c.hlo (gI y.cells 4) hc.n4]
     cases s.h.any (atH c.tx c.hv c.hhi c.hlo)
     case true=>rfl
     cases qn8 s.z c.tx<;>rfl
theorem qb5y (l:LA)(hl:qv l){s:Sp}(w:Wk s):qsu l s.b s.h s.z (fun(_:Unit)=>(some ((.agg [(.sl 8 l),(.sl 5 s.h),(.sl 1 s.z)]),0))) FU 0=some (bif lost l s.h then(sp0.av,25)else((Sp.mk l s.h s.z).av,0)):=by
 rw[q81,qf2 s.h w.f.h.1 (qg1 l s.b s.h s.z (fun(_:Unit)=>(some ((.agg [(.sl 8 l),(.sl 5 s.h),(.sl 1 s.z)]),0)))) (fun i nx=>qg0 l i s.b s.h s.z nx (fun(_:Unit)=>(some ((.agg [(.sl 8 l),(.sl 5 s.h),(.sl 1 s.z)]),0)))) (fun _ _=>rfl) (fun r=>some (bif lost l r then(sp0.av,25)else((Sp.mk l s.h s.z).av,0)))]
 · intro nx;simp[qg0,lost];rfl
 · intro i y r nx h1 h2 h3 h4 h5
   have hy:=w.f.h.2 y (List.mem_of_getElem? h2)
   have h6:(i:Int)<(s.h.length:Int):=by omega
   unfold qg0
   simp only[h6,decide_true,cond_t,ixB_nat,h2,oB_s,hy.1,h4,h5,qbhr l hl _ _ _ hy.2.1 hy.2.2.1]
   have e:lost l (y::r)=((!blkd l (gB y.cells 1) (gI y.cells 2) (gI y.cells 3))||lost l r):=rfl
   rw[e]
   cases blkd l (gB y.cells 1) (gI y.cells 2) (gI y.cells 3)<;>rfl
theorem qbyp {s:Sp}(w:Wk s)(c:Chg)(hc:CFit c):qy6 s.b s.h s.z c.k c.v c.hi c.lo c.bits c.bk c.nm c.ow c.vl c.nb c.po c.hn c.hv c.hhi c.hlo c.ht c.tx=some ((qe2 s c).1.av,(qe2 s c).2):=by
 rw[qbjv];unfold qpq
 have hJ:∀kn:Bool->Option (AV×Int),qub s.b s.h s.z c.k c.v c.hi c.lo c.bits c.bk c.nm c.ow c.vl c.nb c.po c.hn c.hv c.hhi c.hlo c.ht c.tx kn=kn (!okC c):=fun kn=>by
  rw[qba2];unfold qlq okC
  by_cases h1:c.k<1
  · have:qop c.k=false:=by
     unfold qop
     simp only[Bool.or_eq_false_iff,beq_eq_false_iff_ne]
     omega
    rw[this];simp[h1]
  · by_cases h2:c.k>6
    · have:qop c.k=false:=by
       unfold qop
       simp only[Bool.or_eq_false_iff,beq_eq_false_iff_ne]
       omega
      rw[this];simp[h1,h2]
    · have:qop c.k=true:=by
       unfold qop
       simp only[Bool.or_eq_true,beq_iff_eq]
       omega
      rw[this,qb5v c]
      simp only[h1,h2,decide_false,cond_f,oB_s,Bool.true_and]
      rfl
 rw[hJ]
 unfold qe2
 cases ho:okC c with
 |false=>rfl
 |true=>
  simp only[Bool.not_true,cond_f,cond_t]
  unfold qbpf
  cases h1:(c.k==1)with
  |true=>
   simp only[cond_t]
   rw[qbva s.b w.f.b (by have:=w.nb;omega) c.v c.hi c.lo c.bits c.bk c.nm c.ow c.vl ⟨rfl,hc.u1,hc.u2,hc.n1,hc.n2⟩]
   simp only[oB_s]
   rw[show mkB c.v c.hi c.lo c.bits c.bk c.nm c.ow c.vl=blkC c from rfl]
   cases he:((addF s.b (blkC c)).2 != 0)<;>rfl
  |false=>
  simp only[cond_f]
  cases h2:(c.k==2)with
  |true=>
   simp only[cond_t]
   rw[qbz5 s.b w.f.b (by have:=w.nb;omega)]
   simp only[oB_s]
   cases he:((qdd s.b c.v c.hi c.lo c.bits).2 != 0)with
   |true=>rfl
   |false=>
    have h0:(qdd s.b c.v c.hi c.lo c.bits).2=0:=by simpa using he
    obtain⟨r1,_,_⟩:=qbkh w.f.b w.tb h0
    simp only[cond_f]
    rw[qb5y _ r1 w]
    cases hl:lost (qdd s.b c.v c.hi c.lo c.bits).1 s.h<;>rfl
  |false=>
  simp only[cond_f]
  cases h3:(c.k==3)with
  |true=>
   simp only[cond_t]
   rw[qbki s.b w.f.b w.tb w.nb ⟨c.v,c.hi,c.lo,c.bits⟩ c.nb c.po c.nm c.ow hc.n1 hc.n2]
   simp only[oB_s]
   cases he:((qi6 s.b ⟨c.v,c.hi,c.lo,c.bits⟩ c.nb c.po c.nm c.ow).2.2 != 0)<;>rfl
  |false=>
  simp only[cond_f]
  rw[qbyo w c hc,oB_s]
  cases(c.k==4)
  case true=>rfl
  cases(c.k==5)<;>rfl
def qbph:Ty:=.st [.str,qbhh,.int .i64]
def qbyq:Ty:=.str
theorem hstsFit_of {l:LA}(h:l.length<=9223372036854775807/\∀y,y∈l->fitC qbph.lts y.cells=true/\qbph.good y.cells 0):qlz l:=
 ⟨h.1,fun y hy=>by
  obtain⟨h1,h2⟩:=h.2 y hy
  simp only[qbph,qbhh,Ty.good.goods,Ty.good,Ty.size,Ty.sizes,Nat.zero_add,Nat.reduceAdd,and_true,true_and]at h2
  exact⟨h1,h2.2.1.1,h2.2.1.2,h2.1⟩⟩
theorem zonsFit_of {l:LA}(h:l.length<=9223372036854775807/\∀y,y∈l->fitC qbyq.lts y.cells=true/\qbyq.good y.cells 0):q9o l:=
 ⟨h.1,fun y hy=>by
  obtain⟨h1,h2⟩:=h.2 y hy
  simp only[qbyq,Ty.good]at h2
  exact⟨h1,h2⟩⟩
def qb0q:List Ty:=[.int .i64,qbot,.int .i64,.int .i64,qbph,.str]
theorem cfit_of {cs:LA}(h:Ty.good.goods qb0q cs 0):CFit ⟨gI cs 0,gB cs 1,gI cs 2,gI cs 3,gI cs 4,gI cs 5,gS cs 6,gS cs 7,gI cs 8,gI cs 9,gI cs 10,gS cs 11,gB cs 12,gI cs 13,gI cs 14,gI cs 15,gS cs 16⟩:=by
 simp only[qb0q,qbot,qbph,qbu3,qbhh,Ty.good.goods,Ty.good,Ty.size,Ty.sizes,Nat.zero_add,Nat.reduceAdd,and_true,true_and]at h
 obtain⟨_,⟨⟨⟨h2,h3⟩,_⟩,_,h6,h7,_⟩,_,_,⟨h11,⟨h13,h14⟩,_⟩,h16⟩:=h
 exact⟨h2,h3,h13,h14,h6,h7,h11,h16⟩
theorem wk0:Wk sp0:=⟨⟨⟨by decide,fun y hy=>by cases hy⟩,⟨by decide,fun y hy=>by cases hy⟩,⟨by decide,fun y hy=>by cases hy⟩⟩,by decide,fun j y h=>(by cases h),by decide,List.Pairwise.nil,by decide⟩
def exC1:Chg:=⟨1,false,0,167772160,8,1,[110,101,116],[],0,0,0,[],false,0,0,0,[]⟩
def exC2:Chg:=⟨2,false,0,167772160,8,0,[],[],0,0,0,[],false,0,0,0,[]⟩
theorem qb6h:CFit exC1:=⟨⟨by decide,by decide⟩,⟨by decide,by decide⟩,⟨by decide,by decide⟩,⟨by decide,by decide⟩,by decide,by decide,by decide,by decide⟩
theorem qb6i:CFit exC2:=⟨⟨by decide,by decide⟩,⟨by decide,by decide⟩,⟨by decide,by decide⟩,⟨by decide,by decide⟩,by decide,by decide,by decide,by decide⟩
theorem exA1:qe2 sp0 exC1=(⟨[blkC exC1],[],[]⟩,0):=by kernel_rfl
theorem exA2:qe2 sp0 exC2=(sp0,11):=by kernel_rfl
theorem exP1:qgk [] [] [] 1 false 0 167772160 8 1 [110,101,116] [] 0 0 0 [] false 0 0 0 []=some ((Sp.mk [blkC exC1] [] []).av,0):=by
 have:=qbqu wk0 exC1 qb6h
 rw[exA1]at this;exact this
theorem exP2:qgk [] [] [] 2 false 0 167772160 8 0 [] [] 0 0 0 [] false 0 0 0 []=some (sp0.av,11):=by
 have:=qbqu wk0 exC2 qb6i
 rw[exA2]at this;exact this
theorem exI1:qkz [] [] [] 1 false 0 167772160 8 1 [110,101,116] [] 0 0 0 [] false 0 0 0 []=some (exC2.av,0):=by
 rw[q1y];unfold qk6
 rw[exP1];rfl
theorem qb0r:qtk=some true:=by
 rw[qbi7];unfold qo5
 have ht:qwq 8=some (.agg [(.bool false),(.int .u64 0),(.int .u64 (167772160:Int)),(.int .i64 8)]):=by
  rw[qbmg];rfl
 rw[ht]
 simp only[oB_s]
 rw[show qgk [] [] [] 1 (gB (AV.agg [(.bool false),(.int .u64 0),(.int .u64 (167772160:Int)),(.int .i64 8)]).cells 0) (gI (AV.agg [(.bool false),(.int .u64 0),(.int .u64 (167772160:Int)),(.int .i64 8)]).cells 1) (gI (AV.agg [(.bool false),(.int .u64 0),(.int .u64 (167772160:Int)),(.int .i64 8)]).cells 2) (gI (AV.agg [(.bool false),(.int .u64 0),(.int .u64 (167772160:Int)),(.int .i64 8)]).cells 3) 1 [110,101,116] [] 0 0 0 [] false 0 0 0 []=some ((Sp.mk [blkC exC1] [] []).av,0)from exP1]
 rw[show qgk [] [] [] 2 (gB (AV.agg [(.bool false),(.int .u64 0),(.int .u64 (167772160:Int)),(.int .i64 8)]).cells 0) (gI (AV.agg [(.bool false),(.int .u64 0),(.int .u64 (167772160:Int)),(.int .i64 8)]).cells 1) (gI (AV.agg [(.bool false),(.int .u64 0),(.int .u64 (167772160:Int)),(.int .i64 8)]).cells 2) (gI (AV.agg [(.bool false),(.int .u64 0),(.int .u64 (167772160:Int)),(.int .i64 8)]).cells 3) 0 [] [] 0 0 0 [] false 0 0 0 []=some (sp0.av,11)from exP2]
 rw[show qkz [] [] [] 1 (gB (AV.agg [(.bool false),(.int .u64 0),(.int .u64 (167772160:Int)),(.int .i64 8)]).cells 0) (gI (AV.agg [(.bool false),(.int .u64 0),(.int .u64 (167772160:Int)),(.int .i64 8)]).cells 1) (gI (AV.agg [(.bool false),(.int .u64 0),(.int .u64 (167772160:Int)),(.int .i64 8)]).cells 2) (gI (AV.agg [(.bool false),(.int .u64 0),(.int .u64 (167772160:Int)),(.int .i64 8)]).cells 3) 1 [110,101,116] [] 0 0 0 [] false 0 0 0 []=some (exC2.av,0)from exI1]
 rfl
def qb26 (b h z l:LA):Bool:=(((decide ((b.length:Int)>(40:Int)))||(decide ((h.length:Int)>(40:Int))))||(decide ((z.length:Int)>(40:Int))))||(decide ((l.length:Int)>(68:Int)))
theorem qb4n (b h z l:LA):qwp b h z l=some (qb26 b h z l):=by rw[qbeg];rfl
theorem qb5z {l:LA}{b:AV}(h:(addF l b).2=0):l.length<512:=by
 unfold addF at h
 cases hp:qpx b with
 |false=>simp[hp]at h
 |true=>
 cases hm:mayB b with
 |false=>simp[hp,hm]at h
 |true=>
 cases ha:l.any (atP (gB b.cells 0) (gI b.cells 1) (gI b.cells 2) (gI b.cells 3))with
 |true=>simp[hp,hm,ha]at h
 |false=>
 cases hbr:(l.any (qbm b)||occF l (gB b.cells 0) (gI b.cells 1) (gI b.cells 2) (gI b.cells 3))with
 |true=>simp only[hp,hm,ha,hbr,Bool.not_true,cond_f,cond_t]at h;cases h
 |false=>
 rw[hp,hm,ha,hbr]at h
 simp only[Bool.not_true,cond_f]at h
 by_cases h5:(l.length:Int)>=512
 · simp[h5]at h
 · omega
theorem qb0s {l:LA}{p:Pq}{bits po:Int}{nm ow:LU}(hg:qd9 l)(h:(qi6 l p bits po nm ow).2.2=0):∃q:Pq,q.good/\(qi6 l p bits po nm ow).2.1=q.av/\(addF l (mkB q.v q.hi q.lo q.bits 2 nm ow 0)).2=0/\(qi6 l p bits po nm ow).1=(addF l (mkB q.v q.hi q.lo q.bits 2 nm ow 0)).1:=by
 unfold qi6 at*
 rcases q4s hg p bits po with⟨e,he,hne⟩|⟨q,hq,hch⟩
 · rw[he]at h
   have:(e != 0)=true:=by simpa using hne
   simp only[this,cond_t]at h
   exact absurd h hne
 · refine⟨q,hch.good,?_⟩
   rw[hq]at h⊢
   obtain⟨w0,w1,w2,w3⟩:=av_w q
   simp only[bne_self_eq_false,cond_f,w0,w1,w2,w3]at h⊢
   cases he:(addF l (mkB q.v q.hi q.lo q.bits 2 nm ow 0)).2 != 0 with
   |true=>
    rw[he]at h;simp only[cond_t]at h
    have:(addF l (mkB q.v q.hi q.lo q.bits 2 nm ow 0)).2≠0:=by simpa using he
    exact absurd h this
   |false=>exact⟨rfl,by simpa using he,rfl⟩
def chg0:Chg:=⟨0,false,0,0,0,0,[],[],0,0,0,[],false,0,0,0,[]⟩
def newP (s:Sp)(c:Chg):AV:=(qi6 s.b ⟨c.v,c.hi,c.lo,c.bits⟩ c.nb c.po c.nm c.ow).2.1
def effC (s:Sp)(c:Chg):Chg:=bif c.k==3 then⟨1,gB (newP s c).cells 0,gI (newP s c).cells 1,gI (newP s c).cells 2,gI (newP s c).cells 3,2,c.nm,c.ow,0,0,0,[],false,0,0,0,[]⟩else c
theorem qb2k {s:Sp}{c:Chg}(h:(qe2 s c).2=0)(hk:(c.k==3)=true):(qi6 s.b ⟨c.v,c.hi,c.lo,c.bits⟩ c.nb c.po c.nm c.ow).2.2=0:=by
 have e:c.k=3:=by simpa using hk
 unfold qe2 at h
 cases ho:okC c with
 |false=>rw[ho]at h;cases h
 |true=>
  rw[ho]at h
  simp only[cond_t]at h
  unfold qbpf at h
  rw[show(c.k==1)=false by simp[e],show(c.k==2)=false by simp[e],hk]at h
  simp only[cond_f,cond_t]at h
  cases he:((qi6 s.b ⟨c.v,c.hi,c.lo,c.bits⟩ c.nb c.po c.nm c.ow).2.2 != 0)with
  |true=>rw[he]at h;exact absurd h (by simpa[qp1]using he)
  |false=>simpa using he
theorem qbwh {s:Sp}(p:Plan s){c:Chg}(hc:CFit c)(h:(qi6 s.b ⟨c.v,c.hi,c.lo,c.bits⟩ c.nb c.po c.nm c.ow).2.2=0):
 qvl s.b s.h s.z c.k c.v c.hi c.lo c.bits c.bk c.nm c.ow c.vl c.nb c.po c.hn c.hv c.hhi c.hlo c.ht c.tx=some (mkB (gB (newP s c).cells 0) (gI (newP s c).cells 1) (gI (newP s c).cells 2) (gI (newP s c).cells 3) 2 c.nm c.ow 0):=by
 rw[qbdd];unfold qmc newP
 rw[qbo3 s.b p.f.b p.tb p.wk.nb ⟨c.v,c.hi,c.lo,c.bits⟩ c.nb c.po c.nm c.ow hc.n1 hc.n2]
 simp only[oB_s]
 obtain⟨q,q1,q2,q3,q4⟩:=qb0s (q2q p.f.b p.tb) h
 have hb:qoj (mkB q.v q.hi q.lo q.bits 2 c.nm c.ow 0):=qbqn q1 hc.n1 hc.n2
 obtain⟨h1,h2,_⟩:=qb13 p.f.b p.tb hb q3
 have hlt:=qb5z q3
 have hf:qv (insF (mkB q.v q.hi q.lo q.bits 2 c.nm c.ow 0) s.b):=qb11 p.f.b (by omega) hb
 obtain⟨w0,w1,w2,w3⟩:=av_w q
 rw[q2,q4,h1,w0,w1,w2,w3]
 have hm:mkB q.v q.hi q.lo q.bits 2 c.nm c.ow 0∈insF (mkB q.v q.hi q.lo q.bits 2 c.nm c.ow 0) s.b:=qs2.2 (.inl rfl)
 have hfind:(insF (mkB q.v q.hi q.lo q.bits 2 c.nm c.ow 0) s.b).find? (atP q.v q.hi q.lo q.bits)=some (mkB q.v q.hi q.lo q.bits 2 c.nm c.ow 0):=
  qbz8 hm (qol.2 ⟨rfl,rfl,rfl,rfl⟩) fun z hz hq=>qbyf h2 hm hz (qbqk (b:=mkB q.v q.hi q.lo q.bits 2 c.nm c.ow 0).1 hq)
 rw[qbh1 _ hf,oB_s,qbb6 hf hfind]
 rfl
theorem qb2l {s:Sp}(p:Plan s){c:Chg}(hc:CFit c):qxq s.b s.h s.z c.k c.v c.hi c.lo c.bits c.bk c.nm c.ow c.vl c.nb c.po c.hn c.hv c.hhi c.hlo c.ht c.tx=some (bif(qe2 s c).2 != 0 then(chg0.av,(qe2 s c).2)else((effC s c).av,0)):=by
 rw[qbgd];unfold qn3
 rw[qbyp p.wk c hc]
 simp only[oB_s]
 cases he:((qe2 s c).2 != 0)with
 |true=>rfl
 |false=>
  simp only[cond_f]
  unfold effC
  cases hk:(c.k==3)with
  |false=>
   have:(c.k != 3)=true:=by simpa using hk
   rw[this];rfl
  |true=>
   have:(c.k != 3)=false:=by simpa using hk
   simp only[this,cond_f,cond_t]
   rw[qbki s.b p.f.b p.tb p.wk.nb ⟨c.v,c.hi,c.lo,c.bits⟩ c.nb c.po c.nm c.ow hc.n1 hc.n2];rfl
def rmC (v:Bool)(hi lo bits:Int):Chg:=⟨2,v,hi,lo,bits,0,[],[],0,0,0,[],false,0,0,0,[]⟩
def adC (y:AV):Chg:=⟨1,gB y.cells 0,gI y.cells 1,gI y.cells 2,gI y.cells 3,gI y.cells 4,gS y.cells 5,gS y.cells 6,gI y.cells 7,0,0,[],false,0,0,0,[]⟩
def hoC (y:AV):Chg:=⟨4,false,0,0,0,0,[],[],0,0,0,gS y.cells 0,gB y.cells 1,gI y.cells 2,gI y.cells 3,gI y.cells 4,[]⟩
def unC (n:LU)(v:Bool)(hi lo:Int):Chg:=⟨5,false,0,0,0,0,[],[],0,0,0,n,v,hi,lo,0,[]⟩
def reC (n:LU)(v:Bool)(hi lo:Int)(x:LU):Chg:=⟨6,false,0,0,0,0,[],[],0,0,0,n,v,hi,lo,0,x⟩
def invC (s:Sp)(c:Chg):Chg:=
 bif c.k==1 then rmC c.v c.hi c.lo c.bits else
 bif c.k==2 then adC (qn6 s.b c.v c.hi c.lo c.bits).1 else
 bif c.k==3 then rmC (gB (newP s c).cells 0) (gI (newP s c).cells 1) (gI (newP s c).cells 2) (gI (newP s c).cells 3)else
 bif c.k==4 then unC c.hn c.hv c.hhi c.hlo else
 bif c.k==5 then hoC (qls s c.hn c.hv c.hhi c.hlo).2.1 else
 reC c.tx c.hv c.hhi c.hlo c.hn
def invF (s:Sp)(c:Chg):AV×Int:=bif(qe2 s c).2 != 0 then(chg0.av,(qe2 s c).2)else((invC s c).av,0)
theorem qb0t {s:Sp}(p:Plan s){c:Chg}(hc:CFit c):qkz s.b s.h s.z c.k c.v c.hi c.lo c.bits c.bk c.nm c.ow c.vl c.nb c.po c.hn c.hv c.hhi c.hlo c.ht c.tx=some (invF s c):=by
 rw[q1y];unfold qk6 invF
 rw[qbqu p.wk c hc]
 simp only[oB_s]
 cases he:((qe2 s c).2 != 0)with
 |true=>rfl
 |false=>
  have h0:(qe2 s c).2=0:=by simpa using he
  simp only[cond_f]
  unfold invC
  cases h1:(c.k==1)
  case true=>rfl
  cases h2:(c.k==2)
  case true=>
   simp only[cond_f,cond_t]
   rw[qbh1 s.b p.f.b];rfl
  cases h3:(c.k==3)
  case true=>
   simp only[cond_f,cond_t]
   rw[qbwh p hc (qb2k h0 h3)];rfl
  cases h4:(c.k==4)
  case true=>rfl
  cases h5:(c.k==5)
  case true=>
   simp only[cond_f,cond_t,qbym p.wk,oB_s,spf0,spf1,spf2,hd_self,Bool.and_self,q4t p.wk c.hn c.hv c.hhi c.hlo c.ht hc.n3]
   rfl
  rfl
theorem ok_k {s:Sp}{c:Chg}(h:(qe2 s c).2=0):okC c=true:=by
 unfold qe2 at h
 cases ho:okC c with
 |false=>rw[ho]at h;cases h
 |true=>rfl
theorem qbvr {s:Sp}(p:Plan s){c:Chg}(hc:CFit c):qvy s.b s.h s.z c.k c.v c.hi c.lo c.bits c.bk c.nm c.ow c.vl c.nb c.po c.hn c.hv c.hhi c.hlo c.ht c.tx=some (invF s c):=by
 rw[qbee];unfold qm0 invF
 rw[qb2l p hc]
 simp only[oB_s]
 cases he:((qe2 s c).2 != 0)with
 |true=>
  simp only[cond_t,he];rfl
 |false=>
  have h0:(qe2 s c).2=0:=by simpa using he
  simp only[cond_f,bne_self_eq_false]
  unfold invC effC
  cases h3:(c.k==3)
  case true=>
   have e:c.k=3:=by simpa using h3
   rw[show(c.k==1)=false by simp[e],show(c.k==2)=false by simp[e]]
   rfl
  simp only[cond_f]
  change (bif c.k==1 then _ else bif c.k==2 then _ else bif c.k==4 then _ else bif c.k==5 then _ else _)=_
  cases h1:(c.k==1)
  case true=>rfl
  cases h2:(c.k==2)
  case true=>
   simp only[cond_f,cond_t]
   rw[show qhj s.b (gB c.av.cells 1) (gI c.av.cells 2) (gI c.av.cells 3) (gI c.av.cells 4)=some (qn6 s.b c.v c.hi c.lo c.bits)from q9m s.b p.f.b _ _ _ _]
   rfl
  cases h4:(c.k==4)
  case true=>rfl
  cases h5:(c.k==5)
  case true=>
   simp only[cond_f,cond_t]
   rw[show qk2 s.h (gS c.av.cells 11) (gB c.av.cells 12) (gI c.av.cells 13) (gI c.av.cells 14)=some (idxI (atH c.hn c.hv c.hhi c.hlo) s.h)from qbqs s.h p.f.h _ _ _ _]
   have hd:(qls s c.hn c.hv c.hhi c.hlo).2.2=0:=by
    have ho:=ok_k h0
    unfold qe2 at h0
    rw[ho]at h0
    simp only[cond_t]at h0
    unfold qbpf at h0
    rw[h1,h2,h3,h4,h5]at h0
    exact h0
   unfold qls idxI at*
   cases hk:idxO (atH c.hn c.hv c.hhi c.hlo) s.h with
   |none=>rw[hk]at hd;cases hd
   |some k=>
    obtain⟨y,hy,_⟩:=qm7 s.h k hk
    have hyf:=p.f.h.2 y (List.mem_of_getElem? hy)
    simp only[oB_s,ixB_nat,hy,hyf.1,cond_t,qbpg hy]
    rfl
  rfl
theorem law_ChangeInverts {s:Sp}(f:Fits s)(c:Chg)(hc:CFit c):qin s.b s.h s.z c.k c.v c.hi c.lo c.bits c.bk c.nm c.ow c.vl c.nb c.po c.hn c.hv c.hhi c.hlo c.ht c.tx=some true:=by
 rw[q2b];unfold qg2
 rw[qy8];unfold qe3
 simp only[qb4n,oB_s,qb0r,qb0i s.b s.h s.z f.b f.h f.z]
 cases qb26 s.b s.h s.z []
 case true=>rfl
 simp only[cond_f]
 by_cases h0:q9p s.b s.h s.z=0
 · have hp:=(qb2i f).1 h0
   rw[qb0t hp hc,qbvr hp hc]
   simp only[h0,bne_self_eq_false,cond_f,oB_s,beq_self_eq_true,cond_t,Bool.and_self]
 · have:(q9p s.b s.h s.z != 0)=true:=by simpa using h0
   simp only[this,cond_t]
end Go.Proofs.YtoaaphlopbabeaaGreatDoor.Dn
