import Derived.Test.YtoaaphlopbabeaaGreatDoorCXLwA
set_option linter.all false
namespace Go.Proofs.YtoaaphlopbabeaaGreatDoor.Dn
open Go Go.Pev
set_option maxRecDepth 4000
structure Chg where
 k:Int
 v:Bool
 hi:Int
 lo:Int
 bits:Int
 bk:Int
 nm:List UInt8
 ow:List UInt8
 vl:Int
 nb:Int
 po:Int
 hn:List UInt8
 hv:Bool
 hhi:Int
 hlo:Int
 ht:Int
 tx:List UInt8
def Chg.av (c:Chg):AV:=.agg [(.int .i64 c.k),(.bool c.v),(.int .u64 c.hi),(.int .u64 c.lo),(.int .i64 c.bits),(.int .i64 c.bk),(.str c.nm),(.str c.ow),(.int .i64 c.vl),(.int .i64 c.nb),(.int .i64 c.po),(.str c.hn),(.bool c.hv),(.int .u64 c.hhi),(.int .u64 c.hlo),(.int .i64 c.ht),(.str c.tx)]
structure CFit (c:Chg):Prop where
 u1:uok c.hi
 u2:uok c.lo
 u3:uok c.hhi
 u4:uok c.hlo
 n1:c.nm.length<=9223372036854775807
 n2:c.ow.length<=9223372036854775807
 n3:c.hn.length<=9223372036854775807
 n4:c.tx.length<=9223372036854775807
def qo1 (k:Int):Bool:=k==1||k==2||k==3||k==4||k==5||k==6
def qbdl (c:Chg):Chg:=
 bif c.k==1 then⟨c.k,c.v,c.hi,c.lo,c.bits,c.bk,c.nm,c.ow,c.vl,0,0,[],false,0,0,0,[]⟩else
 bif c.k==2 then⟨c.k,c.v,c.hi,c.lo,c.bits,0,[],[],0,0,0,[],false,0,0,0,[]⟩else
 bif c.k==3 then⟨c.k,c.v,c.hi,c.lo,c.bits,0,c.nm,c.ow,0,c.nb,c.po,[],false,0,0,0,[]⟩else
 bif c.k==4 then⟨c.k,false,0,0,0,0,[],[],0,0,0,c.hn,c.hv,c.hhi,c.hlo,c.ht,[]⟩else
 bif c.k==5 then⟨c.k,false,0,0,0,0,[],[],0,0,0,c.hn,c.hv,c.hhi,c.hlo,0,[]⟩else
 bif c.k==6 then⟨c.k,false,0,0,0,0,[],[],0,0,0,c.hn,c.hv,c.hhi,c.hlo,0,c.tx⟩else
 ⟨c.k,false,0,0,0,0,[],[],0,0,0,[],false,0,0,0,[]⟩
def eqC (a b:Chg):Bool:=(a.k==b.k)&&((a.v==b.v)&&((a.hi==b.hi)&&((a.lo==b.lo)&&((a.bits==b.bits)&&((a.bk==b.bk)&&((a.nm==b.nm)&&((a.ow==b.ow)&&((a.vl==b.vl)&&((a.nb==b.nb)&&((a.po==b.po)&&((a.hn==b.hn)&&((a.hv==b.hv)&&((a.hhi==b.hhi)&&((a.hlo==b.hlo)&&((a.ht==b.ht)&&((a.tx==b.tx)&&true))))))))))))))))
theorem qb7r (c:Chg):q7e c.k c.v c.hi c.lo c.bits c.bk c.nm c.ow c.vl c.nb c.po c.hn c.hv c.hhi c.hlo c.ht c.tx=some ((qbdl c).av,qo1 c.k):=by
 rw[qbq6];unfold qvo
 rw[qbjq];unfold qo3 qbdl qo1
 cases h1:(c.k==1)
 case true=>rfl
 cases h2:(c.k==2)
 case true=>rfl
 cases h3:(c.k==3)
 case true=>rfl
 cases h4:(c.k==4)
 case true=>rfl
 cases h5:(c.k==5)
 case true=>rfl
 cases h6:(c.k==6)
 case true=>rfl
 rfl
theorem qb7s (c:Chg):q2h c.k c.v c.hi c.lo c.bits c.bk c.nm c.ow c.vl c.nb c.po c.hn c.hv c.hhi c.hlo c.ht c.tx=some (qbdl c).av:=by
 rw[qbm4];unfold qr9
 rw[qbe1];unfold qm1 qbdl
 cases h1:(c.k==1)
 case true=>rfl
 cases h2:(c.k==2)
 case true=>rfl
 cases h3:(c.k==3)
 case true=>rfl
 cases h4:(c.k==4)
 case true=>rfl
 cases h5:(c.k==5)
 case true=>rfl
 cases h6:(c.k==6)
 case true=>rfl
 rfl
def okC (c:Chg):Bool:=qo1 c.k&&eqC (qbdl c) c
def blkC (c:Chg):AV:=mkB c.v c.hi c.lo c.bits c.bk c.nm c.ow c.vl
def qk2 (e:Int):Sp×Int:=(sp0,e)
def qum (s:Sp)(n:LU)(v:Bool)(hi lo t:Int):Sp×Int:=
 bif qe5 [mkH n v hi lo t] != 0 then qk2 (qe5 [mkH n v hi lo t])else bif s.h.any (atH n v hi lo)then qk2 12 else
 bif decide ((s.h.length:Int)>=256)then qk2 9 else bif !blkd s.b v hi lo then qk2 25 else bif !qjx s.z n then qk2 13 else
 (⟨s.b,insH (mkH n v hi lo t) s.h,s.z⟩,0)
def hst0:AV:=mkH [] false 0 0 0
def outH (h:LA)(k:Nat):List AV:=h.take k++h.drop (k+1)
def hAt (h:LA)(k:Nat):AV:=h[k]?.getD hst0
def qnk (s:Sp)(n:LU)(v:Bool)(hi lo:Int):Sp×AV×Int:=match idxO (atH n v hi lo) s.h with
 |none=>(sp0,hst0,11)
 |some k=>(⟨s.b,outH s.h k,s.z⟩,hAt s.h k,0)
def qun (s:Sp)(n:LU)(v:Bool)(hi lo:Int)(x:LU):Sp×Int:=match idxO (atH n v hi lo) s.h with
 |none=>qk2 11
 |some k=>bif qlj x then qk2 2 else bif s.h.any (atH x v hi lo)then qk2 12 else bif !qjx s.z x then qk2 13 else
  (⟨s.b,insH (mkH x v hi lo (gI (hAt s.h k).cells 4)) (outH s.h k),s.z⟩,0)
def lost (b h:LA):Bool:=h.any fun y=> !blkd b (gB y.cells 1) (gI y.cells 2) (gI y.cells 3)
def qbjn (s:Sp)(c:Chg):Sp×Int:=
 bif c.k==1 then bif(addF s.b (blkC c)).2 != 0 then qk2 (addF s.b (blkC c)).2 else(⟨(addF s.b (blkC c)).1,s.h,s.z⟩,0)else
 bif c.k==2 then bif(qb8 s.b c.v c.hi c.lo c.bits).2 != 0 then qk2 (qb8 s.b c.v c.hi c.lo c.bits).2 else bif lost (qb8 s.b c.v c.hi c.lo c.bits).1 s.h then qk2 25 else(⟨(qb8 s.b c.v c.hi c.lo c.bits).1,s.h,s.z⟩,0)else
 bif c.k==3 then bif(qe4 s.b ⟨c.v,c.hi,c.lo,c.bits⟩ c.nb c.po c.nm c.ow).2.2 != 0 then qk2 (qe4 s.b ⟨c.v,c.hi,c.lo,c.bits⟩ c.nb c.po c.nm c.ow).2.2 else(⟨(qe4 s.b ⟨c.v,c.hi,c.lo,c.bits⟩ c.nb c.po c.nm c.ow).1,s.h,s.z⟩,0)else
 bif c.k==4 then qum s c.hn c.hv c.hhi c.hlo c.ht else
 bif c.k==5 then((qnk s c.hn c.hv c.hhi c.hlo).1,(qnk s c.hn c.hv c.hhi c.hlo).2.2)else
 qun s c.hn c.hv c.hhi c.hlo c.tx
def qb2 (s:Sp)(c:Chg):Sp×Int:=bif okC c then qbjn s c else qk2 1
structure Wk (s:Sp):Prop where
 f:Fits s
 nb:s.b.length<=1000
 tb:qc1 s.b
 nh:s.h.length<=1000
 ph:s.h.Pairwise ltH
 nz:s.z.length<=1000
theorem Plan.wk {s:Sp}(h:Plan s):Wk s:=⟨h.f,by have:=h.nb;omega,h.tb,by have:=h.nh;omega,h.ph,by have:=h.nz;omega⟩
theorem qb7t {l:LA}(hp:l.Pairwise ltH){n:LU}{v:Bool}{hi lo:Int}{r k:Nat}(hr:Cutt l n v hi lo r)(hk:idxO (atH n v hi lo) l=some k):r=k:=by
 obtain⟨y,hy,hf⟩:=qnh l k hk
 have hat:=List.find?_some hf
 have h0:=q0g.1 hat
 have h1:¬k<r:=fun h=>by have:=(hr.2 k y hy).2 h;omega
 have hkl:=(List.getElem?_eq_some_iff.1 hy).1
 rcases Nat.lt_or_ge r k with h|h
 · exfalso
   have hrl:r<l.length:=by omega
   have hlt:=List.pairwise_iff_getElem.1 hp r k hrl hkl h
   have hnl:¬qec (gS (l[r]).cells 0) (gB (l[r]).cells 1) (gI (l[r]).cells 2) (gI (l[r]).cells 3) n v hi lo<0:=fun h=>by have:=(hr.2 r l[r] (by simp[hrl])).1 h;omega
   apply hnl
   have ey:l[k]=y:=by have:=List.getElem?_eq_some_iff.1 hy;exact this.2
   rw[ey]at hlt
   obtain⟨e1,e2,e3,e4⟩:=q0f.1 hat
   have:=qbar.1 hlt
   unfold cmpH at this
   rw[e1,e2,e3,e4]at this
   exact this
 · omega
theorem qb0i {s:Sp}(w:Wk s):qtn s.b s.h s.z=some s.fr:=by
 rw[qbt4];unfold qxh qt qld qon q1o
 have h1:s.b.length*80<=140737488355328:=by have:=w.nb;omega
 have h2:s.h.length*48<=140737488355328:=by have:=w.nh;omega
 have h3:s.z.length*16<=140737488355328:=by have:=w.nz;omega
 simp[h1,h2,h3,Sp.fr]
theorem qqu:hd ([]:List AV) ([]:List AV).length=true:=rfl
theorem qbjo {n:LU}{v:Bool}{hi lo t:Int}(u1:uok hi)(u2:uok lo)(h:n.length<=9223372036854775807):qbqy (mkH n v hi lo t):=⟨rfl,u1,u2,h⟩
theorem qbzd {y:AV}(h:qbqy y):qjw [y]:=⟨by simp,fun z hz=>by simp at hz;subst hz;exact h⟩
theorem qb2f {s:Sp}(w:Wk s)(n:LU)(v:Bool)(hi lo t:Int)(u1:uok hi)(u2:uok lo)(hn:n.length<=9223372036854775807):qzq n v hi lo t s.b s.h s.z=some ((qum s n v hi lo t).1.fr,(qum s n v hi lo t).2):=by
 obtain⟨r,hr⟩:=qbq2 n v hi lo w.ph
 rw[qbkl];unfold qpg qum
 rw[show(AV.agg [(.str n),(.bool v),(.int .u64 hi),(.int .u64 lo),(.int .i64 t)])=mkH n v hi lo t from rfl]
 simp only[hd_self,qqu,cond_t,qb4a _ (qbzd (qbjo u1 u2 hn)),oB_s,qbxd s.h w.f.h (by have:=w.nh;omega) w.ph n v hi lo t hn hr,qbq1 s.b w.f.b,qbtz s.z w.f.z n hn,qb2e s.h (by have:=w.nh;omega) hr.1]
 cases(qe5 [mkH n v hi lo t] != 0)
 case true=>rfl
 simp only[cond_f]
 cases ha:s.h.any (atH n v hi lo)
 case true=>rfl
 simp only[cond_f]
 cases decide ((s.h.length:Int)>=256)
 case true=>rfl
 simp only[cond_f]
 cases blkd s.b v hi lo
 case false=>rfl
 cases qjx s.z n
 case false=>rfl
 simp only[Bool.not_true,cond_f]
 rw[qbsc n v hi lo t hr ha];rfl
theorem qb2g {y:AV}(h:fitC qj y.cells=true):∃n v hi lo t,y=mkH n v hi lo t:=⟨_,_,_,_,_,(qbdj h).symm⟩
theorem qb6f {y:AV}(h:fitC qj y.cells=true):rdE y 0 true 5=some y:=by obtain⟨n,v,hi,lo,t,rfl⟩:=qb2g h;rfl
theorem qb2h {y:AV}(h:fitC qj y.cells=true):fitV (.st qj) y=true:=by obtain⟨n,v,hi,lo,t,rfl⟩:=qb2g h;rfl
theorem qbq3 {h:LA}{k:Nat}{y:AV}(e:h[k]?=some y):hAt h k=y:=by unfold hAt;rw[e];rfl
theorem qbi1 {s:Sp}(w:Wk s)(n:LU)(v:Bool)(hi lo t:Int)(hn:n.length<=9223372036854775807):qkd n v hi lo t s.b s.h s.z=some ((qnk s n v hi lo).1.fr,(qnk s n v hi lo).2.1,(qnk s n v hi lo).2.2):=by
 obtain⟨r,hr⟩:=qbq2 n v hi lo w.ph
 rw[qba9];unfold qlr qnk
 have hany:s.h.any (atH n v hi lo)=(idxO (atH n v hi lo) s.h).isSome:=by
  rw[<-qtk];unfold idxI
  cases idxO (atH n v hi lo) s.h with
  |none=>rfl
  |some k=>simp
 simp only[hd_self,qqu,cond_t,qbxd s.h w.f.h (by have:=w.nh;omega) w.ph n v hi lo t hn hr,oB_s,hany]
 cases hk:idxO (atH n v hi lo) s.h with
 |none=>rfl
 |some k=>
  have:=qb7t w.ph hr hk
  subst this
  obtain⟨y,hy,_⟩:=qnh s.h r hk
  have hrl:=(List.getElem?_eq_some_iff.1 hy).1
  have hyf:=w.f.h.2 y (List.mem_of_getElem? hy)
  have h1:decide (0<=(r:Int)/\(r:Int)<(s.h.length:Int))=true:=decide_eq_true ⟨by omega,by omega⟩
  have hw:IntKind.i64.wrap ((r:Int)+1)=((r+1:Nat):Int):=by rw[w64 (by omega) (by have:=w.nh;omega)];omega
  simp only[Option.isSome_some,Bool.not_true,cond_f,h1,cond_t,Int.toNat_natCast,hy,oB_s,hw,qb7q s.h (by have:=w.nh;omega) hrl,hd_self]
  rw[qbq3 hy]
  have hz:rdE y 0 true 5=some y:=qb6f hyf.1
  have hv:fitV (.st qj) y=true:=qb2h hyf.1
  rw[hz]
  simp only[oB_s,hv,cond_t]
  rw[show(AV.agg [(.str (gS y.cells 0)),(.bool (gB y.cells 1)),(.int .u64 (gI y.cells 2)),(.int .u64 (gI y.cells 3)),(.int .i64 (gI y.cells 4))])=y from qbdj hyf.1]
  rfl
theorem spf0 (s:Sp):gL s.fr.cells 0=s.b:=rfl
theorem spf1 (s:Sp):gL s.fr.cells 1=s.h:=rfl
theorem spf2 (s:Sp):gL s.fr.cells 2=s.z:=rfl
theorem qb6g {h:LA}{k:Nat}(hk:k<h.length):(outH h k).length+1=h.length:=by simp[outH];omega
theorem q0h {h:LA}{k:Nat}{y:AV}(hy:y∈outH h k):y∈h:=by
 rcases List.mem_append.1 hy with h1|h1
 · exact List.mem_of_mem_take h1
 · exact List.mem_of_mem_drop h1
theorem q33 (h:LA)(k:Nat):(outH h k).Sublist h:=by
 have:h=h.take k++h.drop k:=(List.take_append_drop k h).symm
 unfold outH
 conv=>rhs;rw[this]
 exact(List.Sublist.refl _).append (by rw[show h.drop (k+1)=(h.drop k).drop 1 by simp];exact List.drop_sublist 1 _)
theorem Wk.out {s:Sp}(w:Wk s)(k:Nat):Wk ⟨s.b,outH s.h k,s.z⟩:=⟨⟨w.f.b,⟨Nat.le_trans (q33 s.h k).length_le w.f.h.1,fun y hy=>w.f.h.2 y (q0h hy)⟩,w.f.z⟩,w.nb,w.tb,Nat.le_trans (q33 s.h k).length_le w.nh,w.ph.sublist (q33 s.h k),w.nz⟩
theorem qbze {h:LA}{k:Nat}{y:AV}(e:h[k]?=some y)(q:AV->Bool):h.any q=((outH h k).any q||q y):=by
 have hk:=(List.getElem?_eq_some_iff.1 e).1
 have hd:h.drop k=y::h.drop (k+1):=by
  rw[List.drop_eq_getElem_cons hk];congr 1;exact(List.getElem?_eq_some_iff.1 e).2
 have:h=h.take k++(y::h.drop (k+1)):=by rw[<-hd,List.take_append_drop]
 conv=>lhs;rw[this]
 unfold outH
 simp only[List.any_append,List.any_cons]
 cases(h.take k).any q<;>cases q y<;>simp
theorem qb4c {s:Sp}(w:Wk s)(n:LU)(v:Bool)(hi lo t:Int)(x:LU)(hn:n.length<=9223372036854775807)(hx:x.length<=9223372036854775807):q2g s.b s.h s.z n v hi lo t x=some ((qun s n v hi lo x).1.fr,(qun s n v hi lo x).2):=by
 rw[qbmu];unfold qr2 qun
 simp only[qb0i w,oB_s,spf0,spf1,spf2,hd_self,qqu,cond_t,Bool.and_self,qbi1 w n v hi lo t hn]
 unfold qnk
 cases hk:idxO (atH n v hi lo) s.h with
 |none=>rfl
 |some k=>
  obtain⟨y,hy,hf⟩:=qnh s.h k hk
  have hat:=List.find?_some hf
  obtain⟨e1,e2,e3,e4⟩:=q0f.1 hat
  have hkl:=(List.getElem?_eq_some_iff.1 hy).1
  have hyf:=w.f.h.2 y (List.mem_of_getElem? hy)
  have wo:=w.out k
  obtain⟨r,hr⟩:=qbq2 x v hi lo wo.ph
  simp only[bne_self_eq_false,cond_f,qbq3 hy,e1,e2,e3,e4,hd_self,cond_t,Bool.and_self,qqu,spf0,spf1,spf2]
  rw[qbbb];unfold qls
  rw[qtm x hx,oB_s]
  unfold qlj
  cases ho:qbd x with
  |false=>rfl
  |true=>
   simp only[Bool.not_true,cond_f,qb39 x hx ho,oB_s,Bool.false_or]
   cases q3v x with
   |true=>rfl
   |false=>
    have hany:s.h.any (atH x v hi lo)=((outH s.h k).any (atH x v hi lo)||(x==n)):=by
     rw[qbze hy];congr 1
     rw[Bool.eq_iff_iff,q0f]
     simp only[e1,e2,e3,e4,and_true,beq_iff_eq]
     exact eq_comm
    simp only[cond_f,qbxd (outH s.h k) wo.f.h (by have:=wo.nh;simp only at this;omega) wo.ph x v hi lo (gI y.cells 4) hx hr,oB_s,hany]
    cases hb:((outH s.h k).any (atH x v hi lo)||(x==n))with
    |true=>rfl
    |false=>
     have ha:(outH s.h k).any (atH x v hi lo)=false:=by
      cases h:(outH s.h k).any (atH x v hi lo)with
      |false=>rfl
      |true=>rw[h]at hb;cases hb
     simp only[cond_f,qbtz s.z w.f.z x hx,oB_s]
     cases qjx s.z x with
     |false=>rfl
     |true=>
      rw[show(AV.agg [(.str x),(.bool v),(.int .u64 hi),(.int .u64 lo),(.int .i64 (gI y.cells 4))])=mkH x v hi lo (gI y.cells 4)from rfl]
      simp only[Bool.not_true,cond_f,qb2e (outH s.h k) (by have:=wo.nh;simp only at this;omega) hr.1,oB_s,qbsc x v hi lo (gI y.cells 4) hr ha,hd_self,cond_t]
      rfl
theorem qb7u {R:Type}{s:Sp}(hb:qq s.b)(hh:qjw s.h)(kr:Bool->List AV->List AV->List AV->Option R):
 qck s.h s.b s.h s.z kr=kr (lost s.b s.h) s.b s.h s.z:=by
 rw[qig];unfold qbv
 rw[qjd];unfold qbz
 rw[qie]
 have key:=qch (σ:=List AV×List AV×List AV) s.h hh.1 (fun k i t=>qbb s.h (s.h.length:Int) (fun b0_0q1 b0_1q2 b0_2q3=>(fun v4q1 b0_0q2 b0_1q3 b0_2q4=>(kr (decide (v4q1>=0)) b0_0q2 b0_1q3 b0_2q4)) (-1:Int) b0_0q1 b0_1q2 b0_2q3) (fun v4q1 b0_0q2 b0_1q3 b0_2q4=>(kr (decide (v4q1>=0)) b0_0q2 b0_1q3 b0_2q4)) k i t.1 t.2.1 t.2.2)
  (fun i t nx=>qba s.h (s.h.length:Int) i t.1 t.2.1 t.2.2 (fun i a b c=>nx i (a,b,c)) (fun b0_0q1 b0_1q2 b0_2q3=>(fun v4q1 b0_0q2 b0_1q3 b0_2q4=>(kr (decide (v4q1>=0)) b0_0q2 b0_1q3 b0_2q4)) (-1:Int) b0_0q1 b0_1q2 b0_2q3) (fun v4q1 b0_0q2 b0_1q3 b0_2q4=>(kr (decide (v4q1>=0)) b0_0q2 b0_1q3 b0_2q4))) (fun _ _ _=>rfl)
  (fun _ t=>t=(s.b,s.h,s.z)) (fun r _=>kr (lost s.b r) s.b s.h s.z) ?_ ?_ (s.b,s.h,s.z) FU rfl (qcp (by have:=hh.1;omega))
 · exact key
 · intro t nx ht;subst ht;simp[qba,lost]
 · intro i y r t nx h1 h2 h3 h4 ht h5
   subst ht
   have hy:=hh.2 y (List.mem_of_getElem? h2)
   have h6:(i:Int)<(s.h.length:Int):=by omega
   unfold qba
   simp only[h6,decide_true,cond_t,ixB_nat,h2,oB_s,hy.1,h4]
   rw[qbj4];unfold qpa
   rw[qbq1 s.b hb,oB_s]
   simp only[h5 _ rfl]
   have e:lost s.b (y::r)=((!blkd s.b (gB y.cells 1) (gI y.cells 2) (gI y.cells 3))||lost s.b r):=rfl
   rw[e]
   have:decide ((i:Int)>=0)=true:=by simp
   cases blkd s.b (gB y.cells 1) (gI y.cells 2) (gI y.cells 3)<;>simp[this]
theorem qb2i {s:Sp}{n:LU}{v:Bool}{hi lo t:Int}(h:(qum s n v hi lo t).2≠0):(qum s n v hi lo t).1=sp0:=by
 unfold qum at*
 cases h1:(qe5 [mkH n v hi lo t] != 0)
 case true=>rfl
 cases h2:s.h.any (atH n v hi lo)
 case true=>rfl
 cases h3:decide ((s.h.length:Int)>=256)
 case true=>rfl
 cases h4:blkd s.b v hi lo
 case false=>rfl
 cases h5:qjx s.z n
 case false=>rfl
 rw[h1,h2,h3,h4,h5]at h
 exact absurd rfl h
theorem qb2j {s:Sp}{n:LU}{v:Bool}{hi lo:Int}(h:(qnk s n v hi lo).2.2≠0):(qnk s n v hi lo).1=sp0:=by
 unfold qnk at*
 cases hk:idxO (atH n v hi lo) s.h with
 |none=>rfl
 |some k=>rw[hk]at h;exact absurd rfl h
theorem qb2k {s:Sp}{n:LU}{v:Bool}{hi lo:Int}{x:LU}(h:(qun s n v hi lo x).2≠0):(qun s n v hi lo x).1=sp0:=by
 unfold qun at*
 cases hk:idxO (atH n v hi lo) s.h with
 |none=>rfl
 |some k=>
  rw[hk]at h
  simp only at h⊢
  cases h1:qlj x
  case true=>rfl
  cases h2:s.h.any (atH x v hi lo)
  case true=>rfl
  cases h3:qjx s.z x
  case false=>rfl
  rw[h1,h2,h3]at h
  exact absurd rfl h
theorem qb0j (r:Sp×Int)(h:r.2≠0->r.1=sp0):(bif r.2 != 0 then(some ((.agg [(.sl 8 []),(.sl 5 []),(.sl 1 [])]),r.2):Option (AV×Int))else some ((.agg [(.sl 8 r.1.b),(.sl 5 r.1.h),(.sl 1 r.1.z)]),0))=some (r.1.av,r.2):=by
 obtain⟨x,e⟩:=r
 by_cases he:e=0
 · subst he;rfl
 · have h1:=h he
   simp only at h1
   subst h1
   have:(e != 0)=true:=by simpa using he
   simp only[this,cond_t];rfl
theorem qbat {s:Sp}(w:Wk s)(c:Chg)(hc:CFit c):qcw s.b s.h s.z c.k c.v c.hi c.lo c.bits c.bk c.nm c.ow c.vl c.nb c.po c.hn c.hv c.hhi c.hlo c.ht c.tx=some ((qb2 s c).1.av,(qb2 s c).2):=by
 rw[qboo];unfold qt2 qb2
 rw[qb7r c,oB_s]
 have e1:(!qo1 c.k|| !eqC (qbdl c) c)= !okC c:=by unfold okC;cases qo1 c.k<;>rfl
 change (bif(!qo1 c.k|| !eqC (qbdl c) c)then _ else _)=_
 rw[e1]
 cases ho:okC c with
 |false=>rfl
 |true=>
  simp only[Bool.not_true,cond_f,cond_t,qb0i w,oB_s,spf0,spf1,spf2,hd_self,Bool.and_self]
  rw[qbem];unfold qmn qbjn
  simp only[hd_self,cond_t,Bool.and_self]
  cases h1:(c.k==1)with
  |true=>
   simp only[cond_t]
   rw[qb4x s.b w.f.b (by have:=w.nb;omega) w.tb c.v c.hi c.lo c.bits c.bk c.nm c.ow c.vl ⟨rfl,hc.u1,hc.u2,hc.n1,hc.n2⟩]
   simp only[oB_s]
   rw[show mkB c.v c.hi c.lo c.bits c.bk c.nm c.ow c.vl=blkC c from rfl]
   cases he:((addF s.b (blkC c)).2 != 0)<;>rfl
  |false=>
  simp only[cond_f]
  cases h2:(c.k==2)with
  |true=>
   simp only[cond_t]
   rw[qb3m s.b w.f.b (by have:=w.nb;omega) w.tb]
   simp only[oB_s]
   rw[qbek];unfold qmm
   cases he:((qb8 s.b c.v c.hi c.lo c.bits).2 != 0)with
   |true=>
    have:((qb8 s.b c.v c.hi c.lo c.bits).2==0)=false:=by simpa using he
    simp only[this,cond_f,he,cond_t];rfl
   |false=>
    have:((qb8 s.b c.v c.hi c.lo c.bits).2==0)=true:=by simpa using he
    have h0:(qb8 s.b c.v c.hi c.lo c.bits).2=0:=by simpa using he
    simp only[this,cond_t,he,cond_f]
    obtain⟨r1,_,_⟩:=q0x w.f.b w.tb h0
    rw[qb7u (s:=⟨(qb8 s.b c.v c.hi c.lo c.bits).1,s.h,s.z⟩) r1 w.f.h]
    cases hl:lost (qb8 s.b c.v c.hi c.lo c.bits).1 s.h<;>rfl
  |false=>
  simp only[cond_f]
  cases h3:(c.k==3)with
  |true=>
   simp only[cond_t]
   rw[qbqq s.b w.f.b w.tb w.nb ⟨c.v,c.hi,c.lo,c.bits⟩ c.nb c.po c.nm c.ow hc.n1 hc.n2]
   simp only[oB_s]
   cases he:((qe4 s.b ⟨c.v,c.hi,c.lo,c.bits⟩ c.nb c.po c.nm c.ow).2.2 != 0)<;>rfl
  |false=>
  simp only[cond_f]
  cases h4:(c.k==4)with
  |true=>
   simp only[cond_t,qb2f w c.hn c.hv c.hhi c.hlo c.ht hc.u3 hc.u4 hc.n3,oB_s,spf0,spf1,spf2,hd_self]
   exact qb0j (qum s c.hn c.hv c.hhi c.hlo c.ht) qb2i
  |false=>
  simp only[cond_f]
  cases h5:(c.k==5)with
  |true=>
   simp only[cond_t,qbi1 w c.hn c.hv c.hhi c.hlo c.ht hc.n3,oB_s,spf0,spf1,spf2,hd_self]
   exact qb0j ((qnk s c.hn c.hv c.hhi c.hlo).1,(qnk s c.hn c.hv c.hhi c.hlo).2.2) qb2j
  |false=>
  have h6:(c.k==6)=true:=by
   unfold okC qo1 at ho
   rw[h1,h2,h3,h4,h5]at ho
   cases h:(c.k==6)
   · rw[h]at ho;cases ho
   · rfl
  simp only[cond_f,h6,cond_t,qb4c w c.hn c.hv c.hhi c.hlo c.ht c.tx hc.n3 hc.n4,oB_s,spf0,spf1,spf2,hd_self]
  exact qb0j (qun s c.hn c.hv c.hhi c.hlo c.tx) qb2k
theorem qb0k {s:Sp}(w:Wk s)(c:Chg)(hc:CFit c):qzv s.b s.h s.z c.k c.v c.hi c.lo c.bits c.bk c.nm c.ow c.vl c.nb c.po c.hn c.hv c.hhi c.hlo c.ht c.tx=some (
 bif c.k==4 then((qum s c.hn c.hv c.hhi c.hlo c.ht).1.av,(qum s c.hn c.hv c.hhi c.hlo c.ht).2)else
 bif c.k==5 then((qnk s c.hn c.hv c.hhi c.hlo).1.av,(qnk s c.hn c.hv c.hhi c.hlo).2.2)else
 ((qun s c.hn c.hv c.hhi c.hlo c.tx).1.av,(qun s c.hn c.hv c.hhi c.hlo c.tx).2)):=by
 rw[qbla];unfold qp3
 rw[qbzc s.h w.f.h,oB_s]
 cases h4:(c.k==4)with
 |true=>
  unfold qum
  rw[show(AV.agg [(.str c.hn),(.bool c.hv),(.int .u64 c.hhi),(.int .u64 c.hlo),(.int .i64 c.ht)])=mkH c.hn c.hv c.hhi c.hlo c.ht from rfl]
  simp only[cond_t,hd_self,qbq0 _ (qbzd (qbjo hc.u3 hc.u4 hc.n3)),oB_s,qtk,qbi0 s.b w.f.b _ _ _ hc.u3 hc.u4,qbsb s.z w.f.z _ hc.n3,qbl2 s.h w.f.h (by have:=w.nh;omega) c.hn c.hv c.hhi c.hlo c.ht hc.n3]
  cases(qe5 [mkH c.hn c.hv c.hhi c.hlo c.ht] != 0)
  case true=>rfl
  cases s.h.any (atH c.hn c.hv c.hhi c.hlo)
  case true=>rfl
  cases decide ((s.h.length:Int)>=256)
  case true=>rfl
  cases blkd s.b c.hv c.hhi c.hlo
  case false=>rfl
  cases qjx s.z c.hn<;>rfl
 |false=>
  simp only[cond_f]
  unfold qnk qun idxI
  cases hk:idxO (atH c.hn c.hv c.hhi c.hlo) s.h with
  |none=>cases(c.k==5)<;>rfl
  |some k=>
   obtain⟨y,hy,hf⟩:=qnh s.h k hk
   have hat:=List.find?_some hf
   obtain⟨e1,e2,e3,e4⟩:=q0f.1 hat
   have hkl:=(List.getElem?_eq_some_iff.1 hy).1
   have hyf:=w.f.h.2 y (List.mem_of_getElem? hy)
   have wo:=w.out k
   have hneg:decide ((k:Int)<0)=false:=decide_eq_false (by omega)
   simp only[hneg,cond_f,qbxe s.h w.f.h (by have:=w.nh;omega) k,oB_s,qbq3 hy]
   rw[show s.h.take k++s.h.drop (k+1)=outH s.h k from rfl]
   cases(c.k==5)with
   |true=>rfl
   |false=>
    simp only[cond_f]
    have hJ:∀kn:Bool->Option (AV×Int),qtc (k:Int) (outH s.h k) s.b s.h s.z c.k c.v c.hi c.lo c.bits c.bk c.nm c.ow c.vl c.nb c.po c.hn c.hv c.hhi c.hlo c.ht c.tx kn=kn (qlj c.tx):=fun kn=>by
     rw[q9z];unfold qkx qlj
     rw[qbiy _ hc.n4,oB_s]
     cases ho:qbd c.tx with
     |false=>rfl
     |true=>
      simp only[Bool.not_true,cond_f,Bool.false_or]
      exact qby9 ho kn
    rw[hJ]
    cases qlj c.tx with
    |true=>rfl
    |false=>
     simp only[cond_f,qbzc s.h w.f.h,oB_s,qtk,qbsb s.z w.f.z _ hc.n4,ixB_nat,hy,hyf.1,cond_t,qbl2 (outH s.h k) wo.f.h (by have:=wo.nh;simp only at this;omega) c.tx c.hv c.hhi c.hlo (gI y.cells 4) hc.n4]
     cases s.h.any (atH c.tx c.hv c.hhi c.hlo)
     case true=>rfl
     cases qjx s.z c.tx<;>rfl
theorem qb7v (l:LA)(hl:qq l){s:Sp}(w:Wk s):qte l s.b s.h s.z (fun(_:Unit)=>(some ((.agg [(.sl 8 l),(.sl 5 s.h),(.sl 1 s.z)]),0))) FU 0=some (bif lost l s.h then(sp0.av,25)else((Sp.mk l s.h s.z).av,0)):=by
 rw[q90,qf8 s.h w.f.h.1 (qg7 l s.b s.h s.z (fun(_:Unit)=>(some ((.agg [(.sl 8 l),(.sl 5 s.h),(.sl 1 s.z)]),0)))) (fun i nx=>qg6 l i s.b s.h s.z nx (fun(_:Unit)=>(some ((.agg [(.sl 8 l),(.sl 5 s.h),(.sl 1 s.z)]),0)))) (fun _ _=>rfl) (fun r=>some (bif lost l r then(sp0.av,25)else((Sp.mk l s.h s.z).av,0)))]
 · intro nx;simp[qg6,lost];rfl
 · intro i y r nx h1 h2 h3 h4 h5
   have hy:=w.f.h.2 y (List.mem_of_getElem? h2)
   have h6:(i:Int)<(s.h.length:Int):=by omega
   unfold qg6
   simp only[h6,decide_true,cond_t,ixB_nat,h2,oB_s,hy.1,h4,h5,qbi0 l hl _ _ _ hy.2.1 hy.2.2.1]
   have e:lost l (y::r)=((!blkd l (gB y.cells 1) (gI y.cells 2) (gI y.cells 3))||lost l r):=rfl
   rw[e]
   cases blkd l (gB y.cells 1) (gI y.cells 2) (gI y.cells 3)<;>rfl
theorem qbdm {s:Sp}(w:Wk s)(c:Chg)(hc:CFit c):qil s.b s.h s.z c.k c.v c.hi c.lo c.bits c.bk c.nm c.ow c.vl c.nb c.po c.hn c.hv c.hhi c.hlo c.ht c.tx=some ((qb2 s c).1.av,(qb2 s c).2):=by
 rw[qblb];unfold qp4
 have hJ:∀kn:Bool->Option (AV×Int),qu3 s.b s.h s.z c.k c.v c.hi c.lo c.bits c.bk c.nm c.ow c.vl c.nb c.po c.hn c.hv c.hhi c.hlo c.ht c.tx kn=kn (!okC c):=fun kn=>by
  rw[qbb7];unfold ql0 okC
  by_cases h1:c.k<1
  · have:qo1 c.k=false:=by
     unfold qo1
     simp only[Bool.or_eq_false_iff,beq_eq_false_iff_ne]
     omega
    rw[this];simp[h1]
  · by_cases h2:c.k>6
    · have:qo1 c.k=false:=by
       unfold qo1
       simp only[Bool.or_eq_false_iff,beq_eq_false_iff_ne]
       omega
      rw[this];simp[h1,h2]
    · have:qo1 c.k=true:=by
       unfold qo1
       simp only[Bool.or_eq_true,beq_iff_eq]
       omega
      rw[this,qb7s c]
      simp only[h1,h2,decide_false,cond_f,oB_s,Bool.true_and]
      rfl
 rw[hJ]
 unfold qb2
 cases ho:okC c with
 |false=>rfl
 |true=>
  simp only[Bool.not_true,cond_f,cond_t]
  unfold qbjn
  cases h1:(c.k==1)with
  |true=>
   simp only[cond_t]
   rw[qbwx s.b w.f.b (by have:=w.nb;omega) c.v c.hi c.lo c.bits c.bk c.nm c.ow c.vl ⟨rfl,hc.u1,hc.u2,hc.n1,hc.n2⟩]
   simp only[oB_s]
   rw[show mkB c.v c.hi c.lo c.bits c.bk c.nm c.ow c.vl=blkC c from rfl]
   cases he:((addF s.b (blkC c)).2 != 0)<;>rfl
  |false=>
  simp only[cond_f]
  cases h2:(c.k==2)with
  |true=>
   simp only[cond_t]
   rw[qb11 s.b w.f.b (by have:=w.nb;omega)]
   simp only[oB_s]
   cases he:((qb8 s.b c.v c.hi c.lo c.bits).2 != 0)with
   |true=>rfl
   |false=>
    have h0:(qb8 s.b c.v c.hi c.lo c.bits).2=0:=by simpa using he
    obtain⟨r1,_,_⟩:=q0x w.f.b w.tb h0
    simp only[cond_f]
    rw[qb7v _ r1 w]
    cases hl:lost (qb8 s.b c.v c.hi c.lo c.bits).1 s.h<;>rfl
  |false=>
  simp only[cond_f]
  cases h3:(c.k==3)with
  |true=>
   simp only[cond_t]
   rw[qblz s.b w.f.b w.tb w.nb ⟨c.v,c.hi,c.lo,c.bits⟩ c.nb c.po c.nm c.ow hc.n1 hc.n2]
   simp only[oB_s]
   cases he:((qe4 s.b ⟨c.v,c.hi,c.lo,c.bits⟩ c.nb c.po c.nm c.ow).2.2 != 0)<;>rfl
  |false=>
  simp only[cond_f]
  rw[qb0k w c hc,oB_s]
  cases(c.k==4)
  case true=>rfl
  cases(c.k==5)<;>rfl
def qbq4:Ty:=.st [.str,qbir,.int .i64]
def qb0l:Ty:=.str
theorem hstsFit_of {l:LA}(h:l.length<=9223372036854775807/\∀y,y∈l->fitC qbq4.lts y.cells=true/\qbq4.good y.cells 0):qjw l:=
 ⟨h.1,fun y hy=>by
  obtain⟨h1,h2⟩:=h.2 y hy
  simp only[qbq4,qbir,Ty.good.goods,Ty.good,Ty.size,Ty.sizes,Nat.zero_add,Nat.reduceAdd,and_true,true_and]at h2
  exact⟨h1,h2.2.1.1,h2.2.1.2,h2.1⟩⟩
theorem zonsFit_of {l:LA}(h:l.length<=9223372036854775807/\∀y,y∈l->fitC qb0l.lts y.cells=true/\qb0l.good y.cells 0):qbas l:=
 ⟨h.1,fun y hy=>by
  obtain⟨h1,h2⟩:=h.2 y hy
  simp only[qb0l,Ty.good]at h2
  exact⟨h1,h2⟩⟩
def qbq5:List Ty:=[.int .i64,qbqd,.int .i64,.int .i64,qbq4,.str]
theorem qb6h {cs:LA}(h:Ty.good.goods qbq5 cs 0):CFit ⟨gI cs 0,gB cs 1,gI cs 2,gI cs 3,gI cs 4,gI cs 5,gS cs 6,gS cs 7,gI cs 8,gI cs 9,gI cs 10,gS cs 11,gB cs 12,gI cs 13,gI cs 14,gI cs 15,gS cs 16⟩:=by
 simp only[qbq5,qbqd,qbq4,qbwp,qbir,Ty.good.goods,Ty.good,Ty.size,Ty.sizes,Nat.zero_add,Nat.reduceAdd,and_true,true_and]at h
 obtain⟨_,⟨⟨⟨h2,h3⟩,_⟩,_,h6,h7,_⟩,_,_,⟨h11,⟨h13,h14⟩,_⟩,h16⟩:=h
 exact⟨h2,h3,h13,h14,h6,h7,h11,h16⟩
theorem wk0:Wk sp0:=⟨⟨⟨by decide,fun y hy=>by cases hy⟩,⟨by decide,fun y hy=>by cases hy⟩,⟨by decide,fun y hy=>by cases hy⟩⟩,by decide,fun j y h=>(by cases h),by decide,List.Pairwise.nil,by decide⟩
def exC1:Chg:=⟨1,false,0,167772160,8,1,[110,101,116],[],0,0,0,[],false,0,0,0,[]⟩
def exC2:Chg:=⟨2,false,0,167772160,8,0,[],[],0,0,0,[],false,0,0,0,[]⟩
theorem qb8e:CFit exC1:=⟨⟨by decide,by decide⟩,⟨by decide,by decide⟩,⟨by decide,by decide⟩,⟨by decide,by decide⟩,by decide,by decide,by decide,by decide⟩
theorem qb8f:CFit exC2:=⟨⟨by decide,by decide⟩,⟨by decide,by decide⟩,⟨by decide,by decide⟩,⟨by decide,by decide⟩,by decide,by decide,by decide,by decide⟩
theorem exA1:qb2 sp0 exC1=(⟨[blkC exC1],[],[]⟩,0):=by kernel_rfl
theorem exA2:qb2 sp0 exC2=(sp0,11):=by kernel_rfl
theorem exP1:qcw [] [] [] 1 false 0 167772160 8 1 [110,101,116] [] 0 0 0 [] false 0 0 0 []=some ((Sp.mk [blkC exC1] [] []).av,0):=by
 have:=qbat wk0 exC1 qb8e
 rw[exA1]at this;exact this
theorem exP2:qcw [] [] [] 2 false 0 167772160 8 0 [] [] 0 0 0 [] false 0 0 0 []=some (sp0.av,11):=by
 have:=qbat wk0 exC2 qb8f
 rw[exA2]at this;exact this
theorem exI1:qt3 [] [] [] 1 false 0 167772160 8 1 [110,101,116] [] 0 0 0 [] false 0 0 0 []=some (exC2.av,0):=by
 rw[qbkm];unfold qpi
 rw[exP1];rfl
theorem qb2l:qt4=some true:=by
 rw[qbkn];unfold qpj
 have ht:qxf 8=some (.agg [(.bool false),(.int .u64 0),(.int .u64 (167772160:Int)),(.int .i64 8)]):=by
  rw[qbn0];rfl
 rw[ht]
 simp only[oB_s]
 rw[show qcw [] [] [] 1 (gB (AV.agg [(.bool false),(.int .u64 0),(.int .u64 (167772160:Int)),(.int .i64 8)]).cells 0) (gI (AV.agg [(.bool false),(.int .u64 0),(.int .u64 (167772160:Int)),(.int .i64 8)]).cells 1) (gI (AV.agg [(.bool false),(.int .u64 0),(.int .u64 (167772160:Int)),(.int .i64 8)]).cells 2) (gI (AV.agg [(.bool false),(.int .u64 0),(.int .u64 (167772160:Int)),(.int .i64 8)]).cells 3) 1 [110,101,116] [] 0 0 0 [] false 0 0 0 []=some ((Sp.mk [blkC exC1] [] []).av,0)from exP1]
 rw[show qcw [] [] [] 2 (gB (AV.agg [(.bool false),(.int .u64 0),(.int .u64 (167772160:Int)),(.int .i64 8)]).cells 0) (gI (AV.agg [(.bool false),(.int .u64 0),(.int .u64 (167772160:Int)),(.int .i64 8)]).cells 1) (gI (AV.agg [(.bool false),(.int .u64 0),(.int .u64 (167772160:Int)),(.int .i64 8)]).cells 2) (gI (AV.agg [(.bool false),(.int .u64 0),(.int .u64 (167772160:Int)),(.int .i64 8)]).cells 3) 0 [] [] 0 0 0 [] false 0 0 0 []=some (sp0.av,11)from exP2]
 rw[show qt3 [] [] [] 1 (gB (AV.agg [(.bool false),(.int .u64 0),(.int .u64 (167772160:Int)),(.int .i64 8)]).cells 0) (gI (AV.agg [(.bool false),(.int .u64 0),(.int .u64 (167772160:Int)),(.int .i64 8)]).cells 1) (gI (AV.agg [(.bool false),(.int .u64 0),(.int .u64 (167772160:Int)),(.int .i64 8)]).cells 2) (gI (AV.agg [(.bool false),(.int .u64 0),(.int .u64 (167772160:Int)),(.int .i64 8)]).cells 3) 1 [110,101,116] [] 0 0 0 [] false 0 0 0 []=some (exC2.av,0)from exI1]
 rfl
def qb0m (b h z l:LA):Bool:=(((decide ((b.length:Int)>(40:Int)))||(decide ((h.length:Int)>(40:Int))))||(decide ((z.length:Int)>(40:Int))))||(decide ((l.length:Int)>(68:Int)))
theorem qb6i (b h z l:LA):qrg b h z l=some (qb0m b h z l):=by rw[qbfr];rfl
theorem qbxh {l:LA}(hl:qjw l)(hn:l.length<=100000){y:AV}(hy:qbqy y):qjw (insH y l):=⟨by rw[qbdk];omega,fun z hz=>by
 rcases qqg.1 hz with rfl|h
 · exact hy
 · exact hl.2 z h⟩
theorem qbzf {l:LA}(hl:qq l)(hn:l.length<=100000){b:AV}(hb:qkf b):qq (addF l b).1:=by
 rcases qb3z (l:=l) (b:=b)with h|h<;>rw[h]
 · exact⟨by simp,fun y hy=>by cases hy⟩
 · exact qbnw hl hn hb
theorem qom:Fits sp0:=wk0.f
theorem qb0n {s:Sp}(w:Wk s){c:Chg}(hc:CFit c):Fits (qb2 s c).1:=by
 unfold qb2
 cases okC c with
 |false=>exact qom
 |true=>
 simp only[cond_t]
 unfold qbjn
 cases(c.k==1)with
 |true=>
  simp only[cond_t]
  cases((addF s.b (blkC c)).2 != 0)with
  |true=>exact qom
  |false=>exact⟨qbzf w.f.b (by have:=w.nb;omega) ⟨rfl,hc.u1,hc.u2,hc.n1,hc.n2⟩,w.f.h,w.f.z⟩
 |false=>
 simp only[cond_f]
 cases(c.k==2)with
 |true=>
  simp only[cond_t]
  cases he:((qb8 s.b c.v c.hi c.lo c.bits).2 != 0)with
  |true=>exact qom
  |false=>
   have h0:(qb8 s.b c.v c.hi c.lo c.bits).2=0:=by simpa using he
   simp only[cond_f]
   cases lost (qb8 s.b c.v c.hi c.lo c.bits).1 s.h with
   |true=>exact qom
   |false=>exact⟨(q0x w.f.b w.tb h0).1,w.f.h,w.f.z⟩
 |false=>
 simp only[cond_f]
 cases(c.k==3)with
 |true=>
  simp only[cond_t]
  cases((qe4 s.b ⟨c.v,c.hi,c.lo,c.bits⟩ c.nb c.po c.nm c.ow).2.2 != 0)with
  |true=>exact qom
  |false=>
   refine⟨?_,w.f.h,w.f.z⟩
   show qq (qe4 s.b ⟨c.v,c.hi,c.lo,c.bits⟩ c.nb c.po c.nm c.ow).1
   have nil:qq []:=qom.b
   unfold qe4
   rcases qyx (qni w.f.b w.tb) ⟨c.v,c.hi,c.lo,c.bits⟩ c.nb c.po with⟨e,he,hne⟩|⟨q,hq,hch⟩
   · rw[he]
     have:(e != 0)=true:=by simpa using hne
     simp only[this,cond_t];exact nil
   · rw[hq]
     obtain⟨w0,w1,w2,w3⟩:=av_w q
     simp only[bne_self_eq_false,cond_f,w0,w1,w2,w3]
     cases(addF s.b (mkB q.v q.hi q.lo q.bits 2 c.nm c.ow 0)).2 != 0 with
     |true=>exact nil
     |false=>exact qbzf w.f.b (by have:=w.nb;omega) (qbaq hch.good hc.n1 hc.n2)
 |false=>
 simp only[cond_f]
 cases(c.k==4)with
 |true=>
  simp only[cond_t]
  unfold qum
  cases(qe5 [mkH c.hn c.hv c.hhi c.hlo c.ht] != 0)
  case true=>exact qom
  cases s.h.any (atH c.hn c.hv c.hhi c.hlo)
  case true=>exact qom
  cases decide ((s.h.length:Int)>=256)
  case true=>exact qom
  cases blkd s.b c.hv c.hhi c.hlo
  case false=>exact qom
  cases qjx s.z c.hn
  case false=>exact qom
  exact⟨w.f.b,qbxh w.f.h (by have:=w.nh;omega) (qbjo hc.u3 hc.u4 hc.n3),w.f.z⟩
 |false=>
 simp only[cond_f]
 cases(c.k==5)with
 |true=>
  simp only[cond_t]
  unfold qnk
  cases idxO (atH c.hn c.hv c.hhi c.hlo) s.h with
  |none=>exact qom
  |some k=>exact(w.out k).f
 |false=>
  simp only[cond_f]
  unfold qun
  cases idxO (atH c.hn c.hv c.hhi c.hlo) s.h with
  |none=>exact qom
  |some k=>
   simp only
   cases qlj c.tx
   case true=>exact qom
   cases s.h.any (atH c.tx c.hv c.hhi c.hlo)
   case true=>exact qom
   cases qjx s.z c.tx
   case false=>exact qom
   have wo:=w.out k
   exact⟨w.f.b,qbxh wo.f.h (Nat.le_trans wo.nh (by decide)) (qbjo hc.u3 hc.u4 hc.n4),w.f.z⟩
theorem qbi2 {n:LU}{v:Bool}{hi lo t:Int}:∀{l:LA},l.Pairwise ltH->l.any (atH n v hi lo)=false->(insH (mkH n v hi lo t) l).Pairwise ltH
 |[],_,_=>by simp[insH]
 |y::r,hp,ha=>by
  rw[List.pairwise_cons]at hp
  rw[List.any_cons,Bool.or_eq_false_iff]at ha
  rw[q13]
  by_cases hc:cmpH (mkH n v hi lo t) y<0
  · simp only[hc,decide_true,cond_t]
    have hx:=qbar.2 hc
    exact List.pairwise_cons.2 ⟨fun z hz=>by
     rcases List.mem_cons.1 hz with rfl|hz
     · exact hx
     · exact q11 hx (hp.1 z hz),List.pairwise_cons.2 hp⟩
  · simp only[hc,decide_false,cond_f]
    have hne:¬qec (gS y.cells 0) (gB y.cells 1) (gI y.cells 2) (gI y.cells 3) n v hi lo=0:=fun h=>by rw[q0g.2 h]at ha;cases ha.1
    have hne':¬cmpH (mkH n v hi lo t) y=0:=fun h=>hne ((q3u _ _ _ _ _ _ _ _).2.2 h)
    have hx:ltH y (mkH n v hi lo t):=qb0h.1 (by omega)
    exact List.pairwise_cons.2 ⟨fun z hz=>by
     rcases qqg.1 hz with rfl|hz
     · exact hx
     · exact hp.1 z hz,qbi2 hp.2 ha.2⟩
theorem qb2m {y:AV}(h:qe5 [y]=0):qqt y=0:=by
 unfold qe5 at h
 have e:¬(([y]:List AV).length:Int)>256:=by simp
 simp only[e,decide_false,cond_f]at h
 exact(qbu4.1 h).1 y (by simp)
theorem qb4d {n m:LU}{v:Bool}{hi lo t:Int}(h:qul n v hi lo t=0)(hm:qlj m=false):qul m v hi lo t=0:=by
 unfold qul at*
 rw[hm]
 cases h1:qlj n with
 |true=>rw[h1]at h;cases h
 |false=>rw[h1]at h;exact h
theorem qb2n {l:LA}{b:AV}(h:(addF l b).2=0):l.length<512:=by
 unfold addF at h
 cases hp:qoj b with
 |false=>simp[hp]at h
 |true=>
 cases hm:mayB b with
 |false=>simp[hp,hm]at h
 |true=>
 cases ha:l.any (atP (gB b.cells 0) (gI b.cells 1) (gI b.cells 2) (gI b.cells 3))with
 |true=>simp[hp,hm,ha]at h
 |false=>
 cases hbr:(l.any (qbj b)||occF l (gB b.cells 0) (gI b.cells 1) (gI b.cells 2) (gI b.cells 3))with
 |true=>simp only[hp,hm,ha,hbr,Bool.not_true,cond_f,cond_t]at h;cases h
 |false=>
 rw[hp,hm,ha,hbr]at h
 simp only[Bool.not_true,cond_f]at h
 by_cases h5:(l.length:Int)>=512
 · simp[h5]at h
 · omega
theorem qbxi {s:Sp}(p:Plan s){b:AV}(hb:qkf b)(h:(addF s.b b).2=0):Plan ⟨(addF s.b b).1,s.h,s.z⟩:=by
 obtain⟨h1,h2,_⟩:=qbw4 p.f.b p.tb hb h
 have hlt:=qb2n h
 have hf:qq (insF b s.b):=qbnw p.f.b (by omega) hb
 rw[h1]
 exact⟨⟨hf,p.f.h,p.f.z⟩,by show(insF b s.b).length<=512;rw[qbdb];omega,h2,p.nh,p.fh,p.ph,p.nz,p.cz,fun y hy=>qb4b p.f.b p.tb hf h2 (p.f.h.2 y hy).2.1 (p.f.h.2 y hy).2.2.1 (p.bl y hy),p.zo⟩
theorem qbt1 {l:LA}{p:Pq}{bits po:Int}{nm ow:LU}(hg:qeb l)(h:(qe4 l p bits po nm ow).2.2=0):∃q:Pq,q.good/\(qe4 l p bits po nm ow).2.1=q.av/\(addF l (mkB q.v q.hi q.lo q.bits 2 nm ow 0)).2=0/\(qe4 l p bits po nm ow).1=(addF l (mkB q.v q.hi q.lo q.bits 2 nm ow 0)).1:=by
 unfold qe4 at*
 rcases qyx hg p bits po with⟨e,he,hne⟩|⟨q,hq,hch⟩
 · rw[he]at h
   have:(e != 0)=true:=by simpa using hne
   simp only[this,cond_t]at h
   exact absurd h hne
 · refine⟨q,hch.good,?_⟩
   rw[hq]at h⊢
   obtain⟨w0,w1,w2,w3⟩:=av_w q
   simp only[bne_self_eq_false,cond_f,w0,w1,w2,w3]at h⊢
   cases he:(addF l (mkB q.v q.hi q.lo q.bits 2 nm ow 0)).2 != 0 with
   |true=>
    rw[he]at h;simp only[cond_t]at h
    have:(addF l (mkB q.v q.hi q.lo q.bits 2 nm ow 0)).2≠0:=by simpa using he
    exact absurd h this
   |false=>exact⟨rfl,by simpa using he,rfl⟩
theorem qb4e {b h:LA}(e:lost b h=false):∀y,y∈h->blkd b (gB y.cells 1) (gI y.cells 2) (gI y.cells 3)=true:=fun y hy=>by
 have:=List.any_eq_false.1 e y hy
 simpa using this
theorem qyz {s:Sp}(p:Plan s){c:Chg}(hc:CFit c)(h:(qb2 s c).2=0):Plan (qb2 s c).1:=by
 have w:=p.wk
 have hfits:=qb0n w hc
 unfold qb2 at*
 cases ho:okC c with
 |false=>rw[ho]at h;cases h
 |true=>
 rw[ho]at h hfits
 simp only[cond_t]at*
 unfold qbjn at*
 cases h1:(c.k==1)with
 |true=>
  rw[h1]at h hfits
  simp only[cond_t]at*
  cases he:((addF s.b (blkC c)).2 != 0)with
  |true=>rw[he]at h;exact absurd h (by simpa[qk2]using he)
  |false=>exact qbxi p ⟨rfl,hc.u1,hc.u2,hc.n1,hc.n2⟩ (by simpa using he)
 |false=>
 rw[h1]at h hfits
 simp only[cond_f]at*
 cases h2:(c.k==2)with
 |true=>
  rw[h2]at h hfits
  simp only[cond_t]at*
  cases he:((qb8 s.b c.v c.hi c.lo c.bits).2 != 0)with
  |true=>rw[he]at h;exact absurd h (by simpa[qk2]using he)
  |false=>
   have h0:(qb8 s.b c.v c.hi c.lo c.bits).2=0:=by simpa using he
   rw[he]at h hfits
   simp only[cond_f]at*
   cases hl:lost (qb8 s.b c.v c.hi c.lo c.bits).1 s.h with
   |true=>rw[hl]at h;cases h
   |false=>
    obtain⟨r1,r2,r3⟩:=q0x p.f.b p.tb h0
    exact⟨⟨r1,p.f.h,p.f.z⟩,by have:=p.nb;show(qb8 s.b c.v c.hi c.lo c.bits).1.length<=512;omega,r2,p.nh,p.fh,p.ph,p.nz,p.cz,qb4e hl,p.zo⟩
 |false=>
 rw[h2]at h hfits
 simp only[cond_f]at*
 cases h3:(c.k==3)with
 |true=>
  rw[h3]at h hfits
  simp only[cond_t]at*
  cases he:((qe4 s.b ⟨c.v,c.hi,c.lo,c.bits⟩ c.nb c.po c.nm c.ow).2.2 != 0)with
  |true=>rw[he]at h;exact absurd h (by simpa[qk2]using he)
  |false=>
   obtain⟨q,q1,_,q3,q4⟩:=qbt1 (qni p.f.b p.tb) (show(qe4 s.b ⟨c.v,c.hi,c.lo,c.bits⟩ c.nb c.po c.nm c.ow).2.2=0 by simpa using he)
   simp only[cond_f]
   rw[q4]
   exact qbxi p (qbaq q1 hc.n1 hc.n2) q3
 |false=>
 rw[h3]at h hfits
 simp only[cond_f]at*
 cases h4:(c.k==4)with
 |true=>
  rw[h4]at h hfits
  simp only[cond_t]at*
  unfold qum at*
  cases e1:(qe5 [mkH c.hn c.hv c.hhi c.hlo c.ht] != 0)
  case true=>rw[e1]at h;exact absurd h (by simpa[qk2]using e1)
  rw[e1]at h hfits
  cases e2:s.h.any (atH c.hn c.hv c.hhi c.hlo)
  case true=>rw[e2]at h;cases h
  rw[e2]at h hfits
  cases e3:decide ((s.h.length:Int)>=256)
  case true=>rw[e3]at h;cases h
  rw[e3]at h hfits
  cases e4:blkd s.b c.hv c.hhi c.hlo
  case false=>rw[e4]at h;cases h
  rw[e4]at h hfits
  cases e5:qjx s.z c.hn
  case false=>rw[e5]at h;cases h
  rw[e5]at h hfits
  have hf:=qb2m (show qe5 [mkH c.hn c.hv c.hhi c.hlo c.ht]=0 by simpa using e1)
  have e3':=of_decide_eq_false e3
  refine⟨hfits,p.nb,p.tb,?_,?_,qbi2 p.ph e2,p.nz,p.cz,?_,?_⟩
  · show(insH (mkH c.hn c.hv c.hhi c.hlo c.ht) s.h).length<=256
    rw[qbdk];omega
  · intro y hy
    rcases qqg.1 hy with rfl|hy
    · exact hf
    · exact p.fh y hy
  · intro y hy
    rcases qqg.1 hy with rfl|hy
    · exact e4
    · exact p.bl y hy
  · intro y hy
    rcases qqg.1 hy with rfl|hy
    · exact e5
    · exact p.zo y hy
 |false=>
 rw[h4]at h hfits
 simp only[cond_f]at*
 cases h5:(c.k==5)with
 |true=>
  rw[h5]at h hfits
  simp only[cond_t]at*
  unfold qnk at*
  cases hk:idxO (atH c.hn c.hv c.hhi c.hlo) s.h with
  |none=>rw[hk]at h;cases h
  |some k=>
   rw[hk]at hfits
   exact⟨hfits,p.nb,p.tb,Nat.le_trans (q33 s.h k).length_le p.nh,fun y hy=>p.fh y (q0h hy),p.ph.sublist (q33 s.h k),p.nz,p.cz,fun y hy=>p.bl y (q0h hy),fun y hy=>p.zo y (q0h hy)⟩
 |false=>
  rw[h5]at h hfits
  simp only[cond_f]at*
  unfold qun at*
  cases hk:idxO (atH c.hn c.hv c.hhi c.hlo) s.h with
  |none=>rw[hk]at h;cases h
  |some k=>
   rw[hk]at h hfits
   simp only at*
   obtain⟨y,hy,hfy⟩:=qnh s.h k hk
   have hat:=List.find?_some hfy
   obtain⟨a1,a2,a3,a4⟩:=q0f.1 hat
   have hym:=List.mem_of_getElem? hy
   have hkl:=(List.getElem?_eq_some_iff.1 hy).1
   rw[qbq3 hy]at h hfits⊢
   cases e1:qlj c.tx
   case true=>rw[e1]at h;cases h
   rw[e1]at h hfits
   cases e2:s.h.any (atH c.tx c.hv c.hhi c.hlo)
   case true=>rw[e2]at h;cases h
   rw[e2]at h hfits
   cases e3:qjx s.z c.tx
   case false=>rw[e3]at h;cases h
   rw[e3]at h hfits
   have e2':(outH s.h k).any (atH c.tx c.hv c.hhi c.hlo)=false:=by
    rw[qbze hy]at e2;exact(Bool.or_eq_false_iff.1 e2).1
   have hfo:qul c.hn c.hv c.hhi c.hlo (gI y.cells 4)=0:=by
    have:=p.fh y hym
    unfold qqt at this
    rw[a1,a2,a3,a4]at this;exact this
   have hbo:blkd s.b c.hv c.hhi c.hlo=true:=by
    have:=p.bl y hym
    rw[a2,a3,a4]at this;exact this
   refine⟨hfits,p.nb,p.tb,?_,?_,qbi2 (p.ph.sublist (q33 s.h k)) e2',p.nz,p.cz,?_,?_⟩
   · show(insH (mkH c.tx c.hv c.hhi c.hlo (gI y.cells 4)) (outH s.h k)).length<=256
     rw[qbdk,qb6g hkl];exact p.nh
   · intro z hz
     rcases qqg.1 hz with rfl|hz
     · exact qb4d hfo e1
     · exact p.fh z (q0h hz)
   · intro z hz
     rcases qqg.1 hz with rfl|hz
     · exact hbo
     · exact p.bl z (q0h hz)
   · intro z hz
     rcases qqg.1 hz with rfl|hz
     · exact e3
     · exact p.zo z (q0h hz)
def chgY (y:AV):Chg:=⟨gI y.cells 0,gB y.cells 1,gI y.cells 2,gI y.cells 3,gI y.cells 4,gI y.cells 5,gS y.cells 6,gS y.cells 7,gI y.cells 8,gI y.cells 9,gI y.cells 10,gS y.cells 11,gB y.cells 12,gI y.cells 13,gI y.cells 14,gI y.cells 15,gS y.cells 16⟩
def qb7w (y:AV):Prop:=fitC qbh y.cells=true/\CFit (chgY y)
def qbau (l:LA):Prop:=l.length<=9223372036854775807/\∀y,y∈l->qb7w y
theorem chgsFit_of {l:LA}(h:l.length<=9223372036854775807/\∀y,y∈l->fitC (Ty.st qbq5).lts y.cells=true/\(Ty.st qbq5).good y.cells 0):qbau l:=
 ⟨h.1,fun y hy=>by
  obtain⟨h1,h2⟩:=h.2 y hy
  unfold Ty.good at h2
  exact⟨h1,qb6h h2⟩⟩
def runL (i:Nat)(s:Sp):List AV->Sp×Int×Int
 |[]=>(s,(i:Int),0)
 |y::r=>bif(qb2 s (chgY y)).2 != 0 then(sp0,(i:Int),(qb2 s (chgY y)).2)else runL (i+1) (qb2 s (chgY y)).1 r
def runF (s:Sp)(l:LA):Sp×Int×Int:=bif decide ((l.length:Int)>(64:Int))then(sp0,0,9)else runL 0 s l
def outR (x:Sp×Int×Int):AV×Int×Int:=(x.1.av,x.2.1,x.2.2)
theorem qb6j {α:Type}{l:List α}{i:Nat}{y:α}{r:List α}(h:l.drop i=y::r)(hi:i<l.length):l.length-(y::r).length=i/\l.length-r.length=i+1:=by
 have:=congrArg List.length h
 simp at this
 simp;omega
theorem qb8g {s:Sp}(p:Plan s)(l:LA)(hl:qbau l):qbb9 s.b s.h s.z l=some (outR (runF s l)):=by
 rw[qbum];unfold qyf runF
 by_cases h64:(l.length:Int)>64
 · simp only[h64,decide_true,cond_t];rfl
 · simp only[h64,decide_false,cond_f,qb0i p.wk,oB_s,spf0,spf1,spf2]
   rw[qblc]
   have key:=qch (σ:=List AV×List AV×List AV) l hl.1 (fun k i t=>qlh l l (l.length:Int) (fun b0_0q2 b0_1q3 b0_2q4=>(some ((.agg [(.sl 8 b0_0q2),(.sl 5 b0_1q3),(.sl 1 b0_2q4)]),(l.length:Int),0))) k i t.1 t.2.1 t.2.2)
    (fun i t nx=>qlg l l (l.length:Int) i t.1 t.2.1 t.2.2 (fun i a b c=>nx i (a,b,c)) (fun b0_0q2 b0_1q3 b0_2q4=>(some ((.agg [(.sl 8 b0_0q2),(.sl 5 b0_1q3),(.sl 1 b0_2q4)]),(l.length:Int),0)))) (fun _ _ _=>rfl)
    (fun _ t=>Plan ⟨t.1,t.2.1,t.2.2⟩) (fun r t=>some (outR (runL (l.length-r.length) ⟨t.1,t.2.1,t.2.2⟩ r))) ?_ ?_ (s.b,s.h,s.z) FU p (qcp (by have:=hl.1;omega))
   · simpa using key
   · intro t nx _;simp[qlg,runL,outR];rfl
   · intro i y r t nx h1 h2 h3 h4 hp h5
     obtain⟨g1,g2⟩:=qb6j h1 h3
     have hy:=hl.2 y (List.mem_of_getElem? h2)
     have h6:(i:Int)<(l.length:Int):=by omega
     unfold qlg
     have ha:=qbat hp.wk (chgY y) hy.2
     simp only[h6,decide_true,cond_t,ixB_nat,h2,oB_s,hy.1,h4]
     rw[show qcw t.1 t.2.1 t.2.2 (gI y.cells 0) (gB y.cells 1) (gI y.cells 2) (gI y.cells 3) (gI y.cells 4) (gI y.cells 5) (gS y.cells 6) (gS y.cells 7) (gI y.cells 8) (gI y.cells 9) (gI y.cells 10) (gS y.cells 11) (gB y.cells 12) (gI y.cells 13) (gI y.cells 14) (gI y.cells 15) (gS y.cells 16)=_ from ha]
     simp only[oB_s]
     rw[g1];unfold runL
     cases he:((qb2 ⟨t.1,t.2.1,t.2.2⟩ (chgY y)).2 != 0)with
     |true=>rfl
     |false=>
      simp only[cond_f]
      have:=h5 ((qb2 ⟨t.1,t.2.1,t.2.2⟩ (chgY y)).1.b,(qb2 ⟨t.1,t.2.1,t.2.2⟩ (chgY y)).1.h,(qb2 ⟨t.1,t.2.1,t.2.2⟩ (chgY y)).1.z) (qyz hp hy.2 (by simpa using he))
      rw[g2]at this
      exact this
def chg0:Chg:=⟨0,false,0,0,0,0,[],[],0,0,0,[],false,0,0,0,[]⟩
def newP (s:Sp)(c:Chg):AV:=(qe4 s.b ⟨c.v,c.hi,c.lo,c.bits⟩ c.nb c.po c.nm c.ow).2.1
def effC (s:Sp)(c:Chg):Chg:=bif c.k==3 then⟨1,gB (newP s c).cells 0,gI (newP s c).cells 1,gI (newP s c).cells 2,gI (newP s c).cells 3,2,c.nm,c.ow,0,0,0,[],false,0,0,0,[]⟩else c
theorem qb4f {s:Sp}{c:Chg}(h:(qb2 s c).2=0)(hk:(c.k==3)=true):(qe4 s.b ⟨c.v,c.hi,c.lo,c.bits⟩ c.nb c.po c.nm c.ow).2.2=0:=by
 have e:c.k=3:=by simpa using hk
 unfold qb2 at h
 cases ho:okC c with
 |false=>rw[ho]at h;cases h
 |true=>
  rw[ho]at h
  simp only[cond_t]at h
  unfold qbjn at h
  rw[show(c.k==1)=false by simp[e],show(c.k==2)=false by simp[e],hk]at h
  simp only[cond_f,cond_t]at h
  cases he:((qe4 s.b ⟨c.v,c.hi,c.lo,c.bits⟩ c.nb c.po c.nm c.ow).2.2 != 0)with
  |true=>rw[he]at h;exact absurd h (by simpa[qk2]using he)
  |false=>simpa using he
theorem qbyb {s:Sp}(p:Plan s){c:Chg}(hc:CFit c)(h:(qe4 s.b ⟨c.v,c.hi,c.lo,c.bits⟩ c.nb c.po c.nm c.ow).2.2=0):
 qph s.b s.h s.z c.k c.v c.hi c.lo c.bits c.bk c.nm c.ow c.vl c.nb c.po c.hn c.hv c.hhi c.hlo c.ht c.tx=some (mkB (gB (newP s c).cells 0) (gI (newP s c).cells 1) (gI (newP s c).cells 2) (gI (newP s c).cells 3) 2 c.nm c.ow 0):=by
 rw[qben];unfold qmo newP
 rw[qbqq s.b p.f.b p.tb p.wk.nb ⟨c.v,c.hi,c.lo,c.bits⟩ c.nb c.po c.nm c.ow hc.n1 hc.n2]
 simp only[oB_s]
 obtain⟨q,q1,q2,q3,q4⟩:=qbt1 (qni p.f.b p.tb) h
 have hb:qkf (mkB q.v q.hi q.lo q.bits 2 c.nm c.ow 0):=qbaq q1 hc.n1 hc.n2
 obtain⟨h1,h2,_⟩:=qbw4 p.f.b p.tb hb q3
 have hlt:=qb2n q3
 have hf:qq (insF (mkB q.v q.hi q.lo q.bits 2 c.nm c.ow 0) s.b):=qbnw p.f.b (by omega) hb
 obtain⟨w0,w1,w2,w3⟩:=av_w q
 rw[q2,q4,h1,w0,w1,w2,w3]
 have hm:mkB q.v q.hi q.lo q.bits 2 c.nm c.ow 0∈insF (mkB q.v q.hi q.lo q.bits 2 c.nm c.ow 0) s.b:=qqd.2 (.inl rfl)
 have hfind:(insF (mkB q.v q.hi q.lo q.bits 2 c.nm c.ow 0) s.b).find? (atP q.v q.hi q.lo q.bits)=some (mkB q.v q.hi q.lo q.bits 2 c.nm c.ow 0):=
  qb14 hm (qmb.2 ⟨rfl,rfl,rfl,rfl⟩) fun z hz hq=>qbqo h2 hm hz (qbjh (b:=mkB q.v q.hi q.lo q.bits 2 c.nm c.ow 0).1 hq)
 rw[qbr2 _ hf,oB_s,qbde hf hfind]
 rfl
theorem qbxj {s:Sp}(p:Plan s){c:Chg}(hc:CFit c)(h:(qb2 s c).2=0):ql9 s.b s.h s.z c.k c.v c.hi c.lo c.bits c.bk c.nm c.ow c.vl c.nb c.po c.hn c.hv c.hhi c.hlo c.ht c.tx=some (effC s c).av:=by
 rw[qbnd];unfold qsh effC
 cases hk:(c.k==3)with
 |false=>rfl
 |true=>
  simp only[cond_t]
  rw[qbyb p hc (qb4f h hk)];rfl
theorem qbxk {s:Sp}(p:Plan s){c:Chg}(hc:CFit c):qju s.b s.h s.z c.k c.v c.hi c.lo c.bits c.bk c.nm c.ow c.vl c.nb c.po c.hn c.hv c.hhi c.hlo c.ht c.tx=some (bif(qb2 s c).2 != 0 then(chg0.av,(qb2 s c).2)else((effC s c).av,0)):=by
 rw[qbhn];unfold qof
 rw[qbdm p.wk c hc]
 simp only[oB_s]
 cases he:((qb2 s c).2 != 0)with
 |true=>rfl
 |false=>
  simp only[cond_f]
  unfold effC
  cases hk:(c.k==3)with
  |false=>
   have:(c.k != 3)=true:=by simpa using hk
   rw[this];rfl
  |true=>
   have:(c.k != 3)=false:=by simpa using hk
   simp only[this,cond_f,cond_t]
   rw[qblz s.b p.f.b p.tb p.wk.nb ⟨c.v,c.hi,c.lo,c.bits⟩ c.nb c.po c.nm c.ow hc.n1 hc.n2];rfl
theorem qb4g (c:Chg):eqC c c=true:=by simp[eqC]
def rebL (s t:Sp):List AV->Bool
 |[]=>true
 |y::r=>bif((qb2 s (chgY y)).2 != 0||(qb2 t (chgY y)).2 != 0)|| !eqC (effC s (chgY y)) (effC t (chgY y))then false else rebL (qb2 s (chgY y)).1 (qb2 t (chgY y)).1 r
def rebF (s t:Sp)(l:LA):Bool:=bif decide ((l.length:Int)>64)then false else rebL s t l
theorem qbxl {s t:Sp}(p:Plan s)(q:Plan t)(l:LA)(hl:qbau l):qv4 s.b s.h s.z t.b t.h t.z l=some (rebF s t l):=by
 rw[qbne];unfold qsi rebF
 by_cases h64:(l.length:Int)>64
 · simp only[h64,decide_true,cond_t]
 · simp only[h64,decide_false,cond_f]
   rw[qbcc]
   have key:=qch (σ:=List AV×List AV×List AV×List AV×List AV×List AV) l hl.1 (fun k i u=>qia l (l.length:Int) (fun(_:Unit)=>(some true)) k i u.1 u.2.1 u.2.2.1 u.2.2.2.1 u.2.2.2.2.1 u.2.2.2.2.2)
    (fun i u nx=>qh9 l (l.length:Int) i u.1 u.2.1 u.2.2.1 u.2.2.2.1 u.2.2.2.2.1 u.2.2.2.2.2 (fun i a b c d e f=>nx i (a,b,c,d,e,f)) (fun(_:Unit)=>(some true))) (fun _ _ _=>rfl)
    (fun _ u=>Plan ⟨u.1,u.2.1,u.2.2.1⟩/\Plan ⟨u.2.2.2.1,u.2.2.2.2.1,u.2.2.2.2.2⟩) (fun r u=>some (rebL ⟨u.1,u.2.1,u.2.2.1⟩ ⟨u.2.2.2.1,u.2.2.2.2.1,u.2.2.2.2.2⟩ r)) ?_ ?_ (s.b,s.h,s.z,t.b,t.h,t.z) FU ⟨p,q⟩ (qcp (by have:=hl.1;omega))
   · exact key
   · intro u nx _;simp[qh9,rebL]
   · rintro i y r u nx h1 h2 h3 h4 ⟨hp,hq⟩ h5
     have hy:=hl.2 y (List.mem_of_getElem? h2)
     have h6:(i:Int)<(l.length:Int):=by omega
     unfold qh9
     have ha:=qbat hp.wk (chgY y) hy.2
     have hb:=qbat hq.wk (chgY y) hy.2
     simp only[h6,decide_true,cond_t,ixB_nat,h2,oB_s,hy.1,h4]
     rw[show qcw u.1 u.2.1 u.2.2.1 (gI y.cells 0) (gB y.cells 1) (gI y.cells 2) (gI y.cells 3) (gI y.cells 4) (gI y.cells 5) (gS y.cells 6) (gS y.cells 7) (gI y.cells 8) (gI y.cells 9) (gI y.cells 10) (gS y.cells 11) (gB y.cells 12) (gI y.cells 13) (gI y.cells 14) (gI y.cells 15) (gS y.cells 16)=_ from ha]
     rw[show qcw u.2.2.2.1 u.2.2.2.2.1 u.2.2.2.2.2 (gI y.cells 0) (gB y.cells 1) (gI y.cells 2) (gI y.cells 3) (gI y.cells 4) (gI y.cells 5) (gS y.cells 6) (gS y.cells 7) (gI y.cells 8) (gI y.cells 9) (gI y.cells 10) (gS y.cells 11) (gB y.cells 12) (gI y.cells 13) (gI y.cells 14) (gI y.cells 15) (gS y.cells 16)=_ from hb]
     simp only[oB_s]
     rw[qbcb];unfold ql1 rebL
     cases e1:((qb2 ⟨u.1,u.2.1,u.2.2.1⟩ (chgY y)).2 != 0)with
     |true=>rfl
     |false=>
      cases e2:((qb2 ⟨u.2.2.2.1,u.2.2.2.2.1,u.2.2.2.2.2⟩ (chgY y)).2 != 0)with
      |true=>rfl
      |false=>
       have z1:(qb2 ⟨u.1,u.2.1,u.2.2.1⟩ (chgY y)).2=0:=by simpa using e1
       have z2:(qb2 ⟨u.2.2.2.1,u.2.2.2.2.1,u.2.2.2.2.2⟩ (chgY y)).2=0:=by simpa using e2
       simp only[cond_f,Bool.or_self,Bool.false_or]
       rw[show ql9 u.1 u.2.1 u.2.2.1 (gI y.cells 0) (gB y.cells 1) (gI y.cells 2) (gI y.cells 3) (gI y.cells 4) (gI y.cells 5) (gS y.cells 6) (gS y.cells 7) (gI y.cells 8) (gI y.cells 9) (gI y.cells 10) (gS y.cells 11) (gB y.cells 12) (gI y.cells 13) (gI y.cells 14) (gI y.cells 15) (gS y.cells 16)=_ from qbxj hp hy.2 z1]
       rw[show ql9 u.2.2.2.1 u.2.2.2.2.1 u.2.2.2.2.2 (gI y.cells 0) (gB y.cells 1) (gI y.cells 2) (gI y.cells 3) (gI y.cells 4) (gI y.cells 5) (gS y.cells 6) (gS y.cells 7) (gI y.cells 8) (gI y.cells 9) (gI y.cells 10) (gS y.cells 11) (gB y.cells 12) (gI y.cells 13) (gI y.cells 14) (gI y.cells 15) (gS y.cells 16)=_ from qbxj hq hy.2 z2]
       simp only[oB_s]
       change (bif !eqC (effC ⟨u.1,u.2.1,u.2.2.1⟩ (chgY y)) (effC ⟨u.2.2.2.1,u.2.2.2.2.1,u.2.2.2.2.2⟩ (chgY y))then _ else _)=_
       cases eqC (effC ⟨u.1,u.2.1,u.2.2.1⟩ (chgY y)) (effC ⟨u.2.2.2.1,u.2.2.2.2.1,u.2.2.2.2.2⟩ (chgY y))with
       |false=>rfl
       |true=>exact h5 (_,_,_,_,_,_) ⟨qyz hp hy.2 z1,qyz hq hy.2 z2⟩
theorem qbyc {s t:Sp}(p:Plan s)(q:Plan t)(l:LA)(hl:qbau l):qyg s.b s.h s.z t.b t.h t.z l=some (rebF s t l):=by
 rw[qbho];unfold qog rebF
 by_cases h64:(l.length:Int)>64
 · simp only[h64,decide_true,cond_t]
 · simp only[h64,decide_false,cond_f]
   rw[q74]
   have key:=qch (σ:=List AV×List AV×List AV×List AV×List AV×List AV) l hl.1 (fun k i u=>qf7 l (fun(_:Unit)=>(some true)) k i u.1 u.2.1 u.2.2.1 u.2.2.2.1 u.2.2.2.2.1 u.2.2.2.2.2)
    (fun i u nx=>qf6 l i u.1 u.2.1 u.2.2.1 u.2.2.2.1 u.2.2.2.2.1 u.2.2.2.2.2 (fun i a b c d e f=>nx i (a,b,c,d,e,f)) (fun(_:Unit)=>(some true))) (fun _ _ _=>rfl)
    (fun _ u=>Plan ⟨u.1,u.2.1,u.2.2.1⟩/\Plan ⟨u.2.2.2.1,u.2.2.2.2.1,u.2.2.2.2.2⟩) (fun r u=>some (rebL ⟨u.1,u.2.1,u.2.2.1⟩ ⟨u.2.2.2.1,u.2.2.2.2.1,u.2.2.2.2.2⟩ r)) ?_ ?_ (s.b,s.h,s.z,t.b,t.h,t.z) FU ⟨p,q⟩ (qcp (by have:=hl.1;omega))
   · exact key
   · intro u nx _;simp[qf6,rebL]
   · rintro i y r u nx h1 h2 h3 h4 ⟨hp,hq⟩ h5
     have hy:=hl.2 y (List.mem_of_getElem? h2)
     have h6:(i:Int)<(l.length:Int):=by omega
     unfold qf6
     simp only[h6,decide_true,cond_t,ixB_nat,h2,oB_s,hy.1,h4]
     rw[show qju u.1 u.2.1 u.2.2.1 (gI y.cells 0) (gB y.cells 1) (gI y.cells 2) (gI y.cells 3) (gI y.cells 4) (gI y.cells 5) (gS y.cells 6) (gS y.cells 7) (gI y.cells 8) (gI y.cells 9) (gI y.cells 10) (gS y.cells 11) (gB y.cells 12) (gI y.cells 13) (gI y.cells 14) (gI y.cells 15) (gS y.cells 16)=_ from qbxk hp hy.2]
     rw[show qju u.2.2.2.1 u.2.2.2.2.1 u.2.2.2.2.2 (gI y.cells 0) (gB y.cells 1) (gI y.cells 2) (gI y.cells 3) (gI y.cells 4) (gI y.cells 5) (gS y.cells 6) (gS y.cells 7) (gI y.cells 8) (gI y.cells 9) (gI y.cells 10) (gS y.cells 11) (gB y.cells 12) (gI y.cells 13) (gI y.cells 14) (gI y.cells 15) (gS y.cells 16)=_ from qbxk hq hy.2]
     rw[show qil u.1 u.2.1 u.2.2.1 (gI y.cells 0) (gB y.cells 1) (gI y.cells 2) (gI y.cells 3) (gI y.cells 4) (gI y.cells 5) (gS y.cells 6) (gS y.cells 7) (gI y.cells 8) (gI y.cells 9) (gI y.cells 10) (gS y.cells 11) (gB y.cells 12) (gI y.cells 13) (gI y.cells 14) (gI y.cells 15) (gS y.cells 16)=_ from qbdm hp.wk (chgY y) hy.2]
     rw[show qil u.2.2.2.1 u.2.2.2.2.1 u.2.2.2.2.2 (gI y.cells 0) (gB y.cells 1) (gI y.cells 2) (gI y.cells 3) (gI y.cells 4) (gI y.cells 5) (gS y.cells 6) (gS y.cells 7) (gI y.cells 8) (gI y.cells 9) (gI y.cells 10) (gS y.cells 11) (gB y.cells 12) (gI y.cells 13) (gI y.cells 14) (gI y.cells 15) (gS y.cells 16)=_ from qbdm hq.wk (chgY y) hy.2]
     simp only[oB_s]
     unfold rebL
     cases e1:((qb2 ⟨u.1,u.2.1,u.2.2.1⟩ (chgY y)).2 != 0)with
     |true=>simp only[cond_t,e1,Bool.true_or]
     |false=>
      cases e2:((qb2 ⟨u.2.2.2.1,u.2.2.2.2.1,u.2.2.2.2.2⟩ (chgY y)).2 != 0)with
      |true=>simp only[cond_t,e2,Bool.true_or,Bool.or_true]
      |false=>
       have z1:(qb2 ⟨u.1,u.2.1,u.2.2.1⟩ (chgY y)).2=0:=by simpa using e1
       have z2:(qb2 ⟨u.2.2.2.1,u.2.2.2.2.1,u.2.2.2.2.2⟩ (chgY y)).2=0:=by simpa using e2
       simp only[cond_f,Bool.or_self,Bool.false_or,bne_self_eq_false]
       change (bif !eqC (effC ⟨u.1,u.2.1,u.2.2.1⟩ (chgY y)) (effC ⟨u.2.2.2.1,u.2.2.2.2.1,u.2.2.2.2.2⟩ (chgY y))then _ else _)=_
       cases eqC (effC ⟨u.1,u.2.1,u.2.2.1⟩ (chgY y)) (effC ⟨u.2.2.2.1,u.2.2.2.2.1,u.2.2.2.2.2⟩ (chgY y))with
       |false=>rfl
       |true=>exact h5 (_,_,_,_,_,_) ⟨qyz hp hy.2 z1,qyz hq hy.2 z2⟩
theorem qb2o {l:LA}:∀{i:Nat} {s:Sp},rebL s s l=((runL i s l).2.2==0):=by
 induction l with
 |nil=>intro i s;rfl
 |cons y r ih=>
  intro i s
  unfold rebL runL
  cases he:((qb2 s (chgY y)).2 != 0)with
  |true=>
   have:((qb2 s (chgY y)).2==0)=false:=by simpa using he
   simp only[Bool.true_or,cond_t,this]
  |false=>
   simp only[Bool.or_self,Bool.false_or,qb4g,Bool.not_true,cond_f]
   exact ih
theorem qb4h {s:Sp}{l:LA}:rebF s s l=((runF s l).2.2==0):=by
 unfold rebF runF
 cases decide ((l.length:Int)>64)with
 |true=>rfl
 |false=>exact qb2o
theorem law_ChangeRebases {s t:Sp}(f:Fits s)(g:Fits t)(l:LA)(hl:qbau l):qiu s.b s.h s.z t.b t.h t.z l=some true:=by
 rw[q3f];unfold qg8
 rw[qzx];unfold qe6
 simp only[qb6i,oB_s,qb2l,qbt0 s.b s.h s.z f.b f.h f.z,qbt0 t.b t.h t.z g.b g.h g.z]
 cases qb0m s.b s.h s.z l
 case true=>rfl
 cases qb0m t.b t.h t.z l
 case true=>rfl
 simp only[cond_f]
 by_cases h0:q12 s.b s.h s.z=0
 · by_cases h1:q12 t.b t.h t.z=0
   · have hp:=(qbxg f).1 h0
     have hq:=(qbxg g).1 h1
     rw[qb8g hp l hl,qbxl hp hq l hl,qbyc hp hq l hl,qbxl hp hp l hl,qb4h]
     simp only[h0,h1,bne_self_eq_false,cond_f,oB_s,beq_self_eq_true,cond_t,Bool.and_self]
     rw[show(outR (runF s l)).2.2=(runF s l).2.2 from rfl]
     simp only[beq_self_eq_true,cond_t,Bool.and_self]
   · have:(q12 t.b t.h t.z != 0)=true:=by simpa using h1
     simp only[h0,bne_self_eq_false,cond_f,this,cond_t]
 · have:(q12 s.b s.h s.z != 0)=true:=by simpa using h0
   simp only[this,cond_t]
end Go.Proofs.YtoaaphlopbabeaaGreatDoor.Dn
