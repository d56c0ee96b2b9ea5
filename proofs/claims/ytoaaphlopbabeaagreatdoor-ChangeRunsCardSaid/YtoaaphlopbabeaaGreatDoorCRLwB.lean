import Derived.Test.YtoaaphlopbabeaaGreatDoorCRLwA
set_option linter.all false
namespace Go.Proofs.YtoaaphlopbabeaaGreatDoor.Dn
open Go Go.Pev
set_option maxRecDepth 4000
structure Chg where
 k:Int
 v:Bool
 hi:Int
 lo:Int
 bits:Int
 bk:Int
 nm:List UInt8
 ow:List UInt8
 vl:Int
 nb:Int
 po:Int
 hn:List UInt8
 hv:Bool
 hhi:Int
 hlo:Int
 ht:Int
 tx:List UInt8
def Chg.av (c:Chg):AV:=.agg [(.int .i64 c.k),(.bool c.v),(.int .u64 c.hi),(.int .u64 c.lo),(.int .i64 c.bits),(.int .i64 c.bk),(.str c.nm),(.str c.ow),(.int .i64 c.vl),(.int .i64 c.nb),(.int .i64 c.po),(.str c.hn),(.bool c.hv),(.int .u64 c.hhi),(.int .u64 c.hlo),(.int .i64 c.ht),(.str c.tx)]
structure CFit (c:Chg):Prop where
 u1:uok c.hi
 u2:uok c.lo
 u3:uok c.hhi
 u4:uok c.hlo
 n1:c.nm.length<=9223372036854775807
 n2:c.ow.length<=9223372036854775807
 n3:c.hn.length<=9223372036854775807
 n4:c.tx.length<=9223372036854775807
def qov (k:Int):Bool:=k==1||k==2||k==3||k==4||k==5||k==6
def qbc9 (c:Chg):Chg:=
 bif c.k==1 then⟨c.k,c.v,c.hi,c.lo,c.bits,c.bk,c.nm,c.ow,c.vl,0,0,[],false,0,0,0,[]⟩else
 bif c.k==2 then⟨c.k,c.v,c.hi,c.lo,c.bits,0,[],[],0,0,0,[],false,0,0,0,[]⟩else
 bif c.k==3 then⟨c.k,c.v,c.hi,c.lo,c.bits,0,c.nm,c.ow,0,c.nb,c.po,[],false,0,0,0,[]⟩else
 bif c.k==4 then⟨c.k,false,0,0,0,0,[],[],0,0,0,c.hn,c.hv,c.hhi,c.hlo,c.ht,[]⟩else
 bif c.k==5 then⟨c.k,false,0,0,0,0,[],[],0,0,0,c.hn,c.hv,c.hhi,c.hlo,0,[]⟩else
 bif c.k==6 then⟨c.k,false,0,0,0,0,[],[],0,0,0,c.hn,c.hv,c.hhi,c.hlo,0,c.tx⟩else
 ⟨c.k,false,0,0,0,0,[],[],0,0,0,[],false,0,0,0,[]⟩
def eqC (a b:Chg):Bool:=(a.k==b.k)&&((a.v==b.v)&&((a.hi==b.hi)&&((a.lo==b.lo)&&((a.bits==b.bits)&&((a.bk==b.bk)&&((a.nm==b.nm)&&((a.ow==b.ow)&&((a.vl==b.vl)&&((a.nb==b.nb)&&((a.po==b.po)&&((a.hn==b.hn)&&((a.hv==b.hv)&&((a.hhi==b.hhi)&&((a.hlo==b.hlo)&&((a.ht==b.ht)&&((a.tx==b.tx)&&true))))))))))))))))
theorem qb7i (c:Chg):q65 c.k c.v c.hi c.lo c.bits c.bk c.nm c.ow c.vl c.nb c.po c.hn c.hv c.hhi c.hlo c.ht c.tx=some ((qbc9 c).av,qov c.k):=by
 rw[qbqs];unfold qvl
 rw[qbjc];unfold qox qbc9 qov
 cases h1:(c.k==1)
 case true=>rfl
 cases h2:(c.k==2)
 case true=>rfl
 cases h3:(c.k==3)
 case true=>rfl
 cases h4:(c.k==4)
 case true=>rfl
 cases h5:(c.k==5)
 case true=>rfl
 cases h6:(c.k==6)
 case true=>rfl
 rfl
theorem qb7j (c:Chg):q2a c.k c.v c.hi c.lo c.bits c.bk c.nm c.ow c.vl c.nb c.po c.hn c.hv c.hhi c.hlo c.ht c.tx=some (qbc9 c).av:=by
 rw[qbmq];unfold qr1
 rw[qbeo];unfold qmz qbc9
 cases h1:(c.k==1)
 case true=>rfl
 cases h2:(c.k==2)
 case true=>rfl
 cases h3:(c.k==3)
 case true=>rfl
 cases h4:(c.k==4)
 case true=>rfl
 cases h5:(c.k==5)
 case true=>rfl
 cases h6:(c.k==6)
 case true=>rfl
 rfl
def okC (c:Chg):Bool:=qov c.k&&eqC (qbc9 c) c
def blkC (c:Chg):AV:=mkB c.v c.hi c.lo c.bits c.bk c.nm c.ow c.vl
def ql2 (e:Int):Sp×Int:=(sp0,e)
def quf (s:Sp)(n:LU)(v:Bool)(hi lo t:Int):Sp×Int:=
 bif qe5 [mkH n v hi lo t] != 0 then ql2 (qe5 [mkH n v hi lo t])else bif s.h.any (atH n v hi lo)then ql2 12 else
 bif decide ((s.h.length:Int)>=256)then ql2 9 else bif !blkd s.b v hi lo then ql2 25 else bif !qjy s.z n then ql2 13 else
 (⟨s.b,insH (mkH n v hi lo t) s.h,s.z⟩,0)
def hst0:AV:=mkH [] false 0 0 0
def outH (h:LA)(k:Nat):List AV:=h.take k++h.drop (k+1)
def hAt (h:LA)(k:Nat):AV:=h[k]?.getD hst0
def qnh (s:Sp)(n:LU)(v:Bool)(hi lo:Int):Sp×AV×Int:=match idxO (atH n v hi lo) s.h with
 |none=>(sp0,hst0,11)
 |some k=>(⟨s.b,outH s.h k,s.z⟩,hAt s.h k,0)
def qug (s:Sp)(n:LU)(v:Bool)(hi lo:Int)(x:LU):Sp×Int:=match idxO (atH n v hi lo) s.h with
 |none=>ql2 11
 |some k=>bif qli x then ql2 2 else bif s.h.any (atH x v hi lo)then ql2 12 else bif !qjy s.z x then ql2 13 else
  (⟨s.b,insH (mkH x v hi lo (gI (hAt s.h k).cells 4)) (outH s.h k),s.z⟩,0)
def lost (b h:LA):Bool:=h.any fun y=> !blkd b (gB y.cells 1) (gI y.cells 2) (gI y.cells 3)
def qbqo (s:Sp)(c:Chg):Sp×Int:=
 bif c.k==1 then bif(addF s.b (blkC c)).2 != 0 then ql2 (addF s.b (blkC c)).2 else(⟨(addF s.b (blkC c)).1,s.h,s.z⟩,0)else
 bif c.k==2 then bif(qb6 s.b c.v c.hi c.lo c.bits).2 != 0 then ql2 (qb6 s.b c.v c.hi c.lo c.bits).2 else bif lost (qb6 s.b c.v c.hi c.lo c.bits).1 s.h then ql2 25 else(⟨(qb6 s.b c.v c.hi c.lo c.bits).1,s.h,s.z⟩,0)else
 bif c.k==3 then bif(qic s.b ⟨c.v,c.hi,c.lo,c.bits⟩ c.nb c.po c.nm c.ow).2.2 != 0 then ql2 (qic s.b ⟨c.v,c.hi,c.lo,c.bits⟩ c.nb c.po c.nm c.ow).2.2 else(⟨(qic s.b ⟨c.v,c.hi,c.lo,c.bits⟩ c.nb c.po c.nm c.ow).1,s.h,s.z⟩,0)else
 bif c.k==4 then quf s c.hn c.hv c.hhi c.hlo c.ht else
 bif c.k==5 then((qnh s c.hn c.hv c.hhi c.hlo).1,(qnh s c.hn c.hv c.hhi c.hlo).2.2)else
 qug s c.hn c.hv c.hhi c.hlo c.tx
def qd8 (s:Sp)(c:Chg):Sp×Int:=bif okC c then qbqo s c else ql2 1
structure Wk (s:Sp):Prop where
 f:Fits s
 nb:s.b.length<=1000
 tb:qcz s.b
 nh:s.h.length<=1000
 ph:s.h.Pairwise ltH
 nz:s.z.length<=1000
theorem Plan.wk {s:Sp}(h:Plan s):Wk s:=⟨h.f,by have:=h.nb;omega,h.tb,by have:=h.nh;omega,h.ph,by have:=h.nz;omega⟩
theorem qb7k {l:LA}(hp:l.Pairwise ltH){n:LU}{v:Bool}{hi lo:Int}{r k:Nat}(hr:Cutt l n v hi lo r)(hk:idxO (atH n v hi lo) l=some k):r=k:=by
 obtain⟨y,hy,hf⟩:=qnf l k hk
 have hat:=List.find?_some hf
 have h0:=q0b.1 hat
 have h1:¬k<r:=fun h=>by have:=(hr.2 k y hy).2 h;omega
 have hkl:=(List.getElem?_eq_some_iff.1 hy).1
 rcases Nat.lt_or_ge r k with h|h
 · exfalso
   have hrl:r<l.length:=by omega
   have hlt:=List.pairwise_iff_getElem.1 hp r k hrl hkl h
   have hnl:¬qeb (gS (l[r]).cells 0) (gB (l[r]).cells 1) (gI (l[r]).cells 2) (gI (l[r]).cells 3) n v hi lo<0:=fun h=>by have:=(hr.2 r l[r] (by simp[hrl])).1 h;omega
   apply hnl
   have ey:l[k]=y:=by have:=List.getElem?_eq_some_iff.1 hy;exact this.2
   rw[ey]at hlt
   obtain⟨e1,e2,e3,e4⟩:=q0a.1 hat
   have:=qbah.1 hlt
   unfold cmpH at this
   rw[e1,e2,e3,e4]at this
   exact this
 · omega
theorem qbz6 {s:Sp}(w:Wk s):qte s.b s.h s.z=some s.fr:=by
 rw[qbtt];unfold qxg qt qlb qog q1i
 have h1:s.b.length*80<=140737488355328:=by have:=w.nb;omega
 have h2:s.h.length*48<=140737488355328:=by have:=w.nh;omega
 have h3:s.z.length*16<=140737488355328:=by have:=w.nz;omega
 simp[h1,h2,h3,Sp.fr]
theorem qqn:hd ([]:List AV) ([]:List AV).length=true:=rfl
theorem qbi9 {n:LU}{v:Bool}{hi lo t:Int}(u1:uok hi)(u2:uok lo)(h:n.length<=9223372036854775807):qbqj (mkH n v hi lo t):=⟨rfl,u1,u2,h⟩
theorem qbyy {y:AV}(h:qbqj y):qim [y]:=⟨by simp,fun z hz=>by simp at hz;subst hz;exact h⟩
theorem qb12 {s:Sp}(w:Wk s)(n:LU)(v:Bool)(hi lo t:Int)(u1:uok hi)(u2:uok lo)(hn:n.length<=9223372036854775807):qzm n v hi lo t s.b s.h s.z=some ((quf s n v hi lo t).1.fr,(quf s n v hi lo t).2):=by
 obtain⟨r,hr⟩:=qbqn n v hi lo w.ph
 rw[qbj7];unfold qpa quf
 rw[show(AV.agg [(.str n),(.bool v),(.int .u64 hi),(.int .u64 lo),(.int .i64 t)])=mkH n v hi lo t from rfl]
 simp only[hd_self,qqn,cond_t,qb30 _ (qbyy (qbi9 u1 u2 hn)),oB_s,qbw3 s.h w.f.h (by have:=w.nh;omega) w.ph n v hi lo t hn hr,qbqm s.b w.f.b,qbtq s.z w.f.z n hn,qb11 s.h (by have:=w.nh;omega) hr.1]
 cases(qe5 [mkH n v hi lo t] != 0)
 case true=>rfl
 simp only[cond_f]
 cases ha:s.h.any (atH n v hi lo)
 case true=>rfl
 simp only[cond_f]
 cases decide ((s.h.length:Int)>=256)
 case true=>rfl
 simp only[cond_f]
 cases blkd s.b v hi lo
 case false=>rfl
 cases qjy s.z n
 case false=>rfl
 simp only[Bool.not_true,cond_f]
 rw[qbr0 n v hi lo t hr ha];rfl
theorem qb13 {y:AV}(h:fitC qj y.cells=true):∃n v hi lo t,y=mkH n v hi lo t:=⟨_,_,_,_,_,(qbc7 h).symm⟩
theorem qb56 {y:AV}(h:fitC qj y.cells=true):rdE y 0 true 5=some y:=by obtain⟨n,v,hi,lo,t,rfl⟩:=qb13 h;rfl
theorem qb14 {y:AV}(h:fitC qj y.cells=true):fitV (.st qj) y=true:=by obtain⟨n,v,hi,lo,t,rfl⟩:=qb13 h;rfl
theorem qbqp {h:LA}{k:Nat}{y:AV}(e:h[k]?=some y):hAt h k=y:=by unfold hAt;rw[e];rfl
theorem qbio {s:Sp}(w:Wk s)(n:LU)(v:Bool)(hi lo t:Int)(hn:n.length<=9223372036854775807):qke n v hi lo t s.b s.h s.z=some ((qnh s n v hi lo).1.fr,(qnh s n v hi lo).2.1,(qnh s n v hi lo).2.2):=by
 obtain⟨r,hr⟩:=qbqn n v hi lo w.ph
 rw[qbay];unfold qlq qnh
 have hany:s.h.any (atH n v hi lo)=(idxO (atH n v hi lo) s.h).isSome:=by
  rw[<-qta];unfold idxI
  cases idxO (atH n v hi lo) s.h with
  |none=>rfl
  |some k=>simp
 simp only[hd_self,qqn,cond_t,qbw3 s.h w.f.h (by have:=w.nh;omega) w.ph n v hi lo t hn hr,oB_s,hany]
 cases hk:idxO (atH n v hi lo) s.h with
 |none=>rfl
 |some k=>
  have:=qb7k w.ph hr hk
  subst this
  obtain⟨y,hy,_⟩:=qnf s.h r hk
  have hrl:=(List.getElem?_eq_some_iff.1 hy).1
  have hyf:=w.f.h.2 y (List.mem_of_getElem? hy)
  have h1:decide (0<=(r:Int)/\(r:Int)<(s.h.length:Int))=true:=decide_eq_true ⟨by omega,by omega⟩
  have hw:IntKind.i64.wrap ((r:Int)+1)=((r+1:Nat):Int):=by rw[w64 (by omega) (by have:=w.nh;omega)];omega
  simp only[Option.isSome_some,Bool.not_true,cond_f,h1,cond_t,Int.toNat_natCast,hy,oB_s,hw,qb7h s.h (by have:=w.nh;omega) hrl,hd_self]
  rw[qbqp hy]
  have hz:rdE y 0 true 5=some y:=qb56 hyf.1
  have hv:fitV (.st qj) y=true:=qb14 hyf.1
  rw[hz]
  simp only[oB_s,hv,cond_t]
  rw[show(AV.agg [(.str (gS y.cells 0)),(.bool (gB y.cells 1)),(.int .u64 (gI y.cells 2)),(.int .u64 (gI y.cells 3)),(.int .i64 (gI y.cells 4))])=y from qbc7 hyf.1]
  rfl
theorem spf0 (s:Sp):gL s.fr.cells 0=s.b:=rfl
theorem spf1 (s:Sp):gL s.fr.cells 1=s.h:=rfl
theorem spf2 (s:Sp):gL s.fr.cells 2=s.z:=rfl
theorem qb57 {h:LA}{k:Nat}(hk:k<h.length):(outH h k).length+1=h.length:=by simp[outH];omega
theorem q0c {h:LA}{k:Nat}{y:AV}(hy:y∈outH h k):y∈h:=by
 rcases List.mem_append.1 hy with h1|h1
 · exact List.mem_of_mem_take h1
 · exact List.mem_of_mem_drop h1
theorem q3u (h:LA)(k:Nat):(outH h k).Sublist h:=by
 have:h=h.take k++h.drop k:=(List.take_append_drop k h).symm
 unfold outH
 conv=>rhs;rw[this]
 exact(List.Sublist.refl _).append (by rw[show h.drop (k+1)=(h.drop k).drop 1 by simp];exact List.drop_sublist 1 _)
theorem Wk.out {s:Sp}(w:Wk s)(k:Nat):Wk ⟨s.b,outH s.h k,s.z⟩:=⟨⟨w.f.b,⟨Nat.le_trans (q3u s.h k).length_le w.f.h.1,fun y hy=>w.f.h.2 y (q0c hy)⟩,w.f.z⟩,w.nb,w.tb,Nat.le_trans (q3u s.h k).length_le w.nh,w.ph.sublist (q3u s.h k),w.nz⟩
theorem qbyz {h:LA}{k:Nat}{y:AV}(e:h[k]?=some y)(q:AV->Bool):h.any q=((outH h k).any q||q y):=by
 have hk:=(List.getElem?_eq_some_iff.1 e).1
 have hd:h.drop k=y::h.drop (k+1):=by
  rw[List.drop_eq_getElem_cons hk];congr 1;exact(List.getElem?_eq_some_iff.1 e).2
 have:h=h.take k++(y::h.drop (k+1)):=by rw[<-hd,List.take_append_drop]
 conv=>lhs;rw[this]
 unfold outH
 simp only[List.any_append,List.any_cons]
 cases(h.take k).any q<;>cases q y<;>simp
theorem qb33 {s:Sp}(w:Wk s)(n:LU)(v:Bool)(hi lo t:Int)(x:LU)(hn:n.length<=9223372036854775807)(hx:x.length<=9223372036854775807):q19 s.b s.h s.z n v hi lo t x=some ((qug s n v hi lo x).1.fr,(qug s n v hi lo x).2):=by
 rw[qbme];unfold qru qug
 simp only[qbz6 w,oB_s,spf0,spf1,spf2,hd_self,qqn,cond_t,Bool.and_self,qbio w n v hi lo t hn]
 unfold qnh
 cases hk:idxO (atH n v hi lo) s.h with
 |none=>rfl
 |some k=>
  obtain⟨y,hy,hf⟩:=qnf s.h k hk
  have hat:=List.find?_some hf
  obtain⟨e1,e2,e3,e4⟩:=q0a.1 hat
  have hkl:=(List.getElem?_eq_some_iff.1 hy).1
  have hyf:=w.f.h.2 y (List.mem_of_getElem? hy)
  have wo:=w.out k
  obtain⟨r,hr⟩:=qbqn x v hi lo wo.ph
  simp only[bne_self_eq_false,cond_f,qbqp hy,e1,e2,e3,e4,hd_self,cond_t,Bool.and_self,qqn,spf0,spf1,spf2]
  rw[qba0];unfold qlr
  rw[qtd x hx,oB_s]
  unfold qli
  cases ho:qbd x with
  |false=>rfl
  |true=>
   simp only[Bool.not_true,cond_f,qb3z x hx ho,oB_s,Bool.false_or]
   cases q3l x with
   |true=>rfl
   |false=>
    have hany:s.h.any (atH x v hi lo)=((outH s.h k).any (atH x v hi lo)||(x==n)):=by
     rw[qbyz hy];congr 1
     rw[Bool.eq_iff_iff,q0a]
     simp only[e1,e2,e3,e4,and_true,beq_iff_eq]
     exact eq_comm
    simp only[cond_f,qbw3 (outH s.h k) wo.f.h (by have:=wo.nh;simp only at this;omega) wo.ph x v hi lo (gI y.cells 4) hx hr,oB_s,hany]
    cases hb:((outH s.h k).any (atH x v hi lo)||(x==n))with
    |true=>rfl
    |false=>
     have ha:(outH s.h k).any (atH x v hi lo)=false:=by
      cases h:(outH s.h k).any (atH x v hi lo)with
      |false=>rfl
      |true=>rw[h]at hb;cases hb
     simp only[cond_f,qbtq s.z w.f.z x hx,oB_s]
     cases qjy s.z x with
     |false=>rfl
     |true=>
      rw[show(AV.agg [(.str x),(.bool v),(.int .u64 hi),(.int .u64 lo),(.int .i64 (gI y.cells 4))])=mkH x v hi lo (gI y.cells 4)from rfl]
      simp only[Bool.not_true,cond_f,qb11 (outH s.h k) (by have:=wo.nh;simp only at this;omega) hr.1,oB_s,qbr0 x v hi lo (gI y.cells 4) hr ha,hd_self,cond_t]
      rfl
theorem qb7l {R:Type}{s:Sp}(hb:qq s.b)(hh:qim s.h)(kr:Bool->List AV->List AV->List AV->Option R):
 qch s.h s.b s.h s.z kr=kr (lost s.b s.h) s.b s.h s.z:=by
 rw[qih];unfold qbu
 rw[qjf];unfold qby
 rw[qif]
 have key:=qcj (σ:=List AV×List AV×List AV) s.h hh.1 (fun k i t=>qbb s.h (s.h.length:Int) (fun b0_0q1 b0_1q2 b0_2q3=>(fun v4q1 b0_0q2 b0_1q3 b0_2q4=>(kr (decide (v4q1>=0)) b0_0q2 b0_1q3 b0_2q4)) (-1:Int) b0_0q1 b0_1q2 b0_2q3) (fun v4q1 b0_0q2 b0_1q3 b0_2q4=>(kr (decide (v4q1>=0)) b0_0q2 b0_1q3 b0_2q4)) k i t.1 t.2.1 t.2.2)
  (fun i t nx=>qba s.h (s.h.length:Int) i t.1 t.2.1 t.2.2 (fun i a b c=>nx i (a,b,c)) (fun b0_0q1 b0_1q2 b0_2q3=>(fun v4q1 b0_0q2 b0_1q3 b0_2q4=>(kr (decide (v4q1>=0)) b0_0q2 b0_1q3 b0_2q4)) (-1:Int) b0_0q1 b0_1q2 b0_2q3) (fun v4q1 b0_0q2 b0_1q3 b0_2q4=>(kr (decide (v4q1>=0)) b0_0q2 b0_1q3 b0_2q4))) (fun _ _ _=>rfl)
  (fun _ t=>t=(s.b,s.h,s.z)) (fun r _=>kr (lost s.b r) s.b s.h s.z) ?_ ?_ (s.b,s.h,s.z) FU rfl (qcq (by have:=hh.1;omega))
 · exact key
 · intro t nx ht;subst ht;simp[qba,lost]
 · intro i y r t nx h1 h2 h3 h4 ht h5
   subst ht
   have hy:=hh.2 y (List.mem_of_getElem? h2)
   have h6:(i:Int)<(s.h.length:Int):=by omega
   unfold qba
   simp only[h6,decide_true,cond_t,ixB_nat,h2,oB_s,hy.1,h4]
   rw[qbjq];unfold qo4
   rw[qbqm s.b hb,oB_s]
   simp only[h5 _ rfl]
   have e:lost s.b (y::r)=((!blkd s.b (gB y.cells 1) (gI y.cells 2) (gI y.cells 3))||lost s.b r):=rfl
   rw[e]
   have:decide ((i:Int)>=0)=true:=by simp
   cases blkd s.b (gB y.cells 1) (gI y.cells 2) (gI y.cells 3)<;>simp[this]
theorem qb15 {s:Sp}{n:LU}{v:Bool}{hi lo t:Int}(h:(quf s n v hi lo t).2≠0):(quf s n v hi lo t).1=sp0:=by
 unfold quf at*
 cases h1:(qe5 [mkH n v hi lo t] != 0)
 case true=>rfl
 cases h2:s.h.any (atH n v hi lo)
 case true=>rfl
 cases h3:decide ((s.h.length:Int)>=256)
 case true=>rfl
 cases h4:blkd s.b v hi lo
 case false=>rfl
 cases h5:qjy s.z n
 case false=>rfl
 rw[h1,h2,h3,h4,h5]at h
 exact absurd rfl h
theorem qb16 {s:Sp}{n:LU}{v:Bool}{hi lo:Int}(h:(qnh s n v hi lo).2.2≠0):(qnh s n v hi lo).1=sp0:=by
 unfold qnh at*
 cases hk:idxO (atH n v hi lo) s.h with
 |none=>rfl
 |some k=>rw[hk]at h;exact absurd rfl h
theorem qb17 {s:Sp}{n:LU}{v:Bool}{hi lo:Int}{x:LU}(h:(qug s n v hi lo x).2≠0):(qug s n v hi lo x).1=sp0:=by
 unfold qug at*
 cases hk:idxO (atH n v hi lo) s.h with
 |none=>rfl
 |some k=>
  rw[hk]at h
  simp only at h⊢
  cases h1:qli x
  case true=>rfl
  cases h2:s.h.any (atH x v hi lo)
  case true=>rfl
  cases h3:qjy s.z x
  case false=>rfl
  rw[h1,h2,h3]at h
  exact absurd rfl h
theorem qbz7 (r:Sp×Int)(h:r.2≠0->r.1=sp0):(bif r.2 != 0 then(some ((.agg [(.sl 8 []),(.sl 5 []),(.sl 1 [])]),r.2):Option (AV×Int))else some ((.agg [(.sl 8 r.1.b),(.sl 5 r.1.h),(.sl 1 r.1.z)]),0))=some (r.1.av,r.2):=by
 obtain⟨x,e⟩:=r
 by_cases he:e=0
 · subst he;rfl
 · have h1:=h he
   simp only at h1
   subst h1
   have:(e != 0)=true:=by simpa using he
   simp only[this,cond_t];rfl
theorem qbr1 {s:Sp}(w:Wk s)(c:Chg)(hc:CFit c):qes s.b s.h s.z c.k c.v c.hi c.lo c.bits c.bk c.nm c.ow c.vl c.nb c.po c.hn c.hv c.hhi c.hlo c.ht c.tx=some ((qd8 s c).1.av,(qd8 s c).2):=by
 rw[qbn8];unfold qtt qd8
 rw[qb7i c,oB_s]
 have e1:(!qov c.k|| !eqC (qbc9 c) c)= !okC c:=by unfold okC;cases qov c.k<;>rfl
 change (bif(!qov c.k|| !eqC (qbc9 c) c)then _ else _)=_
 rw[e1]
 cases ho:okC c with
 |false=>rfl
 |true=>
  simp only[Bool.not_true,cond_f,cond_t,qbz6 w,oB_s,spf0,spf1,spf2,hd_self,Bool.and_self]
  rw[qbea];unfold qmm qbqo
  simp only[hd_self,cond_t,Bool.and_self]
  cases h1:(c.k==1)with
  |true=>
   simp only[cond_t]
   rw[qb4n s.b w.f.b (by have:=w.nb;omega) w.tb c.v c.hi c.lo c.bits c.bk c.nm c.ow c.vl ⟨rfl,hc.u1,hc.u2,hc.n1,hc.n2⟩]
   simp only[oB_s]
   rw[show mkB c.v c.hi c.lo c.bits c.bk c.nm c.ow c.vl=blkC c from rfl]
   cases he:((addF s.b (blkC c)).2 != 0)<;>rfl
  |false=>
  simp only[cond_f]
  cases h2:(c.k==2)with
  |true=>
   simp only[cond_t]
   rw[qb3b s.b w.f.b (by have:=w.nb;omega) w.tb]
   simp only[oB_s]
   rw[qbd8];unfold qml
   cases he:((qb6 s.b c.v c.hi c.lo c.bits).2 != 0)with
   |true=>
    have:((qb6 s.b c.v c.hi c.lo c.bits).2==0)=false:=by simpa using he
    simp only[this,cond_f,he,cond_t];rfl
   |false=>
    have:((qb6 s.b c.v c.hi c.lo c.bits).2==0)=true:=by simpa using he
    have h0:(qb6 s.b c.v c.hi c.lo c.bits).2=0:=by simpa using he
    simp only[this,cond_t,he,cond_f]
    obtain⟨r1,_,_⟩:=q0s w.f.b w.tb h0
    rw[qb7l (s:=⟨(qb6 s.b c.v c.hi c.lo c.bits).1,s.h,s.z⟩) r1 w.f.h]
    cases hl:lost (qb6 s.b c.v c.hi c.lo c.bits).1 s.h<;>rfl
  |false=>
  simp only[cond_f]
  cases h3:(c.k==3)with
  |true=>
   simp only[cond_t]
   rw[qbz0 s.b w.f.b w.tb w.nb ⟨c.v,c.hi,c.lo,c.bits⟩ c.nb c.po c.nm c.ow hc.n1 hc.n2]
   simp only[oB_s]
   cases he:((qic s.b ⟨c.v,c.hi,c.lo,c.bits⟩ c.nb c.po c.nm c.ow).2.2 != 0)<;>rfl
  |false=>
  simp only[cond_f]
  cases h4:(c.k==4)with
  |true=>
   simp only[cond_t,qb12 w c.hn c.hv c.hhi c.hlo c.ht hc.u3 hc.u4 hc.n3,oB_s,spf0,spf1,spf2,hd_self]
   exact qbz7 (quf s c.hn c.hv c.hhi c.hlo c.ht) qb15
  |false=>
  simp only[cond_f]
  cases h5:(c.k==5)with
  |true=>
   simp only[cond_t,qbio w c.hn c.hv c.hhi c.hlo c.ht hc.n3,oB_s,spf0,spf1,spf2,hd_self]
   exact qbz7 ((qnh s c.hn c.hv c.hhi c.hlo).1,(qnh s c.hn c.hv c.hhi c.hlo).2.2) qb16
  |false=>
  have h6:(c.k==6)=true:=by
   unfold okC qov at ho
   rw[h1,h2,h3,h4,h5]at ho
   cases h:(c.k==6)
   · rw[h]at ho;cases ho
   · rfl
  simp only[cond_f,h6,cond_t,qb33 w c.hn c.hv c.hhi c.hlo c.ht c.tx hc.n3 hc.n4,oB_s,spf0,spf1,spf2,hd_self]
  exact qbz7 (qug s c.hn c.hv c.hhi c.hlo c.tx) qb17
theorem qbz8 {s:Sp}(w:Wk s)(c:Chg)(hc:CFit c):qzs s.b s.h s.z c.k c.v c.hi c.lo c.bits c.bk c.nm c.ow c.vl c.nb c.po c.hn c.hv c.hhi c.hlo c.ht c.tx=some (
 bif c.k==4 then((quf s c.hn c.hv c.hhi c.hlo c.ht).1.av,(quf s c.hn c.hv c.hhi c.hlo c.ht).2)else
 bif c.k==5 then((qnh s c.hn c.hv c.hhi c.hlo).1.av,(qnh s c.hn c.hv c.hhi c.hlo).2.2)else
 ((qug s c.hn c.hv c.hhi c.hlo c.tx).1.av,(qug s c.hn c.hv c.hhi c.hlo c.tx).2)):=by
 rw[qbkw];unfold qpw
 rw[qbyx s.h w.f.h,oB_s]
 cases h4:(c.k==4)with
 |true=>
  unfold quf
  rw[show(AV.agg [(.str c.hn),(.bool c.hv),(.int .u64 c.hhi),(.int .u64 c.hlo),(.int .i64 c.ht)])=mkH c.hn c.hv c.hhi c.hlo c.ht from rfl]
  simp only[cond_t,hd_self,qbql _ (qbyy (qbi9 hc.u3 hc.u4 hc.n3)),oB_s,qta,qbin s.b w.f.b _ _ _ hc.u3 hc.u4,qbrz s.z w.f.z _ hc.n3,qblm s.h w.f.h (by have:=w.nh;omega) c.hn c.hv c.hhi c.hlo c.ht hc.n3]
  cases(qe5 [mkH c.hn c.hv c.hhi c.hlo c.ht] != 0)
  case true=>rfl
  cases s.h.any (atH c.hn c.hv c.hhi c.hlo)
  case true=>rfl
  cases decide ((s.h.length:Int)>=256)
  case true=>rfl
  cases blkd s.b c.hv c.hhi c.hlo
  case false=>rfl
  cases qjy s.z c.hn<;>rfl
 |false=>
  simp only[cond_f]
  unfold qnh qug idxI
  cases hk:idxO (atH c.hn c.hv c.hhi c.hlo) s.h with
  |none=>cases(c.k==5)<;>rfl
  |some k=>
   obtain⟨y,hy,hf⟩:=qnf s.h k hk
   have hat:=List.find?_some hf
   obtain⟨e1,e2,e3,e4⟩:=q0a.1 hat
   have hkl:=(List.getElem?_eq_some_iff.1 hy).1
   have hyf:=w.f.h.2 y (List.mem_of_getElem? hy)
   have wo:=w.out k
   have hneg:decide ((k:Int)<0)=false:=decide_eq_false (by omega)
   simp only[hneg,cond_f,qbw4 s.h w.f.h (by have:=w.nh;omega) k,oB_s,qbqp hy]
   rw[show s.h.take k++s.h.drop (k+1)=outH s.h k from rfl]
   cases(c.k==5)with
   |true=>rfl
   |false=>
    simp only[cond_f]
    have hJ:∀kn:Bool->Option (AV×Int),qs2 (k:Int) (outH s.h k) s.b s.h s.z c.k c.v c.hi c.lo c.bits c.bk c.nm c.ow c.vl c.nb c.po c.hn c.hv c.hhi c.hlo c.ht c.tx kn=kn (qli c.tx):=fun kn=>by
     rw[q9q];unfold qkx qli
     rw[qbil _ hc.n4,oB_s]
     cases ho:qbd c.tx with
     |false=>rfl
     |true=>
      simp only[Bool.not_true,cond_f,Bool.false_or]
      exact qbyu ho kn
    rw[hJ]
    cases qli c.tx with
    |true=>rfl
    |false=>
     simp only[cond_f,qbyx s.h w.f.h,oB_s,qta,qbrz s.z w.f.z _ hc.n4,ixB_nat,hy,hyf.1,cond_t,qblm (outH s.h k) wo.f.h (by have:=wo.nh;simp only at this;omega) c.tx c.hv c.hhi c.hlo (gI y.cells 4) hc.n4]
     cases s.h.any (atH c.tx c.hv c.hhi c.hlo)
     case true=>rfl
     cases qjy s.z c.tx<;>rfl
theorem qb7m (l:LA)(hl:qq l){s:Sp}(w:Wk s):qs4 l s.b s.h s.z (fun(_:Unit)=>(some ((.agg [(.sl 8 l),(.sl 5 s.h),(.sl 1 s.z)]),0))) FU 0=some (bif lost l s.h then(sp0.av,25)else((Sp.mk l s.h s.z).av,0)):=by
 rw[q9r,qeg s.h w.f.h.1 (qg3 l s.b s.h s.z (fun(_:Unit)=>(some ((.agg [(.sl 8 l),(.sl 5 s.h),(.sl 1 s.z)]),0)))) (fun i nx=>qg2 l i s.b s.h s.z nx (fun(_:Unit)=>(some ((.agg [(.sl 8 l),(.sl 5 s.h),(.sl 1 s.z)]),0)))) (fun _ _=>rfl) (fun r=>some (bif lost l r then(sp0.av,25)else((Sp.mk l s.h s.z).av,0)))]
 · intro nx;simp[qg2,lost];rfl
 · intro i y r nx h1 h2 h3 h4 h5
   have hy:=w.f.h.2 y (List.mem_of_getElem? h2)
   have h6:(i:Int)<(s.h.length:Int):=by omega
   unfold qg2
   simp only[h6,decide_true,cond_t,ixB_nat,h2,oB_s,hy.1,h4,h5,qbin l hl _ _ _ hy.2.1 hy.2.2.1]
   have e:lost l (y::r)=((!blkd l (gB y.cells 1) (gI y.cells 2) (gI y.cells 3))||lost l r):=rfl
   rw[e]
   cases blkd l (gB y.cells 1) (gI y.cells 2) (gI y.cells 3)<;>rfl
theorem qbz9 {s:Sp}(w:Wk s)(c:Chg)(hc:CFit c):qt2 s.b s.h s.z c.k c.v c.hi c.lo c.bits c.bk c.nm c.ow c.vl c.nb c.po c.hn c.hv c.hhi c.hlo c.ht c.tx=some ((qd8 s c).1.av,(qd8 s c).2):=by
 rw[qbkx];unfold qpx
 have hJ:∀kn:Bool->Option (AV×Int),quw s.b s.h s.z c.k c.v c.hi c.lo c.bits c.bk c.nm c.ow c.vl c.nb c.po c.hn c.hv c.hhi c.hlo c.ht c.tx kn=kn (!okC c):=fun kn=>by
  rw[qbbw];unfold qlz okC
  by_cases h1:c.k<1
  · have:qov c.k=false:=by
     unfold qov
     simp only[Bool.or_eq_false_iff,beq_eq_false_iff_ne]
     omega
    rw[this];simp[h1]
  · by_cases h2:c.k>6
    · have:qov c.k=false:=by
       unfold qov
       simp only[Bool.or_eq_false_iff,beq_eq_false_iff_ne]
       omega
      rw[this];simp[h1,h2]
    · have:qov c.k=true:=by
       unfold qov
       simp only[Bool.or_eq_true,beq_iff_eq]
       omega
      rw[this,qb7j c]
      simp only[h1,h2,decide_false,cond_f,oB_s,Bool.true_and]
      rfl
 rw[hJ]
 unfold qd8
 cases ho:okC c with
 |false=>rfl
 |true=>
  simp only[Bool.not_true,cond_f,cond_t]
  unfold qbqo
  cases h1:(c.k==1)with
  |true=>
   simp only[cond_t]
   rw[qbwn s.b w.f.b (by have:=w.nb;omega) c.v c.hi c.lo c.bits c.bk c.nm c.ow c.vl ⟨rfl,hc.u1,hc.u2,hc.n1,hc.n2⟩]
   simp only[oB_s]
   rw[show mkB c.v c.hi c.lo c.bits c.bk c.nm c.ow c.vl=blkC c from rfl]
   cases he:((addF s.b (blkC c)).2 != 0)<;>rfl
  |false=>
  simp only[cond_f]
  cases h2:(c.k==2)with
  |true=>
   simp only[cond_t]
   rw[qb1o s.b w.f.b (by have:=w.nb;omega)]
   simp only[oB_s]
   cases he:((qb6 s.b c.v c.hi c.lo c.bits).2 != 0)with
   |true=>rfl
   |false=>
    have h0:(qb6 s.b c.v c.hi c.lo c.bits).2=0:=by simpa using he
    obtain⟨r1,_,_⟩:=q0s w.f.b w.tb h0
    simp only[cond_f]
    rw[qb7m _ r1 w]
    cases hl:lost (qb6 s.b c.v c.hi c.lo c.bits).1 s.h<;>rfl
  |false=>
  simp only[cond_f]
  cases h3:(c.k==3)with
  |true=>
   simp only[cond_t]
   rw[qbxx s.b w.f.b w.tb w.nb ⟨c.v,c.hi,c.lo,c.bits⟩ c.nb c.po c.nm c.ow hc.n1 hc.n2]
   simp only[oB_s]
   cases he:((qic s.b ⟨c.v,c.hi,c.lo,c.bits⟩ c.nb c.po c.nm c.ow).2.2 != 0)<;>rfl
  |false=>
  simp only[cond_f]
  rw[qbz8 w c hc,oB_s]
  cases(c.k==4)
  case true=>rfl
  cases(c.k==5)<;>rfl
def qbqq:Ty:=.st [.str,qbie,.int .i64]
def qb0a:Ty:=.str
theorem hstsFit_of {l:LA}(h:l.length<=9223372036854775807/\∀y,y∈l->fitC qbqq.lts y.cells=true/\qbqq.good y.cells 0):qim l:=
 ⟨h.1,fun y hy=>by
  obtain⟨h1,h2⟩:=h.2 y hy
  simp only[qbqq,qbie,Ty.good.goods,Ty.good,Ty.size,Ty.sizes,Nat.zero_add,Nat.reduceAdd,and_true,true_and]at h2
  exact⟨h1,h2.2.1.1,h2.2.1.2,h2.1⟩⟩
theorem zonsFit_of {l:LA}(h:l.length<=9223372036854775807/\∀y,y∈l->fitC qb0a.lts y.cells=true/\qb0a.good y.cells 0):q3t l:=
 ⟨h.1,fun y hy=>by
  obtain⟨h1,h2⟩:=h.2 y hy
  simp only[qb0a,Ty.good]at h2
  exact⟨h1,h2⟩⟩
def qbqr:List Ty:=[.int .i64,qbpz,.int .i64,.int .i64,qbqq,.str]
theorem qb58 {cs:LA}(h:Ty.good.goods qbqr cs 0):CFit ⟨gI cs 0,gB cs 1,gI cs 2,gI cs 3,gI cs 4,gI cs 5,gS cs 6,gS cs 7,gI cs 8,gI cs 9,gI cs 10,gS cs 11,gB cs 12,gI cs 13,gI cs 14,gI cs 15,gS cs 16⟩:=by
 simp only[qbqr,qbpz,qbqq,qbwf,qbie,Ty.good.goods,Ty.good,Ty.size,Ty.sizes,Nat.zero_add,Nat.reduceAdd,and_true,true_and]at h
 obtain⟨_,⟨⟨⟨h2,h3⟩,_⟩,_,h6,h7,_⟩,_,_,⟨h11,⟨h13,h14⟩,_⟩,h16⟩:=h
 exact⟨h2,h3,h13,h14,h6,h7,h11,h16⟩
theorem wk0:Wk sp0:=⟨⟨⟨by decide,fun y hy=>by cases hy⟩,⟨by decide,fun y hy=>by cases hy⟩,⟨by decide,fun y hy=>by cases hy⟩⟩,by decide,fun j y h=>(by cases h),by decide,List.Pairwise.nil,by decide⟩
def exC1:Chg:=⟨1,false,0,167772160,8,1,[110,101,116],[],0,0,0,[],false,0,0,0,[]⟩
def exC2:Chg:=⟨2,false,0,167772160,8,0,[],[],0,0,0,[],false,0,0,0,[]⟩
theorem qb78:CFit exC1:=⟨⟨by decide,by decide⟩,⟨by decide,by decide⟩,⟨by decide,by decide⟩,⟨by decide,by decide⟩,by decide,by decide,by decide,by decide⟩
theorem qb79:CFit exC2:=⟨⟨by decide,by decide⟩,⟨by decide,by decide⟩,⟨by decide,by decide⟩,⟨by decide,by decide⟩,by decide,by decide,by decide,by decide⟩
theorem exA1:qd8 sp0 exC1=(⟨[blkC exC1],[],[]⟩,0):=by kernel_rfl
theorem exA2:qd8 sp0 exC2=(sp0,11):=by kernel_rfl
theorem exP1:qes [] [] [] 1 false 0 167772160 8 1 [110,101,116] [] 0 0 0 [] false 0 0 0 []=some ((Sp.mk [blkC exC1] [] []).av,0):=by
 have:=qbr1 wk0 exC1 qb78
 rw[exA1]at this;exact this
theorem exP2:qes [] [] [] 2 false 0 167772160 8 0 [] [] 0 0 0 [] false 0 0 0 []=some (sp0.av,11):=by
 have:=qbr1 wk0 exC2 qb79
 rw[exA2]at this;exact this
theorem exI1:qtv [] [] [] 1 false 0 167772160 8 1 [110,101,116] [] 0 0 0 [] false 0 0 0 []=some (exC2.av,0):=by
 rw[qbj8];unfold qpb
 rw[exP1];rfl
theorem qb18:qtw=some true:=by
 rw[qbj9];unfold qpc
 have ht:qxe 8=some (.agg [(.bool false),(.int .u64 0),(.int .u64 (167772160:Int)),(.int .i64 8)]):=by
  rw[qbnk];rfl
 rw[ht]
 simp only[oB_s]
 rw[show qes [] [] [] 1 (gB (AV.agg [(.bool false),(.int .u64 0),(.int .u64 (167772160:Int)),(.int .i64 8)]).cells 0) (gI (AV.agg [(.bool false),(.int .u64 0),(.int .u64 (167772160:Int)),(.int .i64 8)]).cells 1) (gI (AV.agg [(.bool false),(.int .u64 0),(.int .u64 (167772160:Int)),(.int .i64 8)]).cells 2) (gI (AV.agg [(.bool false),(.int .u64 0),(.int .u64 (167772160:Int)),(.int .i64 8)]).cells 3) 1 [110,101,116] [] 0 0 0 [] false 0 0 0 []=some ((Sp.mk [blkC exC1] [] []).av,0)from exP1]
 rw[show qes [] [] [] 2 (gB (AV.agg [(.bool false),(.int .u64 0),(.int .u64 (167772160:Int)),(.int .i64 8)]).cells 0) (gI (AV.agg [(.bool false),(.int .u64 0),(.int .u64 (167772160:Int)),(.int .i64 8)]).cells 1) (gI (AV.agg [(.bool false),(.int .u64 0),(.int .u64 (167772160:Int)),(.int .i64 8)]).cells 2) (gI (AV.agg [(.bool false),(.int .u64 0),(.int .u64 (167772160:Int)),(.int .i64 8)]).cells 3) 0 [] [] 0 0 0 [] false 0 0 0 []=some (sp0.av,11)from exP2]
 rw[show qtv [] [] [] 1 (gB (AV.agg [(.bool false),(.int .u64 0),(.int .u64 (167772160:Int)),(.int .i64 8)]).cells 0) (gI (AV.agg [(.bool false),(.int .u64 0),(.int .u64 (167772160:Int)),(.int .i64 8)]).cells 1) (gI (AV.agg [(.bool false),(.int .u64 0),(.int .u64 (167772160:Int)),(.int .i64 8)]).cells 2) (gI (AV.agg [(.bool false),(.int .u64 0),(.int .u64 (167772160:Int)),(.int .i64 8)]).cells 3) 1 [110,101,116] [] 0 0 0 [] false 0 0 0 []=some (exC2.av,0)from exI1]
 rfl
def qb4r (b h z l:LA):Bool:=(((decide ((b.length:Int)>(40:Int)))||(decide ((h.length:Int)>(40:Int))))||(decide ((z.length:Int)>(40:Int))))||(decide ((l.length:Int)>(68:Int)))
theorem qb59 (b h z l:LA):qxd b h z l=some (qb4r b h z l):=by rw[qbfg];rfl
theorem qb7n (l:LA)(hl:qq l)(a b c d:LA)(kx:Unit->Option Bool):qux (l.length:Int) l a b l c d kx FU 0=kx ():=by
 rw[qbby,qeg l hl.1 (qh6 (l.length:Int) l a b l c d kx) (fun i nx=>qh5 (l.length:Int) i l a b l c d nx kx) (fun _ _=>rfl) (fun r=>kx ())]
 · intro nx;simp[qh5]
 · intro i y r nx h1 h2 h3 h4 h5
   have hy:=hl.2 y (List.mem_of_getElem? h2)
   have h6:(i:Int)<(l.length:Int):=by omega
   unfold qh5
   simp only[h6,decide_true,cond_t,ixB_nat,h2,oB_s,hy.1,h4,h5,beq_self_eq_true,Bool.and_self,Bool.not_true,cond_f]
theorem qb7o (l:LA)(hl:qim l)(a b c d:LA)(kx:Unit->Option Bool):quy (l.length:Int) a l b c l d kx FU 0=kx ():=by
 rw[qbbz,qeg l hl.1 (qh8 (l.length:Int) a l b c l d kx) (fun i nx=>qh7 (l.length:Int) i a l b c l d nx kx) (fun _ _=>rfl) (fun r=>kx ())]
 · intro nx;simp[qh7]
 · intro i y r nx h1 h2 h3 h4 h5
   have hy:=hl.2 y (List.mem_of_getElem? h2)
   have h6:(i:Int)<(l.length:Int):=by omega
   unfold qh7
   simp only[h6,decide_true,cond_t,ixB_nat,h2,oB_s,hy.1,h4,h5,beq_self_eq_true,Bool.and_self,Bool.not_true,cond_f]
theorem qb7p (l:LA)(hl:q3t l)(a b c d:LA)(kx:Unit->Option Bool):quz (l.length:Int) a b l c d l kx FU 0=kx ():=by
 rw[qbb0,qeg l hl.1 (qia (l.length:Int) a b l c d l kx) (fun i nx=>qh9 (l.length:Int) i a b l c d l nx kx) (fun _ _=>rfl) (fun r=>kx ())]
 · intro nx;simp[qh9]
 · intro i y r nx h1 h2 h3 h4 h5
   have hy:=hl.2 y (List.mem_of_getElem? h2)
   have h6:(i:Int)<(l.length:Int):=by omega
   unfold qh9
   simp only[h6,decide_true,cond_t,ixB_nat,h2,oB_s,hy.1,h4,h5,beq_self_eq_true,Bool.and_self,Bool.not_true,cond_f]
theorem qb34 {s:Sp}(f:Fits s):qv1 s.b s.h s.z s.b s.h s.z=some true:=by
 rw[qbmz];unfold qr9
 simp only[bne_self_eq_false,Bool.or_self,cond_f]
 rw[qb7n s.b f.b,qb7o s.h f.h,qb7p s.z f.z]
theorem qbw6 {l:LA}(hl:qim l)(hn:l.length<=100000){y:AV}(hy:qbqj y):qim (insH y l):=⟨by rw[qbc8];omega,fun z hz=>by
 rcases qp9.1 hz with rfl|h
 · exact hy
 · exact hl.2 z h⟩
theorem qby0 {l:LA}(hl:qq l)(hn:l.length<=100000){b:AV}(hb:qlh b):qq (addF l b).1:=by
 rcases qb3p (l:=l) (b:=b)with h|h<;>rw[h]
 · exact⟨by simp,fun y hy=>by cases hy⟩
 · exact qbwt hl hn hb
theorem ql3:Fits sp0:=wk0.f
theorem qb0b {s:Sp}(w:Wk s){c:Chg}(hc:CFit c):Fits (qd8 s c).1:=by
 unfold qd8
 cases okC c with
 |false=>exact ql3
 |true=>
 simp only[cond_t]
 unfold qbqo
 cases(c.k==1)with
 |true=>
  simp only[cond_t]
  cases((addF s.b (blkC c)).2 != 0)with
  |true=>exact ql3
  |false=>exact⟨qby0 w.f.b (by have:=w.nb;omega) ⟨rfl,hc.u1,hc.u2,hc.n1,hc.n2⟩,w.f.h,w.f.z⟩
 |false=>
 simp only[cond_f]
 cases(c.k==2)with
 |true=>
  simp only[cond_t]
  cases he:((qb6 s.b c.v c.hi c.lo c.bits).2 != 0)with
  |true=>exact ql3
  |false=>
   have h0:(qb6 s.b c.v c.hi c.lo c.bits).2=0:=by simpa using he
   simp only[cond_f]
   cases lost (qb6 s.b c.v c.hi c.lo c.bits).1 s.h with
   |true=>exact ql3
   |false=>exact⟨(q0s w.f.b w.tb h0).1,w.f.h,w.f.z⟩
 |false=>
 simp only[cond_f]
 cases(c.k==3)with
 |true=>
  simp only[cond_t]
  cases((qic s.b ⟨c.v,c.hi,c.lo,c.bits⟩ c.nb c.po c.nm c.ow).2.2 != 0)with
  |true=>exact ql3
  |false=>
   refine⟨?_,w.f.h,w.f.z⟩
   show qq (qic s.b ⟨c.v,c.hi,c.lo,c.bits⟩ c.nb c.po c.nm c.ow).1
   have nil:qq []:=ql3.b
   unfold qic
   rcases qyw (qp6 w.f.b w.tb) ⟨c.v,c.hi,c.lo,c.bits⟩ c.nb c.po with⟨e,he,hne⟩|⟨q,hq,hch⟩
   · rw[he]
     have:(e != 0)=true:=by simpa using hne
     simp only[this,cond_t];exact nil
   · rw[hq]
     obtain⟨w0,w1,w2,w3⟩:=av_w q
     simp only[bne_self_eq_false,cond_f,w0,w1,w2,w3]
     cases(addF s.b (mkB q.v q.hi q.lo q.bits 2 c.nm c.ow 0)).2 != 0 with
     |true=>exact nil
     |false=>exact qby0 w.f.b (by have:=w.nb;omega) (qbi6 hch.good hc.n1 hc.n2)
 |false=>
 simp only[cond_f]
 cases(c.k==4)with
 |true=>
  simp only[cond_t]
  unfold quf
  cases(qe5 [mkH c.hn c.hv c.hhi c.hlo c.ht] != 0)
  case true=>exact ql3
  cases s.h.any (atH c.hn c.hv c.hhi c.hlo)
  case true=>exact ql3
  cases decide ((s.h.length:Int)>=256)
  case true=>exact ql3
  cases blkd s.b c.hv c.hhi c.hlo
  case false=>exact ql3
  cases qjy s.z c.hn
  case false=>exact ql3
  exact⟨w.f.b,qbw6 w.f.h (by have:=w.nh;omega) (qbi9 hc.u3 hc.u4 hc.n3),w.f.z⟩
 |false=>
 simp only[cond_f]
 cases(c.k==5)with
 |true=>
  simp only[cond_t]
  unfold qnh
  cases idxO (atH c.hn c.hv c.hhi c.hlo) s.h with
  |none=>exact ql3
  |some k=>exact(w.out k).f
 |false=>
  simp only[cond_f]
  unfold qug
  cases idxO (atH c.hn c.hv c.hhi c.hlo) s.h with
  |none=>exact ql3
  |some k=>
   simp only
   cases qli c.tx
   case true=>exact ql3
   cases s.h.any (atH c.tx c.hv c.hhi c.hlo)
   case true=>exact ql3
   cases qjy s.z c.tx
   case false=>exact ql3
   have wo:=w.out k
   exact⟨w.f.b,qbw6 wo.f.h (Nat.le_trans wo.nh (by decide)) (qbi9 hc.u3 hc.u4 hc.n4),w.f.z⟩
theorem qbip {n:LU}{v:Bool}{hi lo t:Int}:∀{l:LA},l.Pairwise ltH->l.any (atH n v hi lo)=false->(insH (mkH n v hi lo t) l).Pairwise ltH
 |[],_,_=>by simp[insH]
 |y::r,hp,ha=>by
  rw[List.pairwise_cons]at hp
  rw[List.any_cons,Bool.or_eq_false_iff]at ha
  rw[q1w]
  by_cases hc:cmpH (mkH n v hi lo t) y<0
  · simp only[hc,decide_true,cond_t]
    have hx:=qbah.2 hc
    exact List.pairwise_cons.2 ⟨fun z hz=>by
     rcases List.mem_cons.1 hz with rfl|hz
     · exact hx
     · exact q1v hx (hp.1 z hz),List.pairwise_cons.2 hp⟩
  · simp only[hc,decide_false,cond_f]
    have hne:¬qeb (gS y.cells 0) (gB y.cells 1) (gI y.cells 2) (gI y.cells 3) n v hi lo=0:=fun h=>by rw[q0b.2 h]at ha;cases ha.1
    have hne':¬cmpH (mkH n v hi lo t) y=0:=fun h=>hne ((q3k _ _ _ _ _ _ _ _).2.2 h)
    have hx:ltH y (mkH n v hi lo t):=qbz5.1 (by omega)
    exact List.pairwise_cons.2 ⟨fun z hz=>by
     rcases qp9.1 hz with rfl|hz
     · exact hx
     · exact hp.1 z hz,qbip hp.2 ha.2⟩
theorem qb19 {y:AV}(h:qe5 [y]=0):qqm y=0:=by
 unfold qe5 at h
 have e:¬(([y]:List AV).length:Int)>256:=by simp
 simp only[e,decide_false,cond_f]at h
 exact(qbut.1 h).1 y (by simp)
theorem qb35 {n m:LU}{v:Bool}{hi lo t:Int}(h:que n v hi lo t=0)(hm:qli m=false):que m v hi lo t=0:=by
 unfold que at*
 rw[hm]
 cases h1:qli n with
 |true=>rw[h1]at h;cases h
 |false=>rw[h1]at h;exact h
theorem qb7q {l:LA}{b:AV}(h:(addF l b).2=0):l.length<512:=by
 unfold addF at h
 cases hp:qod b with
 |false=>simp[hp]at h
 |true=>
 cases hm:mayB b with
 |false=>simp[hp,hm]at h
 |true=>
 cases ha:l.any (atP (gB b.cells 0) (gI b.cells 1) (gI b.cells 2) (gI b.cells 3))with
 |true=>simp[hp,hm,ha]at h
 |false=>
 cases hbr:(l.any (qbi b)||occF l (gB b.cells 0) (gI b.cells 1) (gI b.cells 2) (gI b.cells 3))with
 |true=>simp only[hp,hm,ha,hbr,Bool.not_true,cond_f,cond_t]at h;cases h
 |false=>
 rw[hp,hm,ha,hbr]at h
 simp only[Bool.not_true,cond_f]at h
 by_cases h5:(l.length:Int)>=512
 · simp[h5]at h
 · omega
theorem qbw7 {s:Sp}(p:Plan s){b:AV}(hb:qlh b)(h:(addF s.b b).2=0):Plan ⟨(addF s.b b).1,s.h,s.z⟩:=by
 obtain⟨h1,h2,_⟩:=qb3l p.f.b p.tb hb h
 have hlt:=qb7q h
 have hf:qq (insF b s.b):=qbwt p.f.b (by omega) hb
 rw[h1]
 exact⟨⟨hf,p.f.h,p.f.z⟩,by show(insF b s.b).length<=512;rw[qbc0];omega,h2,p.nh,p.fh,p.ph,p.nz,p.cz,fun y hy=>qb31 p.f.b p.tb hf h2 (p.f.h.2 y hy).2.1 (p.f.h.2 y hy).2.2.1 (p.bl y hy),p.zo⟩
theorem qb2a {l:LA}{p:Pq}{bits po:Int}{nm ow:LU}(hg:qea l)(h:(qic l p bits po nm ow).2.2=0):∃q:Pq,q.good/\(qic l p bits po nm ow).2.1=q.av/\(addF l (mkB q.v q.hi q.lo q.bits 2 nm ow 0)).2=0/\(qic l p bits po nm ow).1=(addF l (mkB q.v q.hi q.lo q.bits 2 nm ow 0)).1:=by
 unfold qic at*
 rcases qyw hg p bits po with⟨e,he,hne⟩|⟨q,hq,hch⟩
 · rw[he]at h
   have:(e != 0)=true:=by simpa using hne
   simp only[this,cond_t]at h
   exact absurd h hne
 · refine⟨q,hch.good,?_⟩
   rw[hq]at h⊢
   obtain⟨w0,w1,w2,w3⟩:=av_w q
   simp only[bne_self_eq_false,cond_f,w0,w1,w2,w3]at h⊢
   cases he:(addF l (mkB q.v q.hi q.lo q.bits 2 nm ow 0)).2 != 0 with
   |true=>
    rw[he]at h;simp only[cond_t]at h
    have:(addF l (mkB q.v q.hi q.lo q.bits 2 nm ow 0)).2≠0:=by simpa using he
    exact absurd h this
   |false=>exact⟨rfl,by simpa using he,rfl⟩
theorem qb36 {b h:LA}(e:lost b h=false):∀y,y∈h->blkd b (gB y.cells 1) (gI y.cells 2) (gI y.cells 3)=true:=fun y hy=>by
 have:=List.any_eq_false.1 e y hy
 simpa using this
theorem qbda {s:Sp}(p:Plan s){c:Chg}(hc:CFit c)(h:(qd8 s c).2=0):Plan (qd8 s c).1:=by
 have w:=p.wk
 have hfits:=qb0b w hc
 unfold qd8 at*
 cases ho:okC c with
 |false=>rw[ho]at h;cases h
 |true=>
 rw[ho]at h hfits
 simp only[cond_t]at*
 unfold qbqo at*
 cases h1:(c.k==1)with
 |true=>
  rw[h1]at h hfits
  simp only[cond_t]at*
  cases he:((addF s.b (blkC c)).2 != 0)with
  |true=>rw[he]at h;exact absurd h (by simpa[ql2]using he)
  |false=>exact qbw7 p ⟨rfl,hc.u1,hc.u2,hc.n1,hc.n2⟩ (by simpa using he)
 |false=>
 rw[h1]at h hfits
 simp only[cond_f]at*
 cases h2:(c.k==2)with
 |true=>
  rw[h2]at h hfits
  simp only[cond_t]at*
  cases he:((qb6 s.b c.v c.hi c.lo c.bits).2 != 0)with
  |true=>rw[he]at h;exact absurd h (by simpa[ql2]using he)
  |false=>
   have h0:(qb6 s.b c.v c.hi c.lo c.bits).2=0:=by simpa using he
   rw[he]at h hfits
   simp only[cond_f]at*
   cases hl:lost (qb6 s.b c.v c.hi c.lo c.bits).1 s.h with
   |true=>rw[hl]at h;cases h
   |false=>
    obtain⟨r1,r2,r3⟩:=q0s p.f.b p.tb h0
    exact⟨⟨r1,p.f.h,p.f.z⟩,by have:=p.nb;show(qb6 s.b c.v c.hi c.lo c.bits).1.length<=512;omega,r2,p.nh,p.fh,p.ph,p.nz,p.cz,qb36 hl,p.zo⟩
 |false=>
 rw[h2]at h hfits
 simp only[cond_f]at*
 cases h3:(c.k==3)with
 |true=>
  rw[h3]at h hfits
  simp only[cond_t]at*
  cases he:((qic s.b ⟨c.v,c.hi,c.lo,c.bits⟩ c.nb c.po c.nm c.ow).2.2 != 0)with
  |true=>rw[he]at h;exact absurd h (by simpa[ql2]using he)
  |false=>
   obtain⟨q,q1,_,q3,q4⟩:=qb2a (qp6 p.f.b p.tb) (show(qic s.b ⟨c.v,c.hi,c.lo,c.bits⟩ c.nb c.po c.nm c.ow).2.2=0 by simpa using he)
   simp only[cond_f]
   rw[q4]
   exact qbw7 p (qbi6 q1 hc.n1 hc.n2) q3
 |false=>
 rw[h3]at h hfits
 simp only[cond_f]at*
 cases h4:(c.k==4)with
 |true=>
  rw[h4]at h hfits
  simp only[cond_t]at*
  unfold quf at*
  cases e1:(qe5 [mkH c.hn c.hv c.hhi c.hlo c.ht] != 0)
  case true=>rw[e1]at h;exact absurd h (by simpa[ql2]using e1)
  rw[e1]at h hfits
  cases e2:s.h.any (atH c.hn c.hv c.hhi c.hlo)
  case true=>rw[e2]at h;cases h
  rw[e2]at h hfits
  cases e3:decide ((s.h.length:Int)>=256)
  case true=>rw[e3]at h;cases h
  rw[e3]at h hfits
  cases e4:blkd s.b c.hv c.hhi c.hlo
  case false=>rw[e4]at h;cases h
  rw[e4]at h hfits
  cases e5:qjy s.z c.hn
  case false=>rw[e5]at h;cases h
  rw[e5]at h hfits
  have hf:=qb19 (show qe5 [mkH c.hn c.hv c.hhi c.hlo c.ht]=0 by simpa using e1)
  have e3':=of_decide_eq_false e3
  refine⟨hfits,p.nb,p.tb,?_,?_,qbip p.ph e2,p.nz,p.cz,?_,?_⟩
  · show(insH (mkH c.hn c.hv c.hhi c.hlo c.ht) s.h).length<=256
    rw[qbc8];omega
  · intro y hy
    rcases qp9.1 hy with rfl|hy
    · exact hf
    · exact p.fh y hy
  · intro y hy
    rcases qp9.1 hy with rfl|hy
    · exact e4
    · exact p.bl y hy
  · intro y hy
    rcases qp9.1 hy with rfl|hy
    · exact e5
    · exact p.zo y hy
 |false=>
 rw[h4]at h hfits
 simp only[cond_f]at*
 cases h5:(c.k==5)with
 |true=>
  rw[h5]at h hfits
  simp only[cond_t]at*
  unfold qnh at*
  cases hk:idxO (atH c.hn c.hv c.hhi c.hlo) s.h with
  |none=>rw[hk]at h;cases h
  |some k=>
   rw[hk]at hfits
   exact⟨hfits,p.nb,p.tb,Nat.le_trans (q3u s.h k).length_le p.nh,fun y hy=>p.fh y (q0c hy),p.ph.sublist (q3u s.h k),p.nz,p.cz,fun y hy=>p.bl y (q0c hy),fun y hy=>p.zo y (q0c hy)⟩
 |false=>
  rw[h5]at h hfits
  simp only[cond_f]at*
  unfold qug at*
  cases hk:idxO (atH c.hn c.hv c.hhi c.hlo) s.h with
  |none=>rw[hk]at h;cases h
  |some k=>
   rw[hk]at h hfits
   simp only at*
   obtain⟨y,hy,hfy⟩:=qnf s.h k hk
   have hat:=List.find?_some hfy
   obtain⟨a1,a2,a3,a4⟩:=q0a.1 hat
   have hym:=List.mem_of_getElem? hy
   have hkl:=(List.getElem?_eq_some_iff.1 hy).1
   rw[qbqp hy]at h hfits⊢
   cases e1:qli c.tx
   case true=>rw[e1]at h;cases h
   rw[e1]at h hfits
   cases e2:s.h.any (atH c.tx c.hv c.hhi c.hlo)
   case true=>rw[e2]at h;cases h
   rw[e2]at h hfits
   cases e3:qjy s.z c.tx
   case false=>rw[e3]at h;cases h
   rw[e3]at h hfits
   have e2':(outH s.h k).any (atH c.tx c.hv c.hhi c.hlo)=false:=by
    rw[qbyz hy]at e2;exact(Bool.or_eq_false_iff.1 e2).1
   have hfo:que c.hn c.hv c.hhi c.hlo (gI y.cells 4)=0:=by
    have:=p.fh y hym
    unfold qqm at this
    rw[a1,a2,a3,a4]at this;exact this
   have hbo:blkd s.b c.hv c.hhi c.hlo=true:=by
    have:=p.bl y hym
    rw[a2,a3,a4]at this;exact this
   refine⟨hfits,p.nb,p.tb,?_,?_,qbip (p.ph.sublist (q3u s.h k)) e2',p.nz,p.cz,?_,?_⟩
   · show(insH (mkH c.tx c.hv c.hhi c.hlo (gI y.cells 4)) (outH s.h k)).length<=256
     rw[qbc8,qb57 hkl];exact p.nh
   · intro z hz
     rcases qp9.1 hz with rfl|hz
     · exact qb35 hfo e1
     · exact p.fh z (q0c hz)
   · intro z hz
     rcases qp9.1 hz with rfl|hz
     · exact hbo
     · exact p.bl z (q0c hz)
   · intro z hz
     rcases qp9.1 hz with rfl|hz
     · exact e3
     · exact p.zo z (q0c hz)
def chgY (y:AV):Chg:=⟨gI y.cells 0,gB y.cells 1,gI y.cells 2,gI y.cells 3,gI y.cells 4,gI y.cells 5,gS y.cells 6,gS y.cells 7,gI y.cells 8,gI y.cells 9,gI y.cells 10,gS y.cells 11,gB y.cells 12,gI y.cells 13,gI y.cells 14,gI y.cells 15,gS y.cells 16⟩
def qb2b (y:AV):Prop:=fitC qcl y.cells=true/\CFit (chgY y)
def qbaj (l:LA):Prop:=l.length<=9223372036854775807/\∀y,y∈l->qb2b y
theorem chgsFit_of {l:LA}(h:l.length<=9223372036854775807/\∀y,y∈l->fitC (Ty.st qbqr).lts y.cells=true/\(Ty.st qbqr).good y.cells 0):qbaj l:=
 ⟨h.1,fun y hy=>by
  obtain⟨h1,h2⟩:=h.2 y hy
  unfold Ty.good at h2
  exact⟨h1,qb58 h2⟩⟩
def runL (i:Nat)(s:Sp):List AV->Sp×Int×Int
 |[]=>(s,(i:Int),0)
 |y::r=>bif(qd8 s (chgY y)).2 != 0 then(sp0,(i:Int),(qd8 s (chgY y)).2)else runL (i+1) (qd8 s (chgY y)).1 r
def runF (s:Sp)(l:LA):Sp×Int×Int:=bif decide ((l.length:Int)>(64:Int))then(sp0,0,9)else runL 0 s l
def outR (x:Sp×Int×Int):AV×Int×Int:=(x.1.av,x.2.1,x.2.2)
theorem qby1 {α:Type}{l:List α}{i:Nat}{y:α}{r:List α}(h:l.drop i=y::r)(hi:i<l.length):l.length-(y::r).length=i/\l.length-r.length=i+1:=by
 have:=congrArg List.length h
 simp at this
 simp;omega
theorem qb8a {s:Sp}(p:Plan s)(l:LA)(hl:qbaj l):qbb1 s.b s.h s.z l=some (outR (runF s l)):=by
 rw[qbub];unfold qye runF
 by_cases h64:(l.length:Int)>64
 · simp only[h64,decide_true,cond_t];rfl
 · simp only[h64,decide_false,cond_f,qbz6 p.wk,oB_s,spf0,spf1,spf2]
   rw[qbky]
   have key:=qcj (σ:=List AV×List AV×List AV) l hl.1 (fun k i t=>qlf l l (l.length:Int) (fun b0_0q2 b0_1q3 b0_2q4=>(some ((.agg [(.sl 8 b0_0q2),(.sl 5 b0_1q3),(.sl 1 b0_2q4)]),(l.length:Int),0))) k i t.1 t.2.1 t.2.2)
    (fun i t nx=>qle l l (l.length:Int) i t.1 t.2.1 t.2.2 (fun i a b c=>nx i (a,b,c)) (fun b0_0q2 b0_1q3 b0_2q4=>(some ((.agg [(.sl 8 b0_0q2),(.sl 5 b0_1q3),(.sl 1 b0_2q4)]),(l.length:Int),0)))) (fun _ _ _=>rfl)
    (fun _ t=>Plan ⟨t.1,t.2.1,t.2.2⟩) (fun r t=>some (outR (runL (l.length-r.length) ⟨t.1,t.2.1,t.2.2⟩ r))) ?_ ?_ (s.b,s.h,s.z) FU p (qcq (by have:=hl.1;omega))
   · simpa using key
   · intro t nx _;simp[qle,runL,outR];rfl
   · intro i y r t nx h1 h2 h3 h4 hp h5
     obtain⟨g1,g2⟩:=qby1 h1 h3
     have hy:=hl.2 y (List.mem_of_getElem? h2)
     have h6:(i:Int)<(l.length:Int):=by omega
     unfold qle
     have ha:=qbr1 hp.wk (chgY y) hy.2
     simp only[h6,decide_true,cond_t,ixB_nat,h2,oB_s,hy.1,h4]
     rw[show qes t.1 t.2.1 t.2.2 (gI y.cells 0) (gB y.cells 1) (gI y.cells 2) (gI y.cells 3) (gI y.cells 4) (gI y.cells 5) (gS y.cells 6) (gS y.cells 7) (gI y.cells 8) (gI y.cells 9) (gI y.cells 10) (gS y.cells 11) (gB y.cells 12) (gI y.cells 13) (gI y.cells 14) (gI y.cells 15) (gS y.cells 16)=_ from ha]
     simp only[oB_s]
     rw[g1];unfold runL
     cases he:((qd8 ⟨t.1,t.2.1,t.2.2⟩ (chgY y)).2 != 0)with
     |true=>rfl
     |false=>
      simp only[cond_f]
      have:=h5 ((qd8 ⟨t.1,t.2.1,t.2.2⟩ (chgY y)).1.b,(qd8 ⟨t.1,t.2.1,t.2.2⟩ (chgY y)).1.h,(qd8 ⟨t.1,t.2.1,t.2.2⟩ (chgY y)).1.z) (qbda hp hy.2 (by simpa using he))
      rw[g2]at this
      exact this
theorem qb37 {s:Sp}(p:Plan s)(l:LA)(hl:qbaj l):q4u s.b s.h s.z l=some (outR (runF s l)):=by
 rw[qboj];unfold qt3 runF
 by_cases h64:(l.length:Int)>64
 · simp only[h64,decide_true,cond_t];rfl
 · simp only[h64,decide_false,cond_f]
   rw[qbfe]
   have key:=qcj (σ:=List AV×List AV×List AV) l hl.1 (fun k i t=>qjc l (fun b0_0q2 b0_1q3 b0_2q4=>(some ((.agg [(.sl 8 b0_0q2),(.sl 5 b0_1q3),(.sl 1 b0_2q4)]),(l.length:Int),0))) k i t.1 t.2.1 t.2.2)
    (fun i t nx=>qjb l i t.1 t.2.1 t.2.2 (fun i a b c=>nx i (a,b,c)) (fun b0_0q2 b0_1q3 b0_2q4=>(some ((.agg [(.sl 8 b0_0q2),(.sl 5 b0_1q3),(.sl 1 b0_2q4)]),(l.length:Int),0)))) (fun _ _ _=>rfl)
    (fun _ t=>Plan ⟨t.1,t.2.1,t.2.2⟩) (fun r t=>some (outR (runL (l.length-r.length) ⟨t.1,t.2.1,t.2.2⟩ r))) ?_ ?_ (s.b,s.h,s.z) FU p (qcq (by have:=hl.1;omega))
   · simpa using key
   · intro t nx _;simp[qjb,runL,outR];rfl
   · intro i y r t nx h1 h2 h3 h4 hp h5
     obtain⟨g1,g2⟩:=qby1 h1 h3
     have hy:=hl.2 y (List.mem_of_getElem? h2)
     have h6:(i:Int)<(l.length:Int):=by omega
     unfold qjb
     have ha:=qbz9 hp.wk (chgY y) hy.2
     simp only[h6,decide_true,cond_t,ixB_nat,h2,oB_s,hy.1,h4]
     rw[show qt2 t.1 t.2.1 t.2.2 (gI y.cells 0) (gB y.cells 1) (gI y.cells 2) (gI y.cells 3) (gI y.cells 4) (gI y.cells 5) (gS y.cells 6) (gS y.cells 7) (gI y.cells 8) (gI y.cells 9) (gI y.cells 10) (gS y.cells 11) (gB y.cells 12) (gI y.cells 13) (gI y.cells 14) (gI y.cells 15) (gS y.cells 16)=_ from ha]
     simp only[oB_s]
     rw[g1];unfold runL
     cases he:((qd8 ⟨t.1,t.2.1,t.2.2⟩ (chgY y)).2 != 0)with
     |true=>rfl
     |false=>
      simp only[cond_f]
      have:=h5 ((qd8 ⟨t.1,t.2.1,t.2.2⟩ (chgY y)).1.b,(qd8 ⟨t.1,t.2.1,t.2.2⟩ (chgY y)).1.h,(qd8 ⟨t.1,t.2.1,t.2.2⟩ (chgY y)).1.z) (qbda hp hy.2 (by simpa using he))
      rw[g2]at this
      exact this
theorem qb2c {l:LA}:∀{i:Nat} {s:Sp},Plan s->(∀y,y∈l->qb2b y)->Fits (runL i s l).1:=by
 induction l with
 |nil=>intro i s p _;exact p.f
 |cons y r ih=>
  intro i s p h
  unfold runL
  cases he:((qd8 s (chgY y)).2 != 0)with
  |true=>exact ql3
  |false=>exact ih (qbda p (h y (by simp)).2 (by simpa using he)) fun z hz=>h z (List.mem_cons_of_mem _ hz)
theorem qb2d {s:Sp}(p:Plan s){l:LA}(hl:qbaj l):Fits (runF s l).1:=by
 unfold runF
 cases decide ((l.length:Int)>64)with
 |true=>exact ql3
 |false=>exact qb2c p hl.2
theorem law_ChangeRuns {s:Sp}(f:Fits s)(l:LA)(hl:qbaj l):ql0 s.b s.h s.z l=some true:=by
 rw[q7v];unfold qjw
 rw[q25];unfold qg4
 simp only[qb59,oB_s,qb18,qb10 s.b s.h s.z f.b f.h f.z]
 cases qb4r s.b s.h s.z l
 case true=>rfl
 simp only[cond_f]
 by_cases h0:qbai s.b s.h s.z=0
 · have hp:=(qb32 f).1 h0
   rw[qb8a hp l hl,qb37 hp l hl]
   simp only[h0,bne_self_eq_false,cond_f,oB_s,beq_self_eq_true,cond_t,Bool.and_self]
   rw[show qv1 (gL (outR (runF s l)).1.cells 0) (gL (outR (runF s l)).1.cells 1) (gL (outR (runF s l)).1.cells 2) (gL (outR (runF s l)).1.cells 0) (gL (outR (runF s l)).1.cells 1) (gL (outR (runF s l)).1.cells 2)=some true from qb34 (qb2d hp hl)]
   rfl
 · have:(qbai s.b s.h s.z != 0)=true:=by simpa using h0
   simp only[this,cond_t]
end Go.Proofs.YtoaaphlopbabeaaGreatDoor.Dn
