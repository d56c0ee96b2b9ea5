import Derived.Test.YtoaaphlopbabeaaGreatDoorCALwA
set_option linter.all false
namespace Go.Proofs.YtoaaphlopbabeaaGreatDoor.Dn
open Go Go.Pev
set_option maxRecDepth 4000
theorem qb50 {R:Type}{s:Sp}(hb:qr s.b)(hh:qik s.h)(kr:Bool->List AV->List AV->List AV->Option R):
 qcf s.h s.b s.h s.z kr=kr (lost s.b s.h) s.b s.h s.z:=by
 rw[qif];unfold qbr
 rw[qje];unfold qbv
 rw[qid]
 have key:=qcr (σ:=List AV×List AV×List AV) s.h hh.1 (fun k i t=>qbb s.h (s.h.length:Int) (fun b0_0q1 b0_1q2 b0_2q3=>(fun v4q1 b0_0q2 b0_1q3 b0_2q4=>(kr (decide (v4q1>=0)) b0_0q2 b0_1q3 b0_2q4)) (-1:Int) b0_0q1 b0_1q2 b0_2q3) (fun v4q1 b0_0q2 b0_1q3 b0_2q4=>(kr (decide (v4q1>=0)) b0_0q2 b0_1q3 b0_2q4)) k i t.1 t.2.1 t.2.2)
  (fun i t nx=>qba s.h (s.h.length:Int) i t.1 t.2.1 t.2.2 (fun i a b c=>nx i (a,b,c)) (fun b0_0q1 b0_1q2 b0_2q3=>(fun v4q1 b0_0q2 b0_1q3 b0_2q4=>(kr (decide (v4q1>=0)) b0_0q2 b0_1q3 b0_2q4)) (-1:Int) b0_0q1 b0_1q2 b0_2q3) (fun v4q1 b0_0q2 b0_1q3 b0_2q4=>(kr (decide (v4q1>=0)) b0_0q2 b0_1q3 b0_2q4))) (fun _ _ _=>rfl)
  (fun _ t=>t=(s.b,s.h,s.z)) (fun r _=>kr (lost s.b r) s.b s.h s.z) ?_ ?_ (s.b,s.h,s.z) FU rfl (qc0 (by have:=hh.1;omega))
 · exact key
 · intro t nx ht;subst ht;simp[qba,lost]
 · intro i y r t nx h1 h2 h3 h4 ht h5
   subst ht
   have hy:=hh.2 y (List.mem_of_getElem? h2)
   have h6:(i:Int)<(s.h.length:Int):=by omega
   unfold qba
   simp only[h6,decide_true,cond_t,ixB_nat,h2,oB_s,hy.1,h4]
   rw[qbiu];unfold qos
   rw[qbpn s.b hb,oB_s]
   simp only[h5 _ rfl]
   have e:lost s.b (y::r)=((!blkd s.b (gB y.cells 1) (gI y.cells 2) (gI y.cells 3))||lost s.b r):=rfl
   rw[e]
   have:decide ((i:Int)>=0)=true:=by simp
   cases blkd s.b (gB y.cells 1) (gI y.cells 2) (gI y.cells 3)<;>simp[this]
theorem qb0v {s:Sp}{n:LU}{v:Bool}{hi lo t:Int}(h:(qvp s n v hi lo t).2≠0):(qvp s n v hi lo t).1=sp0:=by
 unfold qvp at*
 cases h1:(qia [mkH n v hi lo t] != 0)
 case true=>rfl
 cases h2:s.h.any (atH n v hi lo)
 case true=>rfl
 cases h3:decide ((s.h.length:Int)>=256)
 case true=>rfl
 cases h4:blkd s.b v hi lo
 case false=>rfl
 cases h5:qlu s.z n
 case false=>rfl
 rw[h1,h2,h3,h4,h5]at h
 exact absurd rfl h
theorem qb0w {s:Sp}{n:LU}{v:Bool}{hi lo:Int}(h:(qn3 s n v hi lo).2.2≠0):(qn3 s n v hi lo).1=sp0:=by
 unfold qn3 at*
 cases hk:idxO (atH n v hi lo) s.h with
 |none=>rfl
 |some k=>rw[hk]at h;exact absurd rfl h
theorem qb0x {s:Sp}{n:LU}{v:Bool}{hi lo:Int}{x:LU}(h:(qvq s n v hi lo x).2≠0):(qvq s n v hi lo x).1=sp0:=by
 unfold qvq at*
 cases hk:idxO (atH n v hi lo) s.h with
 |none=>rfl
 |some k=>
  rw[hk]at h
  simp only at h⊢
  cases h1:qp8 x
  case true=>rfl
  cases h2:s.h.any (atH x v hi lo)
  case true=>rfl
  cases h3:qlu s.z x
  case false=>rfl
  rw[h1,h2,h3]at h
  exact absurd rfl h
theorem qbyv (r:Sp×Int)(h:r.2≠0->r.1=sp0):(bif r.2 != 0 then(some ((.agg [(.sl 8 []),(.sl 5 []),(.sl 1 [])]),r.2):Option (AV×Int))else some ((.agg [(.sl 8 r.1.b),(.sl 5 r.1.h),(.sl 1 r.1.z)]),0))=some (r.1.av,r.2):=by
 obtain⟨x,e⟩:=r
 by_cases he:e=0
 · subst he;rfl
 · have h1:=h he
   simp only at h1
   subst h1
   have:(e != 0)=true:=by simpa using he
   simp only[this,cond_t];rfl
theorem qbq0 {s:Sp}(w:Wk s)(c:Chg)(hc:CFit c):qfb s.b s.h s.z c.k c.v c.hi c.lo c.bits c.bk c.nm c.ow c.vl c.nb c.po c.hn c.hv c.hhi c.hlo c.ht c.tx=some ((qkd s c).1.av,(qkd s c).2):=by
 rw[qbnc];unfold qtg qkd
 rw[qb5x c,oB_s]
 have e1:(!qoj c.k|| !eqC (qbce c) c)= !okC c:=by unfold okC;cases qoj c.k<;>rfl
 change (bif(!qoj c.k|| !eqC (qbce c) c)then _ else _)=_
 rw[e1]
 cases ho:okC c with
 |false=>rfl
 |true=>
  simp only[Bool.not_true,cond_f,cond_t,qb3b w,oB_s,spf0,spf1,spf2,hd_self,Bool.and_self]
  rw[qbde];unfold qmd qbtn
  simp only[hd_self,cond_t,Bool.and_self]
  cases h1:(c.k==1)with
  |true=>
   simp only[cond_t]
   rw[qb26 s.b w.f.b (by have:=w.nb;omega) w.tb c.v c.hi c.lo c.bits c.bk c.nm c.ow c.vl ⟨rfl,hc.u1,hc.u2,hc.n1,hc.n2⟩]
   simp only[oB_s]
   rw[show mkB c.v c.hi c.lo c.bits c.bk c.nm c.ow c.vl=blkC c from rfl]
   cases he:((addF s.b (blkC c)).2 != 0)<;>rfl
  |false=>
  simp only[cond_f]
  cases h2:(c.k==2)with
  |true=>
   simp only[cond_t]
   rw[qb1y s.b w.f.b (by have:=w.nb;omega) w.tb]
   simp only[oB_s]
   rw[qbdc];unfold qmc
   cases he:((qc6 s.b c.v c.hi c.lo c.bits).2 != 0)with
   |true=>
    have:((qc6 s.b c.v c.hi c.lo c.bits).2==0)=false:=by simpa using he
    simp only[this,cond_f,he,cond_t];rfl
   |false=>
    have:((qc6 s.b c.v c.hi c.lo c.bits).2==0)=true:=by simpa using he
    have h0:(qc6 s.b c.v c.hi c.lo c.bits).2=0:=by simpa using he
    simp only[this,cond_t,he,cond_f]
    obtain⟨r1,_,_⟩:=q7c w.f.b w.tb h0
    rw[qb50 (s:=⟨(qc6 s.b c.v c.hi c.lo c.bits).1,s.h,s.z⟩) r1 w.f.h]
    cases hl:lost (qc6 s.b c.v c.hi c.lo c.bits).1 s.h<;>rfl
  |false=>
  simp only[cond_f]
  cases h3:(c.k==3)with
  |true=>
   simp only[cond_t]
   rw[qbyp s.b w.f.b w.tb w.nb ⟨c.v,c.hi,c.lo,c.bits⟩ c.nb c.po c.nm c.ow hc.n1 hc.n2]
   simp only[oB_s]
   cases he:((qp7 s.b ⟨c.v,c.hi,c.lo,c.bits⟩ c.nb c.po c.nm c.ow).2.2 != 0)<;>rfl
  |false=>
  simp only[cond_f]
  cases h4:(c.k==4)with
  |true=>
   simp only[cond_t,qb0s w c.hn c.hv c.hhi c.hlo c.ht hc.u3 hc.u4 hc.n3,oB_s,spf0,spf1,spf2,hd_self]
   exact qbyv (qvp s c.hn c.hv c.hhi c.hlo c.ht) qb0v
  |false=>
  simp only[cond_f]
  cases h5:(c.k==5)with
  |true=>
   simp only[cond_t,qbhv w c.hn c.hv c.hhi c.hlo c.ht hc.n3,oB_s,spf0,spf1,spf2,hd_self]
   exact qbyv ((qn3 s c.hn c.hv c.hhi c.hlo).1,(qn3 s c.hn c.hv c.hhi c.hlo).2.2) qb0w
  |false=>
  have h6:(c.k==6)=true:=by
   unfold okC qoj at ho
   rw[h1,h2,h3,h4,h5]at ho
   cases h:(c.k==6)
   · rw[h]at ho;cases ho
   · rfl
  simp only[cond_f,h6,cond_t,qb2p w c.hn c.hv c.hhi c.hlo c.ht c.tx hc.n3 hc.n4,oB_s,spf0,spf1,spf2,hd_self]
  exact qbyv (qvq s c.hn c.hv c.hhi c.hlo c.tx) qb0x
theorem qbyw {s:Sp}(w:Wk s)(c:Chg)(hc:CFit c):qy8 s.b s.h s.z c.k c.v c.hi c.lo c.bits c.bk c.nm c.ow c.vl c.nb c.po c.hn c.hv c.hhi c.hlo c.ht c.tx=some (
 bif c.k==4 then((qvp s c.hn c.hv c.hhi c.hlo c.ht).1.av,(qvp s c.hn c.hv c.hhi c.hlo c.ht).2)else
 bif c.k==5 then((qn3 s c.hn c.hv c.hhi c.hlo).1.av,(qn3 s c.hn c.hv c.hhi c.hlo).2.2)else
 ((qvq s c.hn c.hv c.hhi c.hlo c.tx).1.av,(qvq s c.hn c.hv c.hhi c.hlo c.tx).2)):=by
 rw[qbj0];unfold qpk
 rw[qbxo s.h w.f.h,oB_s]
 cases h4:(c.k==4)with
 |true=>
  unfold qvp
  rw[show(AV.agg [(.str c.hn),(.bool c.hv),(.int .u64 c.hhi),(.int .u64 c.hlo),(.int .i64 c.ht)])=mkH c.hn c.hv c.hhi c.hlo c.ht from rfl]
  simp only[cond_t,hd_self,qbpm _ (qbxp (qbid hc.u3 hc.u4 hc.n3)),oB_s,qsz,qbhu s.b w.f.b _ _ _ hc.u3 hc.u4,qbqx s.z w.f.z _ hc.n3,qbko s.h w.f.h (by have:=w.nh;omega) c.hn c.hv c.hhi c.hlo c.ht hc.n3]
  cases(qia [mkH c.hn c.hv c.hhi c.hlo c.ht] != 0)
  case true=>rfl
  cases s.h.any (atH c.hn c.hv c.hhi c.hlo)
  case true=>rfl
  cases decide ((s.h.length:Int)>=256)
  case true=>rfl
  cases blkd s.b c.hv c.hhi c.hlo
  case false=>rfl
  cases qlu s.z c.hn<;>rfl
 |false=>
  simp only[cond_f]
  unfold qn3 qvq idxI
  cases hk:idxO (atH c.hn c.hv c.hhi c.hlo) s.h with
  |none=>cases(c.k==5)<;>rfl
  |some k=>
   obtain⟨y,hy,hf⟩:=qok s.h k hk
   have hat:=List.find?_some hf
   obtain⟨e1,e2,e3,e4⟩:=q24.1 hat
   have hkl:=(List.getElem?_eq_some_iff.1 hy).1
   have hyf:=w.f.h.2 y (List.mem_of_getElem? hy)
   have wo:=w.out k
   have hneg:decide ((k:Int)<0)=false:=decide_eq_false (by omega)
   simp only[hneg,cond_f,qbvw s.h w.f.h (by have:=w.nh;omega) k,oB_s,qbvx hy]
   rw[show s.h.take k++s.h.drop (k+1)=outH s.h k from rfl]
   cases(c.k==5)with
   |true=>rfl
   |false=>
    simp only[cond_f]
    have hJ:∀kn:Bool->Option (AV×Int),qsr (k:Int) (outH s.h k) s.b s.h s.z c.k c.v c.hi c.lo c.bits c.bk c.nm c.ow c.vl c.nb c.po c.hn c.hv c.hhi c.hlo c.ht c.tx kn=kn (qp8 c.tx):=fun kn=>by
     rw[q84];unfold qkt qp8
     rw[qbhr _ hc.n4,oB_s]
     cases ho:qbd c.tx with
     |false=>rfl
     |true=>
      simp only[Bool.not_true,cond_f,Bool.false_or]
      exact qbxl ho kn
    rw[hJ]
    cases qp8 c.tx with
    |true=>rfl
    |false=>
     simp only[cond_f,qbxo s.h w.f.h,oB_s,qsz,qbqx s.z w.f.z _ hc.n4,ixB_nat,hy,hyf.1,cond_t,qbko (outH s.h k) wo.f.h (by have:=wo.nh;simp only at this;omega) c.tx c.hv c.hhi c.hlo (gI y.cells 4) hc.n4]
     cases s.h.any (atH c.tx c.hv c.hhi c.hlo)
     case true=>rfl
     cases qlu s.z c.tx<;>rfl
theorem qb51 (l:LA)(hl:qr l){s:Sp}(w:Wk s):qst l s.b s.h s.z (fun(_:Unit)=>(some ((.agg [(.sl 8 l),(.sl 5 s.h),(.sl 1 s.z)]),0))) FU 0=some (bif lost l s.h then(sp0.av,25)else((Sp.mk l s.h s.z).av,0)):=by
 rw[q85,qeb s.h w.f.h.1 (qg0 l s.b s.h s.z (fun(_:Unit)=>(some ((.agg [(.sl 8 l),(.sl 5 s.h),(.sl 1 s.z)]),0)))) (fun i nx=>qgz l i s.b s.h s.z nx (fun(_:Unit)=>(some ((.agg [(.sl 8 l),(.sl 5 s.h),(.sl 1 s.z)]),0)))) (fun _ _=>rfl) (fun r=>some (bif lost l r then(sp0.av,25)else((Sp.mk l s.h s.z).av,0)))]
 · intro nx;simp[qgz,lost];rfl
 · intro i y r nx h1 h2 h3 h4 h5
   have hy:=w.f.h.2 y (List.mem_of_getElem? h2)
   have h6:(i:Int)<(s.h.length:Int):=by omega
   unfold qgz
   simp only[h6,decide_true,cond_t,ixB_nat,h2,oB_s,hy.1,h4,h5,qbhu l hl _ _ _ hy.2.1 hy.2.2.1]
   have e:lost l (y::r)=((!blkd l (gB y.cells 1) (gI y.cells 2) (gI y.cells 3))||lost l r):=rfl
   rw[e]
   cases blkd l (gB y.cells 1) (gI y.cells 2) (gI y.cells 3)<;>rfl
theorem qbyx {s:Sp}(w:Wk s)(c:Chg)(hc:CFit c):qy9 s.b s.h s.z c.k c.v c.hi c.lo c.bits c.bk c.nm c.ow c.vl c.nb c.po c.hn c.hv c.hhi c.hlo c.ht c.tx=some ((qkd s c).1.av,(qkd s c).2):=by
 rw[qbj1];unfold qpl
 have hJ:∀kn:Bool->Option (AV×Int),qud s.b s.h s.z c.k c.v c.hi c.lo c.bits c.bk c.nm c.ow c.vl c.nb c.po c.hn c.hv c.hhi c.hlo c.ht c.tx kn=kn (!okC c):=fun kn=>by
  rw[qba4];unfold qls okC
  by_cases h1:c.k<1
  · have:qoj c.k=false:=by
     unfold qoj
     simp only[Bool.or_eq_false_iff,beq_eq_false_iff_ne]
     omega
    rw[this];simp[h1]
  · by_cases h2:c.k>6
    · have:qoj c.k=false:=by
       unfold qoj
       simp only[Bool.or_eq_false_iff,beq_eq_false_iff_ne]
       omega
      rw[this];simp[h1,h2]
    · have:qoj c.k=true:=by
       unfold qoj
       simp only[Bool.or_eq_true,beq_iff_eq]
       omega
      rw[this,qb5y c]
      simp only[h1,h2,decide_false,cond_f,oB_s,Bool.true_and]
      rfl
 rw[hJ]
 unfold qkd
 cases ho:okC c with
 |false=>rfl
 |true=>
  simp only[Bool.not_true,cond_f,cond_t]
  unfold qbtn
  cases h1:(c.k==1)with
  |true=>
   simp only[cond_t]
   rw[qbvg s.b w.f.b (by have:=w.nb;omega) c.v c.hi c.lo c.bits c.bk c.nm c.ow c.vl ⟨rfl,hc.u1,hc.u2,hc.n1,hc.n2⟩]
   simp only[oB_s]
   rw[show mkB c.v c.hi c.lo c.bits c.bk c.nm c.ow c.vl=blkC c from rfl]
   cases he:((addF s.b (blkC c)).2 != 0)<;>rfl
  |false=>
  simp only[cond_f]
  cases h2:(c.k==2)with
  |true=>
   simp only[cond_t]
   rw[qb0e s.b w.f.b (by have:=w.nb;omega)]
   simp only[oB_s]
   cases he:((qc6 s.b c.v c.hi c.lo c.bits).2 != 0)with
   |true=>rfl
   |false=>
    have h0:(qc6 s.b c.v c.hi c.lo c.bits).2=0:=by simpa using he
    obtain⟨r1,_,_⟩:=q7c w.f.b w.tb h0
    simp only[cond_f]
    rw[qb51 _ r1 w]
    cases hl:lost (qc6 s.b c.v c.hi c.lo c.bits).1 s.h<;>rfl
  |false=>
  simp only[cond_f]
  cases h3:(c.k==3)with
  |true=>
   simp only[cond_t]
   rw[qbwo s.b w.f.b w.tb w.nb ⟨c.v,c.hi,c.lo,c.bits⟩ c.nb c.po c.nm c.ow hc.n1 hc.n2]
   simp only[oB_s]
   cases he:((qp7 s.b ⟨c.v,c.hi,c.lo,c.bits⟩ c.nb c.po c.nm c.ow).2.2 != 0)<;>rfl
  |false=>
  simp only[cond_f]
  rw[qbyw w c hc,oB_s]
  cases(c.k==4)
  case true=>rfl
  cases(c.k==5)<;>rfl
def qbpp:Ty:=.st [.str,qbhi,.int .i64]
def qbyy:Ty:=.str
theorem hstsFit_of {l:LA}(h:l.length<=9223372036854775807/\∀y,y∈l->fitC qbpp.lts y.cells=true/\qbpp.good y.cells 0):qik l:=
 ⟨h.1,fun y hy=>by
  obtain⟨h1,h2⟩:=h.2 y hy
  simp only[qbpp,qbhi,Ty.good.goods,Ty.good,Ty.size,Ty.sizes,Nat.zero_add,Nat.reduceAdd,and_true,true_and]at h2
  exact⟨h1,h2.2.1.1,h2.2.1.2,h2.1⟩⟩
theorem zonsFit_of {l:LA}(h:l.length<=9223372036854775807/\∀y,y∈l->fitC qbyy.lts y.cells=true/\qbyy.good y.cells 0):q26 l:=
 ⟨h.1,fun y hy=>by
  obtain⟨h1,h2⟩:=h.2 y hy
  simp only[qbyy,Ty.good]at h2
  exact⟨h1,h2⟩⟩
def qb0y:List Ty:=[.int .i64,qbo2,.int .i64,.int .i64,qbpp,.str]
theorem cfit_of {cs:LA}(h:Ty.good.goods qb0y cs 0):CFit ⟨gI cs 0,gB cs 1,gI cs 2,gI cs 3,gI cs 4,gI cs 5,gS cs 6,gS cs 7,gI cs 8,gI cs 9,gI cs 10,gS cs 11,gB cs 12,gI cs 13,gI cs 14,gI cs 15,gS cs 16⟩:=by
 simp only[qb0y,qbo2,qbpp,qbu8,qbhi,Ty.good.goods,Ty.good,Ty.size,Ty.sizes,Nat.zero_add,Nat.reduceAdd,and_true,true_and]at h
 obtain⟨_,⟨⟨⟨h2,h3⟩,_⟩,_,h6,h7,_⟩,_,_,⟨h11,⟨h13,h14⟩,_⟩,h16⟩:=h
 exact⟨h2,h3,h13,h14,h6,h7,h11,h16⟩
theorem wk0:Wk sp0:=⟨⟨⟨by decide,fun y hy=>by cases hy⟩,⟨by decide,fun y hy=>by cases hy⟩,⟨by decide,fun y hy=>by cases hy⟩⟩,by decide,fun j y h=>(by cases h),by decide,List.Pairwise.nil,by decide⟩
def exC1:Chg:=⟨1,false,0,167772160,8,1,[110,101,116],[],0,0,0,[],false,0,0,0,[]⟩
def exC2:Chg:=⟨2,false,0,167772160,8,0,[],[],0,0,0,[],false,0,0,0,[]⟩
theorem qb6m:CFit exC1:=⟨⟨by decide,by decide⟩,⟨by decide,by decide⟩,⟨by decide,by decide⟩,⟨by decide,by decide⟩,by decide,by decide,by decide,by decide⟩
theorem qb6n:CFit exC2:=⟨⟨by decide,by decide⟩,⟨by decide,by decide⟩,⟨by decide,by decide⟩,⟨by decide,by decide⟩,by decide,by decide,by decide,by decide⟩
theorem exA1:qkd sp0 exC1=(⟨[blkC exC1],[],[]⟩,0):=by kernel_rfl
theorem exA2:qkd sp0 exC2=(sp0,11):=by kernel_rfl
theorem exP1:qfb [] [] [] 1 false 0 167772160 8 1 [110,101,116] [] 0 0 0 [] false 0 0 0 []=some ((Sp.mk [blkC exC1] [] []).av,0):=by
 have:=qbq0 wk0 exC1 qb6m
 rw[exA1]at this;exact this
theorem exP2:qfb [] [] [] 2 false 0 167772160 8 0 [] [] 0 0 0 [] false 0 0 0 []=some (sp0.av,11):=by
 have:=qbq0 wk0 exC2 qb6n
 rw[exA2]at this;exact this
theorem exI1:qti [] [] [] 1 false 0 167772160 8 1 [110,101,116] [] 0 0 0 [] false 0 0 0 []=some (exC2.av,0):=by
 rw[qbjc];unfold qoz
 rw[exP1];rfl
theorem qb0z:qtj=some true:=by
 rw[qbjd];unfold qo0
 have ht:qwy 8=some (.agg [(.bool false),(.int .u64 0),(.int .u64 (167772160:Int)),(.int .i64 8)]):=by
  rw[qbmo];rfl
 rw[ht]
 simp only[oB_s]
 rw[show qfb [] [] [] 1 (gB (AV.agg [(.bool false),(.int .u64 0),(.int .u64 (167772160:Int)),(.int .i64 8)]).cells 0) (gI (AV.agg [(.bool false),(.int .u64 0),(.int .u64 (167772160:Int)),(.int .i64 8)]).cells 1) (gI (AV.agg [(.bool false),(.int .u64 0),(.int .u64 (167772160:Int)),(.int .i64 8)]).cells 2) (gI (AV.agg [(.bool false),(.int .u64 0),(.int .u64 (167772160:Int)),(.int .i64 8)]).cells 3) 1 [110,101,116] [] 0 0 0 [] false 0 0 0 []=some ((Sp.mk [blkC exC1] [] []).av,0)from exP1]
 rw[show qfb [] [] [] 2 (gB (AV.agg [(.bool false),(.int .u64 0),(.int .u64 (167772160:Int)),(.int .i64 8)]).cells 0) (gI (AV.agg [(.bool false),(.int .u64 0),(.int .u64 (167772160:Int)),(.int .i64 8)]).cells 1) (gI (AV.agg [(.bool false),(.int .u64 0),(.int .u64 (167772160:Int)),(.int .i64 8)]).cells 2) (gI (AV.agg [(.bool false),(.int .u64 0),(.int .u64 (167772160:Int)),(.int .i64 8)]).cells 3) 0 [] [] 0 0 0 [] false 0 0 0 []=some (sp0.av,11)from exP2]
 rw[show qti [] [] [] 1 (gB (AV.agg [(.bool false),(.int .u64 0),(.int .u64 (167772160:Int)),(.int .i64 8)]).cells 0) (gI (AV.agg [(.bool false),(.int .u64 0),(.int .u64 (167772160:Int)),(.int .i64 8)]).cells 1) (gI (AV.agg [(.bool false),(.int .u64 0),(.int .u64 (167772160:Int)),(.int .i64 8)]).cells 2) (gI (AV.agg [(.bool false),(.int .u64 0),(.int .u64 (167772160:Int)),(.int .i64 8)]).cells 3) 1 [110,101,116] [] 0 0 0 [] false 0 0 0 []=some (exC2.av,0)from exI1]
 rfl
def qb3c (b h z l:LA):Bool:=(((decide ((b.length:Int)>(40:Int)))||(decide ((h.length:Int)>(40:Int))))||(decide ((z.length:Int)>(40:Int))))||(decide ((l.length:Int)>(68:Int)))
theorem qb4s (b h z l:LA):qwx b h z l=some (qb3c b h z l):=by rw[qbej];rfl
theorem qb52 (l:LA)(hl:qr l)(a b c d:LA)(kx:Unit->Option Bool):que (l.length:Int) l a b l c d kx FU 0=kx ():=by
 rw[qba6,qeb l hl.1 (qh4 (l.length:Int) l a b l c d kx) (fun i nx=>qh3 (l.length:Int) i l a b l c d nx kx) (fun _ _=>rfl) (fun r=>kx ())]
 · intro nx;simp[qh3]
 · intro i y r nx h1 h2 h3 h4 h5
   have hy:=hl.2 y (List.mem_of_getElem? h2)
   have h6:(i:Int)<(l.length:Int):=by omega
   unfold qh3
   simp only[h6,decide_true,cond_t,ixB_nat,h2,oB_s,hy.1,h4,h5,beq_self_eq_true,Bool.and_self,Bool.not_true,cond_f]
theorem qb53 (l:LA)(hl:qik l)(a b c d:LA)(kx:Unit->Option Bool):quf (l.length:Int) a l b c l d kx FU 0=kx ():=by
 rw[qba7,qeb l hl.1 (qh6 (l.length:Int) a l b c l d kx) (fun i nx=>qh5 (l.length:Int) i a l b c l d nx kx) (fun _ _=>rfl) (fun r=>kx ())]
 · intro nx;simp[qh5]
 · intro i y r nx h1 h2 h3 h4 h5
   have hy:=hl.2 y (List.mem_of_getElem? h2)
   have h6:(i:Int)<(l.length:Int):=by omega
   unfold qh5
   simp only[h6,decide_true,cond_t,ixB_nat,h2,oB_s,hy.1,h4,h5,beq_self_eq_true,Bool.and_self,Bool.not_true,cond_f]
theorem qb54 (l:LA)(hl:q26 l)(a b c d:LA)(kx:Unit->Option Bool):qug (l.length:Int) a b l c d l kx FU 0=kx ():=by
 rw[qba8,qeb l hl.1 (qh8 (l.length:Int) a b l c d l kx) (fun i nx=>qh7 (l.length:Int) i a b l c d l nx kx) (fun _ _=>rfl) (fun r=>kx ())]
 · intro nx;simp[qh7]
 · intro i y r nx h1 h2 h3 h4 h5
   have hy:=hl.2 y (List.mem_of_getElem? h2)
   have h6:(i:Int)<(l.length:Int):=by omega
   unfold qh7
   simp only[h6,decide_true,cond_t,ixB_nat,h2,oB_s,hy.1,h4,h5,beq_self_eq_true,Bool.and_self,Bool.not_true,cond_f]
theorem qb2q {s:Sp}(f:Fits s):qvj s.b s.h s.z s.b s.h s.z=some true:=by
 rw[qbl1];unfold qrv
 simp only[bne_self_eq_false,Bool.or_self,cond_f]
 rw[qb52 s.b f.b,qb53 s.h f.h,qb54 s.z f.z]
theorem qbvy {l:LA}(hl:qik l)(hn:l.length<=100000){y:AV}(hy:qbpk y):qik (insH y l):=⟨by rw[qbvu];omega,fun z hz=>by
 rcases qbvv.1 hz with rfl|h
 · exact hy
 · exact hl.2 z h⟩
theorem qbxq {l:LA}(hl:qr l)(hn:l.length<=100000){b:AV}(hb:qp6 b):qr (addF l b).1:=by
 rcases qb2c (l:=l) (b:=b)with h|h<;>rw[h]
 · exact⟨by simp,fun y hy=>by cases hy⟩
 · exact qb17 hl hn hb
theorem qn4:Fits sp0:=wk0.f
theorem qbyz {s:Sp}(w:Wk s){c:Chg}(hc:CFit c):Fits (qkd s c).1:=by
 unfold qkd
 cases okC c with
 |false=>exact qn4
 |true=>
 simp only[cond_t]
 unfold qbtn
 cases(c.k==1)with
 |true=>
  simp only[cond_t]
  cases((addF s.b (blkC c)).2 != 0)with
  |true=>exact qn4
  |false=>exact⟨qbxq w.f.b (by have:=w.nb;omega) ⟨rfl,hc.u1,hc.u2,hc.n1,hc.n2⟩,w.f.h,w.f.z⟩
 |false=>
 simp only[cond_f]
 cases(c.k==2)with
 |true=>
  simp only[cond_t]
  cases he:((qc6 s.b c.v c.hi c.lo c.bits).2 != 0)with
  |true=>exact qn4
  |false=>
   have h0:(qc6 s.b c.v c.hi c.lo c.bits).2=0:=by simpa using he
   simp only[cond_f]
   cases lost (qc6 s.b c.v c.hi c.lo c.bits).1 s.h with
   |true=>exact qn4
   |false=>exact⟨(q7c w.f.b w.tb h0).1,w.f.h,w.f.z⟩
 |false=>
 simp only[cond_f]
 cases(c.k==3)with
 |true=>
  simp only[cond_t]
  cases((qp7 s.b ⟨c.v,c.hi,c.lo,c.bits⟩ c.nb c.po c.nm c.ow).2.2 != 0)with
  |true=>exact qn4
  |false=>
   refine⟨?_,w.f.h,w.f.z⟩
   show qr (qp7 s.b ⟨c.v,c.hi,c.lo,c.bits⟩ c.nb c.po c.nm c.ow).1
   have nil:qr []:=qn4.b
   unfold qp7
   rcases q4w (qbb8 w.f.b w.tb) ⟨c.v,c.hi,c.lo,c.bits⟩ c.nb c.po with⟨e,he,hne⟩|⟨q,hq,hch⟩
   · rw[he]
     have:(e != 0)=true:=by simpa using hne
     simp only[this,cond_t];exact nil
   · rw[hq]
     obtain⟨w0,w1,w2,w3⟩:=av_w q
     simp only[bne_self_eq_false,cond_f,w0,w1,w2,w3]
     cases(addF s.b (mkB q.v q.hi q.lo q.bits 2 c.nm c.ow 0)).2 != 0 with
     |true=>exact nil
     |false=>exact qbxq w.f.b (by have:=w.nb;omega) (qbqu hch.good hc.n1 hc.n2)
 |false=>
 simp only[cond_f]
 cases(c.k==4)with
 |true=>
  simp only[cond_t]
  unfold qvp
  cases(qia [mkH c.hn c.hv c.hhi c.hlo c.ht] != 0)
  case true=>exact qn4
  cases s.h.any (atH c.hn c.hv c.hhi c.hlo)
  case true=>exact qn4
  cases decide ((s.h.length:Int)>=256)
  case true=>exact qn4
  cases blkd s.b c.hv c.hhi c.hlo
  case false=>exact qn4
  cases qlu s.z c.hn
  case false=>exact qn4
  exact⟨w.f.b,qbvy w.f.h (by have:=w.nh;omega) (qbid hc.u3 hc.u4 hc.n3),w.f.z⟩
 |false=>
 simp only[cond_f]
 cases(c.k==5)with
 |true=>
  simp only[cond_t]
  unfold qn3
  cases idxO (atH c.hn c.hv c.hhi c.hlo) s.h with
  |none=>exact qn4
  |some k=>exact(w.out k).f
 |false=>
  simp only[cond_f]
  unfold qvq
  cases idxO (atH c.hn c.hv c.hhi c.hlo) s.h with
  |none=>exact qn4
  |some k=>
   simp only
   cases qp8 c.tx
   case true=>exact qn4
   cases s.h.any (atH c.tx c.hv c.hhi c.hlo)
   case true=>exact qn4
   cases qlu s.z c.tx
   case false=>exact qn4
   have wo:=w.out k
   exact⟨w.f.b,qbvy wo.f.h (Nat.le_trans wo.nh (by decide)) (qbid hc.u3 hc.u4 hc.n4),w.f.z⟩
theorem law_ChangeApplies {s:Sp}(f:Fits s)(c:Chg)(hc:CFit c):qit s.b s.h s.z c.k c.v c.hi c.lo c.bits c.bk c.nm c.ow c.vl c.nb c.po c.hn c.hv c.hhi c.hlo c.ht c.tx=some true:=by
 rw[q2f];unfold qg1
 rw[qzb];unfold qe2
 simp only[qb4s,oB_s,qb0z,qb0q s.b s.h s.z f.b f.h f.z]
 cases qb3c s.b s.h s.z []
 case true=>rfl
 simp only[cond_f]
 by_cases h0:q9r s.b s.h s.z=0
 · have hp:=(qb2o f).1 h0
   rw[qbq0 hp.wk c hc,qbyx hp.wk c hc]
   simp only[h0,bne_self_eq_false,cond_f,oB_s,beq_self_eq_true,cond_t]
   rw[show qvj (gL (qkd s c).1.av.cells 0) (gL (qkd s c).1.av.cells 1) (gL (qkd s c).1.av.cells 2) (gL (qkd s c).1.av.cells 0) (gL (qkd s c).1.av.cells 1) (gL (qkd s c).1.av.cells 2)=some true from qb2q (qbyz hp.wk hc)]
   rfl
 · have:(q9r s.b s.h s.z != 0)=true:=by simpa using h0
   simp only[this,cond_t]
end Go.Proofs.YtoaaphlopbabeaaGreatDoor.Dn
