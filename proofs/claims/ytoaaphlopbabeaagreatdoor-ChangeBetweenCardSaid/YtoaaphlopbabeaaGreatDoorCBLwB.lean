import Derived.Test.YtoaaphlopbabeaaGreatDoorCBLwA
set_option linter.all false
namespace Go.Proofs.YtoaaphlopbabeaaGreatDoor.Dn
open Go Go.Pev
open Go.IntKind (i64 u64)
set_option maxRecDepth 4000
theorem qbkm {n:LU}{v:Bool}{hi lo t:Int}:∀{l:LA},l.Pairwise ltH->l.any (atH n v hi lo)=false->(insH (mkH n v hi lo t) l).Pairwise ltH
 |[],_,_=>by simp[insH]
 |y::r,hp,ha=>by
  rw[List.pairwise_cons]at hp
  rw[List.any_cons,Bool.or_eq_false_iff]at ha
  rw[qzw]
  by_cases hc:cmpH (mkH n v hi lo t) y<0
  · simp only[hc,zdt,zct]
    have hx:=q39.2 hc
    exact List.pairwise_cons.2 ⟨fun z hz=>by
     rcases List.mem_cons.1 hz with rfl|hz
     · exact hx
     · exact qzv hx (hp.1 z hz),List.pairwise_cons.2 hp⟩
  · simp only[hc,zdf,zcf]
    have hne:¬qe3 (gS y.cells 0) (gB y.cells 1) (gI y.cells 2) (gI y.cells 3) n v hi lo=0:=fun h=>by rw[qwm.2 h]at ha;cases ha.1
    have hne':¬cmpH (mkH n v hi lo t) y=0:=fun h=>hne ((q5m _ _ _ _ _ _ _ _).2.2 h)
    have hx:ltH y (mkH n v hi lo t):=qbrw.1 (by omega)
    exact List.pairwise_cons.2 ⟨fun z hz=>by
     rcases qr7.1 hz with rfl|hz
     · exact hx
     · exact hp.1 z hz,qbkm hp.2 ha.2⟩
theorem qb3t {y:AV}(h:qfg [y]=0):qpe y=0:=by
 unfold qfg at h
 have e:¬(([y]:List AV).length:Int)>256:=by simp
 simp only[e,zdf,zcf]at h
 exact(qbrx.1 h).1 y (by simp)
theorem qb3u {y:AV}(h:qpe y=0):qfg [y]=0:=by
 unfold qfg
 have e:¬(([y]:List AV).length:Int)>256:=by simp
 simp only[e,zdf,zcf]
 exact qbrx.2 ⟨fun z hz=>by simp at hz;subst hz;exact h,List.pairwise_singleton _ _,fun x hx=>by cases hx⟩
theorem qb5t {n m:LU}{v:Bool}{hi lo t:Int}(h:qwn n v hi lo t=0)(hm:qsn m=false):qwn m v hi lo t=0:=by
 unfold qwn at*
 rw[hm]
 cases h1:qsn n with
 |true=>rw[h1]at h;cases h
 |false=>rw[h1]at h;exact h
theorem qb9e {l:LA}{b:AV}(h:(addF l b).2=0):l.length<512:=by
 unfold addF at h
 cases hp:qm7 b with
 |false=>simp[hp]at h
 |true=>
 cases hm:mayB b with
 |false=>simp[hp,hm]at h
 |true=>
 cases ha:l.any (atP (gB b.cells 0) (gI b.cells 1) (gI b.cells 2) (gI b.cells 3))with
 |true=>simp[hp,hm,ha]at h
 |false=>
 cases hbr:(l.any (qbw b)||occF l (gB b.cells 0) (gI b.cells 1) (gI b.cells 2) (gI b.cells 3))with
 |true=>simp only[hp,hm,ha,hbr,znt,zcf,zct]at h;cases h
 |false=>
 rw[hp,hm,ha,hbr]at h
 simp only[znt,zcf]at h
 by_cases h5:(l.length:Int)>=512
 · simp[h5]at h
 · omega
theorem qbyg {s:Sp}(p:Plan s){b:AV}(hb:qg7 b)(h:(addF s.b b).2=0):Plan ⟨(addF s.b b).1,s.h,s.z⟩:=by
 obtain⟨h1,h2,_⟩:=qb5d p.f.b p.tb hb h
 have hlt:=qb9e h
 have hf:qn (insF b s.b):=qbx2 p.f.b (by omega) hb
 rw[h1]
 exact⟨⟨hf,p.f.h,p.f.z⟩,by show(insF b s.b).length<=512;rw[q7g];omega,h2,p.nh,p.fh,p.ph,p.nz,p.cz,fun y hy=>qb5r p.f.b p.tb hf h2 (p.f.h.2 y hy).2.1 (p.f.h.2 y hy).2.2.1 (p.bl y hy),p.zo⟩
theorem qb3v {l:LA}{p:Pq}{bits po:Int}{nm ow:LU}(hg:ql1 l)(h:(qnn l p bits po nm ow).2.2=0):∃q:Pq,q.good/\(qnn l p bits po nm ow).2.1=q.av/\(addF l (mkB q.v q.hi q.lo q.bits 2 nm ow 0)).2=0/\(qnn l p bits po nm ow).1=(addF l (mkB q.v q.hi q.lo q.bits 2 nm ow 0)).1:=by
 unfold qnn at*
 rcases q7k hg p bits po with⟨e,he,hne⟩|⟨q,hq,hch⟩
 · rw[he]at h
   have:(e != 0)=true:=by simpa using hne
   simp only[this,zct]at h
   exact absurd h hne
 · refine⟨q,hch.good,?_⟩
   rw[hq]at h⊢
   obtain⟨w0,w1,w2,w3⟩:=av_w q
   simp only[bne_self_eq_false,zcf,w0,w1,w2,w3]at h⊢
   cases he:(addF l (mkB q.v q.hi q.lo q.bits 2 nm ow 0)).2 != 0 with
   |true=>
    rw[he]at h;simp only[zct]at h
    have:(addF l (mkB q.v q.hi q.lo q.bits 2 nm ow 0)).2≠0:=by simpa using he
    exact absurd h this
   |false=>exact⟨rfl,by simpa using he,rfl⟩
theorem qb5u {b h:LA}(e:lost b h=false):∀y,y∈h->blkd b (gB y.cells 1) (gI y.cells 2) (gI y.cells 3)=true:=fun y hy=>by
 have:=List.any_eq_false.1 e y hy
 simpa using this
theorem qb5v {b h:LA}(e:∀y,y∈h->blkd b (gB y.cells 1) (gI y.cells 2) (gI y.cells 3)=true):lost b h=false:=List.any_eq_false.2 fun y hy=>by simp[e y hy]
theorem q1f {s:Sp}(p:Plan s){c:Chg}(hc:CFit c)(h:(qc3 s c).2=0):Plan (qc3 s c).1:=by
 have w:=p.wk
 have hfits:=qb1r w hc
 unfold qc3 at*
 cases ho:okC c with
 |false=>rw[ho]at h;cases h
 |true=>
 rw[ho]at h hfits
 simp only[zct]at*
 unfold qbv5 at*
 cases h1:(c.k==1)with
 |true=>
  rw[h1]at h hfits
  simp only[zct]at*
  cases he:((addF s.b (blkC c)).2 != 0)with
  |true=>rw[he]at h;exact absurd h (by simpa[qk5]using he)
  |false=>exact qbyg p ⟨rfl,hc.u1,hc.u2,hc.n1,hc.n2⟩ (by simpa using he)
 |false=>
 rw[h1]at h hfits
 simp only[zcf]at*
 cases h2:(c.k==2)with
 |true=>
  rw[h2]at h hfits
  simp only[zct]at*
  cases he:((qce s.b c.v c.hi c.lo c.bits).2 != 0)with
  |true=>rw[he]at h;exact absurd h (by simpa[qk5]using he)
  |false=>
   have h0:(qce s.b c.v c.hi c.lo c.bits).2=0:=by simpa using he
   rw[he]at h hfits
   simp only[zcf]at*
   cases hl:lost (qce s.b c.v c.hi c.lo c.bits).1 s.h with
   |true=>rw[hl]at h;cases h
   |false=>
    obtain⟨r1,r2,r3⟩:=qban p.f.b p.tb h0
    exact⟨⟨r1,p.f.h,p.f.z⟩,by have:=p.nb;show(qce s.b c.v c.hi c.lo c.bits).1.length<=512;omega,r2,p.nh,p.fh,p.ph,p.nz,p.cz,qb5u hl,p.zo⟩
 |false=>
 rw[h2]at h hfits
 simp only[zcf]at*
 cases h3:(c.k==3)with
 |true=>
  rw[h3]at h hfits
  simp only[zct]at*
  cases he:((qnn s.b ⟨c.v,c.hi,c.lo,c.bits⟩ c.nb c.po c.nm c.ow).2.2 != 0)with
  |true=>rw[he]at h;exact absurd h (by simpa[qk5]using he)
  |false=>
   obtain⟨q,q1,_,q3,q4⟩:=qb3v (qf4 p.f.b p.tb) (show(qnn s.b ⟨c.v,c.hi,c.lo,c.bits⟩ c.nb c.po c.nm c.ow).2.2=0 by simpa using he)
   simp only[zcf]
   rw[q4]
   exact qbyg p (qbs2 q1 hc.n1 hc.n2) q3
 |false=>
 rw[h3]at h hfits
 simp only[zcf]at*
 cases h4:(c.k==4)with
 |true=>
  rw[h4]at h hfits
  simp only[zct]at*
  unfold qyo at*
  cases e1:(qfg [mkH c.hn c.hv c.hhi c.hlo c.ht] != 0)
  case true=>rw[e1]at h;exact absurd h (by simpa[qk5]using e1)
  rw[e1]at h hfits
  cases e2:s.h.any (atH c.hn c.hv c.hhi c.hlo)
  case true=>rw[e2]at h;cases h
  rw[e2]at h hfits
  cases e3:decide ((s.h.length:Int)>=256)
  case true=>rw[e3]at h;cases h
  rw[e3]at h hfits
  cases e4:blkd s.b c.hv c.hhi c.hlo
  case false=>rw[e4]at h;cases h
  rw[e4]at h hfits
  cases e5:qge s.z c.hn
  case false=>rw[e5]at h;cases h
  rw[e5]at h hfits
  have hf:=qb3t (show qfg [mkH c.hn c.hv c.hhi c.hlo c.ht]=0 by simpa using e1)
  have e3':=of_decide_eq_false e3
  refine⟨hfits,p.nb,p.tb,?_,?_,qbkm p.ph e2,p.nz,p.cz,?_,?_⟩
  · show(insH (mkH c.hn c.hv c.hhi c.hlo c.ht) s.h).length<=256
    rw[q7l];omega
  · intro y hy
    rcases qr7.1 hy with rfl|hy
    · exact hf
    · exact p.fh y hy
  · intro y hy
    rcases qr7.1 hy with rfl|hy
    · exact e4
    · exact p.bl y hy
  · intro y hy
    rcases qr7.1 hy with rfl|hy
    · exact e5
    · exact p.zo y hy
 |false=>
 rw[h4]at h hfits
 simp only[zcf]at*
 cases h5:(c.k==5)with
 |true=>
  rw[h5]at h hfits
  simp only[zct]at*
  unfold qpf at*
  cases hk:idxO (atH c.hn c.hv c.hhi c.hlo) s.h with
  |none=>rw[hk]at h;cases h
  |some k=>
   rw[hk]at hfits
   exact⟨hfits,p.nb,p.tb,Nat.le_trans (q5x s.h k).length_le p.nh,fun y hy=>p.fh y (q2w hy),p.ph.sublist (q5x s.h k),p.nz,p.cz,fun y hy=>p.bl y (q2w hy),fun y hy=>p.zo y (q2w hy)⟩
 |false=>
  rw[h5]at h hfits
  simp only[zcf]at*
  unfold q3c at*
  cases hk:idxO (atH c.hn c.hv c.hhi c.hlo) s.h with
  |none=>rw[hk]at h;cases h
  |some k=>
   rw[hk]at h hfits
   simp only at*
   obtain⟨y,hy,hfy⟩:=qpa s.h k hk
   have hat:=List.find?_some hfy
   obtain⟨a1,a2,a3,a4⟩:=q2u.1 hat
   have hym:=zmg hy
   have hkl:=(zge.1 hy).1
   rw[qbye hy]at h hfits⊢
   cases e1:qsn c.tx
   case true=>rw[e1]at h;cases h
   rw[e1]at h hfits
   cases e2:s.h.any (atH c.tx c.hv c.hhi c.hlo)
   case true=>rw[e2]at h;cases h
   rw[e2]at h hfits
   cases e3:qge s.z c.tx
   case false=>rw[e3]at h;cases h
   rw[e3]at h hfits
   have e2':(outH s.h k).any (atH c.tx c.hv c.hhi c.hlo)=false:=by
    rw[qb0b hy]at e2;exact(Bool.or_eq_false_iff.1 e2).1
   have hfo:qwn c.hn c.hv c.hhi c.hlo (gI y.cells 4)=0:=by
    have:=p.fh y hym
    unfold qpe at this
    rw[a1,a2,a3,a4]at this;exact this
   have hbo:blkd s.b c.hv c.hhi c.hlo=true:=by
    have:=p.bl y hym
    rw[a2,a3,a4]at this;exact this
   refine⟨hfits,p.nb,p.tb,?_,?_,qbkm (p.ph.sublist (q5x s.h k)) e2',p.nz,p.cz,?_,?_⟩
   · show(insH (mkH c.tx c.hv c.hhi c.hlo (gI y.cells 4)) (outH s.h k)).length<=256
     rw[q7l,qb7t hkl];exact p.nh
   · intro z hz
     rcases qr7.1 hz with rfl|hz
     · exact qb5t hfo e1
     · exact p.fh z (q2w hz)
   · intro z hz
     rcases qr7.1 hz with rfl|hz
     · exact hbo
     · exact p.bl z (q2w hz)
   · intro z hz
     rcases qr7.1 hz with rfl|hz
     · exact e3
     · exact p.zo z (q2w hz)
def chgY (y:AV):Chg:=⟨gI y.cells 0,gB y.cells 1,gI y.cells 2,gI y.cells 3,gI y.cells 4,gI y.cells 5,gS y.cells 6,gS y.cells 7,gI y.cells 8,gI y.cells 9,gI y.cells 10,gS y.cells 11,gB y.cells 12,gI y.cells 13,gI y.cells 14,gI y.cells 15,gS y.cells 16⟩
def qb9f (y:AV):Prop:=fitC qeh y.cells=true/\CFit (chgY y)
def qbk0 (l:LA):Prop:=l.length<=9223372036854775807/\∀y,y∈l->qb9f y
def runL (i:Nat)(s:Sp):List AV->Sp×Int×Int
 |[]=>(s,(i:Int),0)
 |y::r=>bif(qc3 s (chgY y)).2 != 0 then(sp0,(i:Int),(qc3 s (chgY y)).2)else runL (i+1) (qc3 s (chgY y)).1 r
def runF (s:Sp)(l:LA):Sp×Int×Int:=bif decide ((l.length:Int)>(64:Int))then(sp0,0,9)else runL 0 s l
def outR (x:Sp×Int×Int):AV×Int×Int:=(x.1.av,x.2.1,x.2.2)
theorem qb7v {α:Type}{l:List α}{i:Nat}{y:α}{r:List α}(h:l.drop i=y::r)(hi:i<l.length):l.length-(y::r).length=i/\l.length-r.length=i+1:=by
 have:=congrArg List.length h
 simp at this
 simp;omega
theorem qb93 {s:Sp}(p:Plan s)(l:LA)(hl:qbk0 l):qbd4 s.b s.h s.z l=some (outR (runF s l)):=by
 rw[qbvn];unfold q0t runF
 by_cases h64:(l.length:Int)>64
 · simp only[h64,zdt,zct];rfl
 · simp only[h64,zdf,zcf,qb1m p.wk,zos,spf0,spf1,spf2]
   rw[qbmj]
   have key:=qb0 (σ:=List AV×List AV×List AV) l hl.1 (fun k i t=>qnk l l (l.length:Int) (fun b0_0q2 b0_1q3 b0_2q4=>(some ((.agg [(.sl 8 b0_0q2),(.sl 5 b0_1q3),(.sl 1 b0_2q4)]),(l.length:Int),0))) k i t.1 t.2.1 t.2.2)
    (fun i t nx=>qnj l l (l.length:Int) i t.1 t.2.1 t.2.2 (fun i a b c=>nx i (a,b,c)) (fun b0_0q2 b0_1q3 b0_2q4=>(some ((.agg [(.sl 8 b0_0q2),(.sl 5 b0_1q3),(.sl 1 b0_2q4)]),(l.length:Int),0)))) (fun _ _ _=>rfl)
    (fun _ t=>Plan ⟨t.1,t.2.1,t.2.2⟩) (fun r t=>some (outR (runL (l.length-r.length) ⟨t.1,t.2.1,t.2.2⟩ r))) ?_ ?_ (s.b,s.h,s.z) FU p (qca (by have:=hl.1;omega))
   · simpa using key
   · intro t nx _;simp[qnj,runL,outR];rfl
   · intro i y r t nx h1 h2 h3 h4 hp h5
     obtain⟨g1,g2⟩:=qb7v h1 h3
     have hy:=hl.2 y (zmg h2)
     have h6:(i:Int)<(l.length:Int):=by omega
     unfold qnj
     have ha:=qbs8 hp.wk (chgY y) hy.2
     simp only[h6,zdt,zct,zin,h2,zos,hy.1,h4]
     rw[show qfq t.1 t.2.1 t.2.2 (gI y.cells 0) (gB y.cells 1) (gI y.cells 2) (gI y.cells 3) (gI y.cells 4) (gI y.cells 5) (gS y.cells 6) (gS y.cells 7) (gI y.cells 8) (gI y.cells 9) (gI y.cells 10) (gS y.cells 11) (gB y.cells 12) (gI y.cells 13) (gI y.cells 14) (gI y.cells 15) (gS y.cells 16)=_ from ha]
     simp only[zos]
     rw[g1];unfold runL
     cases he:((qc3 ⟨t.1,t.2.1,t.2.2⟩ (chgY y)).2 != 0)with
     |true=>rfl
     |false=>
      simp only[zcf]
      have:=h5 ((qc3 ⟨t.1,t.2.1,t.2.2⟩ (chgY y)).1.b,(qc3 ⟨t.1,t.2.1,t.2.2⟩ (chgY y)).1.h,(qc3 ⟨t.1,t.2.1,t.2.2⟩ (chgY y)).1.z) (q1f hp hy.2 (by simpa using he))
      rw[g2]at this
      exact this
def rmC (v:Bool)(hi lo bits:Int):Chg:=⟨2,v,hi,lo,bits,0,[],[],0,0,0,[],false,0,0,0,[]⟩
def adC (y:AV):Chg:=⟨1,gB y.cells 0,gI y.cells 1,gI y.cells 2,gI y.cells 3,gI y.cells 4,gS y.cells 5,gS y.cells 6,gI y.cells 7,0,0,[],false,0,0,0,[]⟩
def hoC (y:AV):Chg:=⟨4,false,0,0,0,0,[],[],0,0,0,gS y.cells 0,gB y.cells 1,gI y.cells 2,gI y.cells 3,gI y.cells 4,[]⟩
def unC (n:LU)(v:Bool)(hi lo:Int):Chg:=⟨5,false,0,0,0,0,[],[],0,0,0,n,v,hi,lo,0,[]⟩
theorem qbfo (c:Chg):eqC c c=true:=by simp[eqC]
theorem qb0d:∀{h:LA} {k:Nat} {y:AV},h.Pairwise ltH->h[k]?=some y->insH y (outH h k)=h
 |[],k,y,_,e=>by simp at e
 |x::r,0,y,hp,e=>by
  have:x=y:=by simpa using e
  subst this
  have e0:outH (x::r) 0=r:=rfl
  rw[e0]
  rw[List.pairwise_cons]at hp
  cases r with
  |nil=>rfl
  |cons z s=>
   rw[qzw]
   have:=q39.1 (hp.1 z (by simp))
   simp[this]
 |x::r,k+1,y,hp,e=>by
  have e':r[k]?=some y:=by simpa using e
  have e0:outH (x::r) (k+1)=x::outH r k:=rfl
  rw[e0,qzw]
  rw[List.pairwise_cons]at hp
  have:=qbrw.2 (hp.1 y (zmg e'))
  have hn:¬cmpH y x<0:=by omega
  simp only[hn,zdf,zcf]
  rw[qb0d hp.2 e']
theorem qb94 (v:Bool)(hi lo bits:Int):okC (rmC v hi lo bits)=true:=by
 unfold okC;rw[show q5o (rmC v hi lo bits)=rmC v hi lo bits from rfl,qbfo];rfl
theorem qb95 (y:AV):okC (adC y)=true:=by
 unfold okC;rw[show q5o (adC y)=adC y from rfl,qbfo];rfl
theorem qb96 (y:AV):okC (hoC y)=true:=by
 unfold okC;rw[show q5o (hoC y)=hoC y from rfl,qbfo];rfl
theorem qb97 (n:LU)(v:Bool)(hi lo:Int):okC (unC n v hi lo)=true:=by
 unfold okC;rw[show q5o (unC n v hi lo)=unC n v hi lo from rfl,qbfo];rfl
theorem qb98 (s:Sp)(v:Bool)(hi lo bits:Int):qc3 s (rmC v hi lo bits)=(bif(qce s.b v hi lo bits).2 != 0 then qk5 (qce s.b v hi lo bits).2 else bif lost (qce s.b v hi lo bits).1 s.h then qk5 25 else(⟨(qce s.b v hi lo bits).1,s.h,s.z⟩,0)):=by
 unfold qc3;rw[qb94];rfl
theorem qb99 (s:Sp)(y:AV):qc3 s (adC y)=(bif(addF s.b (blkV y)).2 != 0 then qk5 (addF s.b (blkV y)).2 else(⟨(addF s.b (blkV y)).1,s.h,s.z⟩,0)):=by
 unfold qc3;rw[qb95];rfl
theorem qcaa (s:Sp)(y:AV):qc3 s (hoC y)=qyo s (gS y.cells 0) (gB y.cells 1) (gI y.cells 2) (gI y.cells 3) (gI y.cells 4):=by
 unfold qc3;rw[qb96];rfl
theorem qcab (s:Sp)(n:LU)(v:Bool)(hi lo:Int):qc3 s (unC n v hi lo)=((qpf s n v hi lo).1,(qpf s n v hi lo).2.2):=by
 unfold qc3;rw[qb97];rfl
theorem uok0:uok 0:=⟨by decide,by decide⟩
theorem qn8:([]:List UInt8).length<=9223372036854775807:=by decide
def eqBk (z y:AV):Bool:=(gB z.cells 0==gB y.cells 0)&&((gI z.cells 1==gI y.cells 1)&&((gI z.cells 2==gI y.cells 2)&&((gI z.cells 3==gI y.cells 3)&&((gI z.cells 4==gI y.cells 4)&&((gS z.cells 5==gS y.cells 5)&&((gS z.cells 6==gS y.cells 6)&&((gI z.cells 7==gI y.cells 7)&&true)))))))
def eqHk (z y:AV):Bool:=(gS z.cells 0==gS y.cells 0)&&((gB z.cells 1==gB y.cells 1)&&((gI z.cells 2==gI y.cells 2)&&((gI z.cells 3==gI y.cells 3)&&((gI z.cells 4==gI y.cells 4)&&true))))
theorem qbyh {z y:AV}(hz:fitC qb z.cells=true)(hy:fitC qb y.cells=true):eqBk z y=true↔z=y:=by
 constructor
 · intro h
   unfold eqBk at h
   simp only[zat,beq_iff_eq,and_true]at h
   obtain⟨h0,h1,h2,h3,h4,h5,h6,h7⟩:=h
   rw[<-qe9 hz,<-qe9 hy,h0,h1,h2,h3,h4,h5,h6,h7]
 · rintro rfl;simp[eqBk]
theorem qbyi {z y:AV}(hz:fitC qc z.cells=true)(hy:fitC qc y.cells=true):eqHk z y=true↔z=y:=by
 constructor
 · intro h
   unfold eqHk at h
   simp only[zat,beq_iff_eq,and_true]at h
   obtain⟨h0,h1,h2,h3,h4⟩:=h
   rw[<-ql7 hz,<-ql7 hy,h0,h1,h2,h3,h4]
 · rintro rfl;simp[eqHk]
def memB (l:LA)(y:AV):Bool:=l.any fun z=>eqBk z y
def memH (l:LA)(y:AV):Bool:=l.any fun z=>eqHk z y
theorem qr8 {l:LA}(hl:∀z,z∈l->qg7 z){y:AV}(hy:qg7 y):memB l y=true↔y∈l:=by
 unfold memB
 rw[zay]
 constructor
 · rintro⟨z,h1,h2⟩;rw[<-(qbyh (hl z h1).1 hy.1).1 h2];exact h1
 · intro h;exact⟨y,h,(qbyh hy.1 hy.1).2 rfl⟩
theorem qy7 {l:LA}(hl:∀z,z∈l->qxw z){y:AV}(hy:qxw y):memH l y=true↔y∈l:=by
 unfold memH
 rw[zay]
 constructor
 · rintro⟨z,h1,h2⟩;rw[<-(qbyi (hl z h1).1 hy.1).1 h2];exact h1
 · intro h;exact⟨y,h,(qbyi hy.1 hy.1).2 rfl⟩
theorem qb3w (z y:AV):eqBk z y=eqBk y z:=by
 unfold eqBk
 rw[BEq.comm (a:=gB z.cells 0),BEq.comm (a:=gI z.cells 1),BEq.comm (a:=gI z.cells 2),BEq.comm (a:=gI z.cells 3),BEq.comm (a:=gI z.cells 4),BEq.comm (a:=gS z.cells 5),BEq.comm (a:=gS z.cells 6),BEq.comm (a:=gI z.cells 7)]
theorem qb3x (z y:AV):eqHk z y=eqHk y z:=by
 unfold eqHk
 rw[BEq.comm (a:=gS z.cells 0),BEq.comm (a:=gB z.cells 1),BEq.comm (a:=gI z.cells 2),BEq.comm (a:=gI z.cells 3),BEq.comm (a:=gI z.cells 4)]
theorem q1g (l:LA)(hl:qn l)(b0:Bool)(b1 b2 b3 b4:Int)(b5 b6:LU)(b7:Int):qga l b0 b1 b2 b3 b4 b5 b6 b7=some (memB l (mkB b0 b1 b2 b3 b4 b5 b6 b7)):=by
 rw[qbec];unfold qnz
 rw[q72,qfx l hl.1 (qgq l b0 b1 b2 b3 b4 b5 b6 b7 fun _=>some false) (fun i nx=>qgp l i b0 b1 b2 b3 b4 b5 b6 b7 nx fun _=>some false) (fun _ _=>rfl) (fun r=>some (memB r (mkB b0 b1 b2 b3 b4 b5 b6 b7)))]
 · intro nx;simp[qgp,memB]
 · intro i y r nx h1 h2 h3 h4 h5
   have hy:=hl.2 y (zmg h2)
   have h6:(i:Int)<(l.length:Int):=by omega
   unfold qgp
   simp only[h6,zdt,zct,zin,h2,zos,hy.1,h4,h5]
   have e:memB (y::r) (mkB b0 b1 b2 b3 b4 b5 b6 b7)=(eqBk y (mkB b0 b1 b2 b3 b4 b5 b6 b7)||memB r (mkB b0 b1 b2 b3 b4 b5 b6 b7)):=rfl
   rw[e]
   change (bif eqBk y (mkB b0 b1 b2 b3 b4 b5 b6 b7)then some true else some (memB r (mkB b0 b1 b2 b3 b4 b5 b6 b7)))=_
   cases eqBk y (mkB b0 b1 b2 b3 b4 b5 b6 b7)<;>rfl
theorem qbkn (l:LA)(hl:qct l)(n:LU)(v:Bool)(hi lo t:Int):qnl l n v hi lo t=some (memH l (mkH n v hi lo t)):=by
 rw[qbhg];unfold qo2
 rw[q99,qfx l hl.1 (qho l n v hi lo t fun _=>some false) (fun i nx=>qhn l i n v hi lo t nx fun _=>some false) (fun _ _=>rfl) (fun r=>some (memH r (mkH n v hi lo t)))]
 · intro nx;simp[qhn,memH]
 · intro i y r nx h1 h2 h3 h4 h5
   have hy:=hl.2 y (zmg h2)
   have h6:(i:Int)<(l.length:Int):=by omega
   unfold qhn
   simp only[h6,zdt,zct,zin,h2,zos,hy.1,h4,h5]
   have e:memH (y::r) (mkH n v hi lo t)=(eqHk y (mkH n v hi lo t)||memH r (mkH n v hi lo t)):=rfl
   rw[e]
   change (bif eqHk y (mkH n v hi lo t)then some true else some (memH r (mkH n v hi lo t)))=_
   cases eqHk y (mkH n v hi lo t)<;>rfl
theorem qb5w (l:LA)(hl:qn l)(b0:Bool)(b1 b2 b3 b4:Int)(b5 b6:LU)(b7:Int):qhe l b0 b1 b2 b3 b4 b5 b6 b7=some (idxI (eqBk (mkB b0 b1 b2 b3 b4 b5 b6 b7)) l):=by
 rw[qv8];unfold qee
 rw[qs7,qwk l hl.1 (qcr l (l.length:Int) b0 b1 b2 b3 b4 b5 b6 b7 fun _=>some (-1)) (fun i nx=>qcq l (l.length:Int) i b0 b1 b2 b3 b4 b5 b6 b7 nx fun _=>some (-1)) (fun _ _=>rfl) (fun i r=>some (match idxO (eqBk (mkB b0 b1 b2 b3 b4 b5 b6 b7)) r with|some k=>((i+k:Nat):Int)|none=> -1))]
 · unfold idxI;cases idxO (eqBk (mkB b0 b1 b2 b3 b4 b5 b6 b7)) l<;>simp
 · intro nx;simp[qcq,idxO]
 · intro i y r nx h1 h2 h3 h4 h5
   have hy:=hl.2 y (zmg h2)
   have h6:(i:Int)<(l.length:Int):=by omega
   unfold qcq
   simp only[h6,zdt,zct,zin,h2,zos,hy.1,h4,h5]
   change (bif eqBk (mkB b0 b1 b2 b3 b4 b5 b6 b7) y then some (i:Int)else _)=_
   rw[show idxO (eqBk (mkB b0 b1 b2 b3 b4 b5 b6 b7)) (y::r)=if eqBk (mkB b0 b1 b2 b3 b4 b5 b6 b7) y then some 0 else(idxO (eqBk (mkB b0 b1 b2 b3 b4 b5 b6 b7)) r).map (· +1)from rfl]
   cases eqBk (mkB b0 b1 b2 b3 b4 b5 b6 b7) y with
   |true=>simp
   |false=>
    simp only[zcf,Bool.false_eq_true,if_false]
    cases idxO (eqBk (mkB b0 b1 b2 b3 b4 b5 b6 b7)) r with
    |none=>rfl
    |some k=>simp only[Option.map_some];congr 1;omega
theorem qb5x (l:LA)(hl:qct l)(n:LU)(v:Bool)(hi lo t:Int):qin l n v hi lo t=some (idxI (eqHk (mkH n v hi lo t)) l):=by
 rw[qxk];unfold qes
 rw[quw,qwk l hl.1 (qcy l (l.length:Int) n v hi lo t fun _=>some (-1)) (fun i nx=>qcx l (l.length:Int) i n v hi lo t nx fun _=>some (-1)) (fun _ _=>rfl) (fun i r=>some (match idxO (eqHk (mkH n v hi lo t)) r with|some k=>((i+k:Nat):Int)|none=> -1))]
 · unfold idxI;cases idxO (eqHk (mkH n v hi lo t)) l<;>simp
 · intro nx;simp[qcx,idxO]
 · intro i y r nx h1 h2 h3 h4 h5
   have hy:=hl.2 y (zmg h2)
   have h6:(i:Int)<(l.length:Int):=by omega
   unfold qcx
   simp only[h6,zdt,zct,zin,h2,zos,hy.1,h4,h5]
   change (bif eqHk (mkH n v hi lo t) y then some (i:Int)else _)=_
   rw[show idxO (eqHk (mkH n v hi lo t)) (y::r)=if eqHk (mkH n v hi lo t) y then some 0 else(idxO (eqHk (mkH n v hi lo t)) r).map (· +1)from rfl]
   cases eqHk (mkH n v hi lo t) y with
   |true=>simp
   |false=>
    simp only[zcf,Bool.false_eq_true,if_false]
    cases idxO (eqHk (mkH n v hi lo t)) r with
    |none=>rfl
    |some k=>simp only[Option.map_some];congr 1;omega
theorem qb0e (l:LA)(hl:qn l)(b0:Bool)(b1 b2 b3 b4:Int)(b5 b6:LU)(b7:Int):qd2 l b0 b1 b2 b3 b4 b5 b6 b7=some (memB l (mkB b0 b1 b2 b3 b4 b5 b6 b7)):=by
 rw[qs8];unfold qdn memB
 rw[qb5w l hl,zos,qvj]
 congr 2;funext z;exact qb3w _ _
theorem qb0f (l:LA)(hl:qct l)(n:LU)(v:Bool)(hi lo t:Int):qeq l n v hi lo t=some (memH l (mkH n v hi lo t)):=by
 rw[qux];unfold qd3 memH
 rw[qb5x l hl,zos,qvj]
 congr 2;funext z;exact qb3x _ _
theorem qbs9 {R:Type}{a:LA}(x:AV)(h:(a.length+1)*80<=140737488355328)(k:Option R):(bif decide ((a.length+([x]:List AV).length)*80<=140737488355328)then k else none)=k:=by
 simp[h]
theorem qbk1 (l m:LA)(hl:qn l)(hm:qn m)(hn:l.length<=100000):qfh l m=some (l.filter fun x=> !memB m x):=by
 rw[q6r];unfold qjw
 simp only[qpg,zas,zct]
 rw[q3t]
 have key:=qb0 (σ:=List AV) l hl.1 (fun k i t=>qe0 m l (l.length:Int) (fun a0q1=>(bif hd a0q1 a0q1.length then(some a0q1)else none)) k i t)
  (fun i t nx=>qez m l (l.length:Int) i t nx (fun a0q1=>(bif hd a0q1 a0q1.length then(some a0q1)else none))) (fun _ _ _=>rfl)
  (fun i t=>t.length<=i) (fun r t=>some (t++r.filter fun x=> !memB m x)) ?_ ?_ [] FU (Nat.le_refl _) (qca (by have:=hl.1;omega))
 · simpa using key
 · intro t nx _;simp[qez]
 · intro i y r t nx h1 h2 h3 h4 ht h5
   have hy:=hl.2 y (zmg h2)
   have h6:(i:Int)<(l.length:Int):=by omega
   unfold qez
   simp only[h6,zdt,zct,zin,h2,zos,hy.1,h4,qb0e m hm]
   rw[show(AV.agg [(.bool (gB y.cells 0)),(.int .u64 (gI y.cells 1)),(.int .u64 (gI y.cells 2)),(.int .i64 (gI y.cells 3)),(.int .i64 (gI y.cells 4)),(.str (gS y.cells 5)),(.str (gS y.cells 6)),(.int .i64 (gI y.cells 7))])=y from qe9 hy.1,qe9 hy.1]
   rw[List.filter_cons]
   cases memB m y with
   |true=>simp only[znt,zcf];rw[h5 t (by omega)];simp
   |false=>
    simp only[znf,zct,zhs]
    rw[qbs9 y (by omega),h5 (t++[y]) (by simp;omega)]
    simp
theorem qb0g (l m:LA)(hl:qct l)(hm:qct m)(hn:l.length<=100000):qm1 l m=some (l.filter fun x=> !memH m x):=by
 rw[q71];unfold qkz
 simp only[qpg,zas,zct]
 rw[q4o]
 have key:=qb0 (σ:=List AV) l hl.1 (fun k i t=>qfc m l (l.length:Int) (fun a0q1=>(bif hd a0q1 a0q1.length then(some a0q1)else none)) k i t)
  (fun i t nx=>qfb m l (l.length:Int) i t nx (fun a0q1=>(bif hd a0q1 a0q1.length then(some a0q1)else none))) (fun _ _ _=>rfl)
  (fun i t=>t.length<=i) (fun r t=>some (t++r.filter fun x=> !memH m x)) ?_ ?_ [] FU (Nat.le_refl _) (qca (by have:=hl.1;omega))
 · simpa using key
 · intro t nx _;simp[qfb]
 · intro i y r t nx h1 h2 h3 h4 ht h5
   have hy:=hl.2 y (zmg h2)
   have h6:(i:Int)<(l.length:Int):=by omega
   unfold qfb
   simp only[h6,zdt,zct,zin,h2,zos,hy.1,h4,qb0f m hm]
   rw[show(AV.agg [(.str (gS y.cells 0)),(.bool (gB y.cells 1)),(.int .u64 (gI y.cells 2)),(.int .u64 (gI y.cells 3)),(.int .i64 (gI y.cells 4))])=y from ql7 hy.1,ql7 hy.1]
   rw[List.filter_cons]
   cases memH m y with
   |true=>simp only[znt,zcf];rw[h5 t (by omega)];simp
   |false=>
    simp only[znf,zct,zhs]
    rw[qbs6 y (by omega),h5 (t++[y]) (by simp;omega)]
    simp
def qqs (a b:LA)(x:AV):Bool:= !memB b x||((a.any fun y=> !memB b y&&qfi x y)||b.any fun y=> !memB a y&&qfi x y)
def qv (a b:LA):List AV:=a.filter (qqs a b)
theorem qph {l:LA}(hl:qn l)(q:AV->Bool):qn (l.filter q):=⟨Nat.le_trans (List.length_filter_le _ _) hl.1,fun y hy=>hl.2 y (zmf.1 hy).1⟩
theorem qxx {l:LA}(hl:qct l)(q:AV->Bool):qct (l.filter q):=⟨Nat.le_trans (List.length_filter_le _ _) hl.1,fun y hy=>hl.2 y (zmf.1 hy).1⟩
theorem qbnc {l:LA}(hl:qn l){q:AV->Bool}{y:AV}(hy:qg7 y):memB (l.filter q) y=(memB l y&&q y):=by
 rw[Bool.eq_iff_iff,zat,qr8 (qph hl q).2 hy,qr8 hl.2 hy,zmf]
theorem qbzb {l:LA}(hl:qct l){q:AV->Bool}{y:AV}(hy:qxw y):memH (l.filter q) y=(memH l y&&q y):=by
 rw[Bool.eq_iff_iff,zat,qy7 (qxx hl q).2 hy,qy7 hl.2 hy,zmf]
theorem qb5y (l:LA)(q p:AV->Bool):(l.filter q).any p=l.any fun y=>q y&&p y:=by
 induction l with
 |nil=>rfl
 |cons y r ih=>
  rw[List.filter_cons]
  cases hq:q y<;>simp[hq,ih]
theorem qbyj {R:Type}(m:LA)(hm:qn m)(a:LA)(b0:Bool)(b1 b2 b3 b4:Int)(b5 b6:LU)(b7:Int)(kr:Bool->List AV->Bool->Int->Int->Int->Int->List UInt8->List UInt8->Int->Option R):
 qby m a b0 b1 b2 b3 b4 b5 b6 b7 kr=kr (m.any (qfi (mkB b0 b1 b2 b3 b4 b5 b6 b7))) a b0 b1 b2 b3 b4 b5 b6 b7:=by
 rw[qjb];unfold qbt
 rw[qkl];unfold qb4
 rw[qi9]
 have key:=qb0 (σ:=List AV×Bool×Int×Int×Int×Int×List UInt8×List UInt8×Int) m hm.1 (fun k i t=>qbe m (m.length:Int) (fun a0q1 c0 c1 c2 c3 c4 c5 c6 c7=>(fun v4q1 a0q2 b1_0q3 b1_1q4 b1_2q5 b1_3q6 b1_4q7 b1_5q8 b1_6q9 b1_7q10=>(kr (decide (v4q1>=0)) a0q2 b1_0q3 b1_1q4 b1_2q5 b1_3q6 b1_4q7 b1_5q8 b1_6q9 b1_7q10)) (-1:Int) a0q1 c0 c1 c2 c3 c4 c5 c6 c7) (fun v4q1 a0q2 b1_0q3 b1_1q4 b1_2q5 b1_3q6 b1_4q7 b1_5q8 b1_6q9 b1_7q10=>(kr (decide (v4q1>=0)) a0q2 b1_0q3 b1_1q4 b1_2q5 b1_3q6 b1_4q7 b1_5q8 b1_6q9 b1_7q10)) k i t.1 t.2.1 t.2.2.1 t.2.2.2.1 t.2.2.2.2.1 t.2.2.2.2.2.1 t.2.2.2.2.2.2.1 t.2.2.2.2.2.2.2.1 t.2.2.2.2.2.2.2.2)
  (fun i t nx=>qbd m (m.length:Int) i t.1 t.2.1 t.2.2.1 t.2.2.2.1 t.2.2.2.2.1 t.2.2.2.2.2.1 t.2.2.2.2.2.2.1 t.2.2.2.2.2.2.2.1 t.2.2.2.2.2.2.2.2 (fun i x c0 c1 c2 c3 c4 c5 c6 c7=>nx i (x,c0,c1,c2,c3,c4,c5,c6,c7)) (fun a0q1 c0 c1 c2 c3 c4 c5 c6 c7=>(fun v4q1 a0q2 b1_0q3 b1_1q4 b1_2q5 b1_3q6 b1_4q7 b1_5q8 b1_6q9 b1_7q10=>(kr (decide (v4q1>=0)) a0q2 b1_0q3 b1_1q4 b1_2q5 b1_3q6 b1_4q7 b1_5q8 b1_6q9 b1_7q10)) (-1:Int) a0q1 c0 c1 c2 c3 c4 c5 c6 c7) (fun v4q1 a0q2 b1_0q3 b1_1q4 b1_2q5 b1_3q6 b1_4q7 b1_5q8 b1_6q9 b1_7q10=>(kr (decide (v4q1>=0)) a0q2 b1_0q3 b1_1q4 b1_2q5 b1_3q6 b1_4q7 b1_5q8 b1_6q9 b1_7q10))) (fun _ _ _=>rfl)
  (fun _ t=>t=(a,b0,b1,b2,b3,b4,b5,b6,b7)) (fun r _=>kr (r.any (qfi (mkB b0 b1 b2 b3 b4 b5 b6 b7))) a b0 b1 b2 b3 b4 b5 b6 b7) ?_ ?_ (a,b0,b1,b2,b3,b4,b5,b6,b7) FU rfl (qca (by have:=hm.1;omega))
 · exact key
 · intro t nx ht;subst ht;simp[qbd]
 · intro i y r t nx h1 h2 h3 h4 ht h5
   subst ht
   have hy:=hm.2 y (zmg h2)
   have h6:(i:Int)<(m.length:Int):=by omega
   unfold qbd
   simp only[h6,zdt,zct,zin,h2,zos,hy.1,h4]
   rw[qbi7];unfold qp4
   rw[q9h,zos]
   simp only[h5 _ rfl]
   rw[List.any_cons,show qkn b0 b1 b2 b3 (gB y.cells 0) (gI y.cells 1) (gI y.cells 2) (gI y.cells 3)=qfi (mkB b0 b1 b2 b3 b4 b5 b6 b7) y from rfl]
   have:decide ((i:Int)>=0)=true:=by simp
   cases qfi (mkB b0 b1 b2 b3 b4 b5 b6 b7) y<;>simp[this]
theorem qb9g (a b:LA)(ha:qn a)(hb:qn b)(na:a.length<=100000)(nb:b.length<=100000):q93 a b=some (qv a b):=by
 rw[qbsd];unfold qyg qv
 rw[qbk1 a b ha hb na,zos,qbk1 b a hb ha nb,zos]
 simp only[qpg,zas,zct]
 have f1:=qph ha fun x=> !memB b x
 have f2:=qph hb fun x=> !memB a x
 rw[qbja]
 have key:=qb0 (σ:=List AV) a ha.1 (fun k i t=>qmn (a.filter fun x=> !memB b x) (b.filter fun x=> !memB a x) a (a.length:Int) (fun a0q3=>(bif hd a0q3 a0q3.length then(some a0q3)else none)) k i t)
  (fun i t nx=>qmm (a.filter fun x=> !memB b x) (b.filter fun x=> !memB a x) a (a.length:Int) i t nx (fun a0q3=>(bif hd a0q3 a0q3.length then(some a0q3)else none))) (fun _ _ _=>rfl)
  (fun i t=>t.length<=i) (fun r t=>some (t++r.filter (qqs a b))) ?_ ?_ [] FU (Nat.le_refl _) (qca (by have:=ha.1;omega))
 · simpa using key
 · intro t nx _;simp[qmm]
 · intro i y r t nx h1 h2 h3 h4 ht h5
   have hym:=zmg h2
   have hy:=ha.2 y hym
   have h6:(i:Int)<(a.length:Int):=by omega
   unfold qmm
   simp only[h6,zdt,zct,zin,h2,zos,hy.1,h4,zhs,zas]
   have hJ:∀kn:Bool->List AV->Bool->Int->Int->Int->Int->List UInt8->List UInt8->Int->Option (List AV),q0u (a.filter fun x=> !memB b x) (b.filter fun x=> !memB a x) a (a.length:Int) (i:Int) t (gB y.cells 0) (gI y.cells 1) (gI y.cells 2) (gI y.cells 3) (gI y.cells 4) (gS y.cells 5) (gS y.cells 6) (gI y.cells 7) kn=kn (qqs a b y) t (gB y.cells 0) (gI y.cells 1) (gI y.cells 2) (gI y.cells 3) (gI y.cells 4) (gS y.cells 5) (gS y.cells 6) (gI y.cells 7):=fun kn=>by
    rw[qbi9];unfold qp5 qqs
    rw[qb0e _ f1,zos]
    simp only[qbyj _ f1,qbyj _ f2,qe9 hy.1,qbnc ha hy,(qr8 ha.2 hy).2 hym,qb5y,zta,zhs,zct]
    cases memB b y with
    |false=>rfl
    |true=>
     simp only[znt,zcf,Bool.false_or]
     cases(a.any fun z=> !memB b z&&qfi y z)<;>rfl
   rw[hJ]
   rw[show(AV.agg [(.bool (gB y.cells 0)),(.int .u64 (gI y.cells 1)),(.int .u64 (gI y.cells 2)),(.int .i64 (gI y.cells 3)),(.int .i64 (gI y.cells 4)),(.str (gS y.cells 5)),(.str (gS y.cells 6)),(.int .i64 (gI y.cells 7))])=y from qe9 hy.1]
   rw[List.filter_cons]
   cases qqs a b y with
   |false=>simp only[zcf];rw[h5 t (by omega)];simp
   |true=>
    simp only[zct,zhs]
    rw[qbs9 y (by omega),h5 (t++[y]) (by simp;omega)]
    simp
theorem qcac (a b:LA)(ha:qn a)(hb:qn b){i:Nat}{y:AV}(hy:a[i]?=some y)(acc:LA)(kx:Bool->Option (List AV))(d:Bool):
 qrq a b (i:Int) acc kx FU d 0=kx (d||a.any fun z=> !memB b z&&qfi y z):=by
 have hyf:=ha.2 y (zmg hy)
 rw[q73]
 have key:=qb0 (σ:=Bool) a ha.1 (fun k j t=>qgs a b (i:Int) acc kx k t j)
  (fun j t nx=>qgr a b (i:Int) t j acc (fun t j=>nx j t) kx) (fun _ _ _=>rfl)
  (fun _ _=>True) (fun r t=>kx (t||r.any fun z=> !memB b z&&qfi y z)) ?_ ?_ d FU trivial (qca (by have:=ha.1;omega))
 · exact key
 · intro t nx _;simp[qgr]
 · intro j z r t nx h1 h2 h3 h4 _ h5
   have hz:=ha.2 z (zmg h2)
   have h6:(j:Int)<(a.length:Int):=by omega
   unfold qgr
   cases t with
   |true=>simp
   |false=>
    simp only[h6,zdt,znf,zas,zct,zin,h2,hy,zos,hz.1,hyf.1,h4,q1g b hb,qe9 hz.1,qbkb _ _ _ _ _ _ _ _ hyf.2.1 hyf.2.2.1,List.any_cons]
    rw[show qkn (gB y.cells 0) (gI y.cells 1) (gI y.cells 2) (gI y.cells 3) (gB z.cells 0) (gI z.cells 1) (gI z.cells 2) (gI z.cells 3)=qfi y z from rfl]
    cases memB b z with
    |true=>simp only[znt,zcf,h5 _ trivial,Bool.false_and,Bool.false_or]
    |false=>simp only[znf,zct,h5 _ trivial,zta,Bool.false_or]
theorem qcad (a b:LA)(ha:qn a)(hb:qn b){i:Nat}{y:AV}(hy:a[i]?=some y)(acc:LA)(kx:Bool->Option (List AV))(d:Bool):
 qrr a b (i:Int) acc kx FU d 0=kx (d||b.any fun z=> !memB a z&&qfi y z):=by
 have hyf:=ha.2 y (zmg hy)
 rw[q74]
 have key:=qb0 (σ:=Bool) b hb.1 (fun k j t=>qgu a b (i:Int) acc kx k t j)
  (fun j t nx=>qgt a b (i:Int) t j acc (fun t j=>nx j t) kx) (fun _ _ _=>rfl)
  (fun _ _=>True) (fun r t=>kx (t||r.any fun z=> !memB a z&&qfi y z)) ?_ ?_ d FU trivial (qca (by have:=hb.1;omega))
 · exact key
 · intro t nx _;simp[qgt]
 · intro j z r t nx h1 h2 h3 h4 _ h5
   have hz:=hb.2 z (zmg h2)
   have h6:(j:Int)<(b.length:Int):=by omega
   unfold qgt
   cases t with
   |true=>simp
   |false=>
    simp only[h6,zdt,znf,zas,zct,zin,h2,hy,zos,hz.1,hyf.1,h4,q1g a ha,qe9 hz.1,qbkb _ _ _ _ _ _ _ _ hyf.2.1 hyf.2.2.1,List.any_cons]
    rw[show qkn (gB y.cells 0) (gI y.cells 1) (gI y.cells 2) (gI y.cells 3) (gB z.cells 0) (gI z.cells 1) (gI z.cells 2) (gI z.cells 3)=qfi y z from rfl]
    cases memB a z with
    |true=>simp only[znt,zcf,h5 _ trivial,Bool.false_and,Bool.false_or]
    |false=>simp only[znf,zct,h5 _ trivial,zta,Bool.false_or]
theorem qb3y (a b:LA)(ha:qn a)(hb:qn b)(na:a.length<=100000):qy2 a b=some (qv a b):=by
 rw[qbhf];unfold qo1 qv
 simp only[qpg,zas,zct]
 rw[q98]
 have key:=qb0 (σ:=List AV) a ha.1 (fun k i t=>qhm a b (fun a0q1=>(bif hd a0q1 a0q1.length then(some a0q1)else none)) k i t)
  (fun i t nx=>qhl a b i t nx (fun a0q1=>(bif hd a0q1 a0q1.length then(some a0q1)else none))) (fun _ _ _=>rfl)
  (fun i t=>t.length<=i) (fun r t=>some (t++r.filter (qqs a b))) ?_ ?_ [] FU (Nat.le_refl _) (qca (by have:=ha.1;omega))
 · simpa using key
 · intro t nx _;simp[qhl]
 · intro i y r t nx h1 h2 h3 h4 ht h5
   have hym:=zmg h2
   have hy:=ha.2 y hym
   have h6:(i:Int)<(a.length:Int):=by omega
   unfold qhl
   simp only[h6,zdt,zct,zin,h2,zos,hy.1,h4,zhs,zas,q1g b hb,qe9 hy.1,qcac a b ha hb h2,qcad a b ha hb h2]
   rw[show(AV.agg [(.bool (gB y.cells 0)),(.int .u64 (gI y.cells 1)),(.int .u64 (gI y.cells 2)),(.int .i64 (gI y.cells 3)),(.int .i64 (gI y.cells 4)),(.str (gS y.cells 5)),(.str (gS y.cells 6)),(.int .i64 (gI y.cells 7))])=y from qe9 hy.1]
   rw[List.filter_cons]
   rw[show((!memB b y||a.any fun z=> !memB b z&&qfi y z)||b.any fun z=> !memB a z&&qfi y z)=qqs a b y from Bool.or_assoc _ _ _]
   cases qqs a b y with
   |false=>simp only[zcf];rw[h5 t (by omega)];simp
   |true=>
    simp only[zct,zhs]
    rw[qbs9 y (by omega),h5 (t++[y]) (by simp;omega)]
    simp
def eqZ:List AV->List AV->Bool
 |[],[]=>true
 |x::r,y::q=>gS x.cells 0==gS y.cells 0&&eqZ r q
 |_,_=>false
theorem q5y:∀{z w:LA},eqZ z w=true->z.length=w.length
 |[],[],_=>rfl
 |x::r,y::q,h=>by
  unfold eqZ at h
  rw[zat]at h
  simp[q5y h.2]
 |[],_::_,h=>by cases h
 |_::_,[],h=>by cases h
theorem qcae (z w:LA)(hz:qn7 z)(hw:qn7 w):ql5 z w=some (eqZ z w):=by
 rw[q1h];unfold qf2
 cases hl:((z.length:Int) != (w.length:Int))with
 |true=>
  simp only[zct]
  cases h:eqZ z w with
  |false=>rfl
  |true=>have:=q5y h;simp[this]at hl
 |false=>
  have hlen:z.length=w.length:=by have:(z.length:Int)=w.length:=by simpa using hl
                                  omega
  simp only[zcf]
  rw[qxj,qwk z hz.1 (qdb z w (z.length:Int) fun _=>some true) (fun i nx=>qda z w (z.length:Int) i nx fun _=>some true) (fun _ _=>rfl) (fun i r=>some (eqZ r (w.drop i)))]
  · simp
  · intro nx;simp[qda,hlen,eqZ]
  · intro i x r nx h1 h2 h3 h4 h5
    have hx:=hz.2 x (zmg h2)
    have hiw:i<w.length:=by omega
    have h2':w[i]?=some w[i]:=by simp[hiw]
    have hy:=hw.2 w[i] (zmg h2')
    have h6:(i:Int)<(z.length:Int):=by omega
    unfold qda
    simp only[h6,zdt,zct,zin,h2,h2',zos,hx.1,hy.1,h4,h5]
    rw[List.drop_eq_getElem_cons hiw]
    rw[show eqZ (x::r) (w[i]::w.drop (i+1))=(gS x.cells 0==gS (w[i]).cells 0&&eqZ r (w.drop (i+1)))from rfl]
    cases gS x.cells 0==gS (w[i]).cells 0<;>rfl
theorem qb7w (z w:LA)(hz:qn7 z)(hw:qn7 w):qu3 z w=some (eqZ z w):=by
 rw[qbcb];unfold qm3
 cases hl:((z.length:Int) != (w.length:Int))with
 |true=>
  simp only[zct]
  cases h:eqZ z w with
  |false=>rfl
  |true=>have:=q5y h;simp[this]at hl
 |false=>
  have hlen:z.length=w.length:=by have:(z.length:Int)=w.length:=by simpa using hl
                                  omega
  simp only[zcf]
  rw[q48,qwk z hz.1 (qft z w fun _=>some true) (fun i nx=>qfs z w i nx fun _=>some true) (fun _ _=>rfl) (fun i r=>some (eqZ r (w.drop i)))]
  · simp
  · intro nx;simp[qfs,hlen,eqZ]
  · intro i x r nx h1 h2 h3 h4 h5
    have hx:=hz.2 x (zmg h2)
    have hiw:i<w.length:=by omega
    have h2':w[i]?=some w[i]:=by simp[hiw]
    have hy:=hw.2 w[i] (zmg h2')
    have h6:(i:Int)<(z.length:Int):=by omega
    unfold qfs
    simp only[h6,zdt,zct,zin,h2,h2',zos,hx.1,hy.1,h4,h5]
    rw[List.drop_eq_getElem_cons hiw]
    rw[show eqZ (x::r) (w[i]::w.drop (i+1))=(gS x.cells 0==gS (w[i]).cells 0&&eqZ r (w.drop (i+1)))from rfl]
    cases gS x.cells 0==gS (w[i]).cells 0<;>rfl
theorem qbyk {α σ R:Type}(l:List α)(hl:l.length<=9223372036854775807)(L:Nat->Int->σ->Option R)(B:Int->σ->(Int->σ->Option R)->Option R)(hL:∀n i s,L (n+1) i s=B i s (L n))
 (J:Nat->σ->Prop) (S:List α->σ->Option R) (h0:∀s nx,B (-1) s nx=S [] s)
 (hs:∀(i:Nat) (a:α) (s:σ) nx,l[i]?=some a->i<l.length->i64.wrap ((i:Int)-1)=(i:Int)-1->J (l.length-(i+1)) s->(∀s',J (l.length-i) s'->nx ((i:Int)-1) s'=S (l.take i) s')->B (i:Int) s nx=S (l.take (i+1)) s):
 ∀(s:σ) (n:Nat),J 0 s->l.length<n->L n (i64.wrap ((l.length:Int)-1)) s=S l s:=by
 have key:∀(k:Nat),k<=l.length->∀(n:Nat) (s:σ),J (l.length-k) s->k<n->L n ((k:Int)-1) s=S (l.take k) s:=by
  intro k
  induction k with
  |zero=>
   intro _ n s _ hn
   obtain⟨m,rfl⟩:∃m,n=m+1:=⟨n-1,by omega⟩
   rw[hL]
   simpa using h0 s (L m)
  |succ k ih=>
   intro hk n s hj hn
   obtain⟨m,rfl⟩:∃m,n=m+1:=⟨n-1,by omega⟩
   rw[hL]
   have hlt:k<l.length:=by omega
   have e:((k+1:Nat):Int)-1=(k:Int):=by omega
   rw[e]
   exact hs k l[k] s _ (by simp[hlt]) hlt (w64 (by omega) (by omega)) hj (fun s' hj'=>ih (by omega) m s' hj' (by omega))
 intro s n hj hn
 have hw:i64.wrap ((l.length:Int)-1)=(l.length:Int)-1:=w64 (by omega) (by omega)
 rw[hw]
 have:=key l.length (Nat.le_refl _) n s (by simpa using hj) hn
 simpa using this
def unY (h:AV):AV:=(unC (gS h.cells 0) (gB h.cells 1) (gI h.cells 2) (gI h.cells 3)).av
def rmY (y:AV):AV:=(rmC (gB y.cells 0) (gI y.cells 1) (gI y.cells 2) (gI y.cells 3)).av
def adY (y:AV):AV:=(adC y).av
def hoY (h:AV):AV:=(hoC h).av
def q9p (r:LA)(h:AV):Bool:=r.any (hasA (gB h.cells 1) (gI h.cells 2) (gI h.cells 3))
def isUn (hb r:LA)(h:AV):Bool:= !memH hb h||q9p r h
def unhF (ha hb r:LA):List AV:=ha.filter (isUn hb r)
def qk6 (a b r:LA):List AV:=b.filter fun x=> !memB a x||memB r x
def qk7 (a b u:LA):List AV:=b.filter fun x=> !memH a x||memH u x
def chsF (s t:Sp):List AV:=
 (unhF s.h t.h (qv s.b t.b)).map unY++((qv s.b t.b).reverse.map rmY++((qk6 s.b t.b (qv s.b t.b)).map adY++(qk7 s.h t.h (unhF s.h t.h (qv s.b t.b))).map hoY))
def betF (s t:Sp):List AV×Int:=
 bif qdl s.b s.h s.z != 0 then([],qdl s.b s.h s.z)else bif qdl t.b t.h t.z != 0 then([],qdl t.b t.h t.z)else
 bif !eqZ s.z t.z then([],13)else bif decide (((chsF s t).length:Int)>64)then([],9)else(chsF s t,0)
theorem qvk {R:Type}{a:LA}(x:AV)(h:(a.length+1)*168<=140737488355328)(k:Option R):(bif decide ((a.length+([x]:List AV).length)*168<=140737488355328)then k else none)=k:=by
 simp[h]
theorem qb7x {R:Type}(m:LA)(hm:qn m)(s t:Sp)(a:LA)(n:LU)(v:Bool)(hi lo tt:Int)(kr:Bool->List AV->List AV->List AV->List AV->List AV->List AV->List AV->List UInt8->Bool->Int->Int->Int->Option R):
 qcd m s.b s.h s.z t.b t.h t.z a n v hi lo tt kr=kr (m.any (hasA v hi lo)) s.b s.h s.z t.b t.h t.z a n v hi lo tt:=by
 rw[qhw];unfold qbp
 rw[qjd];unfold qbu
 rw[qhu]
 have key:=qb0 (σ:=List AV×List AV×List AV×List AV×List AV×List AV×List AV×List UInt8×Bool×Int×Int×Int) m hm.1
  (fun k i u=>q8 m (m.length:Int) (fun x0 x1 x2 x3 x4 x5 x6 c0 c1 c2 c3 c4=>(fun v4q1 b0_0q2 b0_1q3 b0_2q4 b1_0q5 b1_1q6 b1_2q7 a2q8 b3_0q9 b3_1q10 b3_2q11 b3_3q12 b3_4q13=>(kr (decide (v4q1>=0)) b0_0q2 b0_1q3 b0_2q4 b1_0q5 b1_1q6 b1_2q7 a2q8 b3_0q9 b3_1q10 b3_2q11 b3_3q12 b3_4q13)) (-1:Int) x0 x1 x2 x3 x4 x5 x6 c0 c1 c2 c3 c4) (fun v4q1 b0_0q2 b0_1q3 b0_2q4 b1_0q5 b1_1q6 b1_2q7 a2q8 b3_0q9 b3_1q10 b3_2q11 b3_3q12 b3_4q13=>(kr (decide (v4q1>=0)) b0_0q2 b0_1q3 b0_2q4 b1_0q5 b1_1q6 b1_2q7 a2q8 b3_0q9 b3_1q10 b3_2q11 b3_3q12 b3_4q13)) k i u.1 u.2.1 u.2.2.1 u.2.2.2.1 u.2.2.2.2.1 u.2.2.2.2.2.1 u.2.2.2.2.2.2.1 u.2.2.2.2.2.2.2.1 u.2.2.2.2.2.2.2.2.1 u.2.2.2.2.2.2.2.2.2.1 u.2.2.2.2.2.2.2.2.2.2.1 u.2.2.2.2.2.2.2.2.2.2.2)
  (fun i u nx=>qz m (m.length:Int) i u.1 u.2.1 u.2.2.1 u.2.2.2.1 u.2.2.2.2.1 u.2.2.2.2.2.1 u.2.2.2.2.2.2.1 u.2.2.2.2.2.2.2.1 u.2.2.2.2.2.2.2.2.1 u.2.2.2.2.2.2.2.2.2.1 u.2.2.2.2.2.2.2.2.2.2.1 u.2.2.2.2.2.2.2.2.2.2.2 (fun i x0 x1 x2 x3 x4 x5 x6 c0 c1 c2 c3 c4=>nx i (x0,x1,x2,x3,x4,x5,x6,c0,c1,c2,c3,c4)) (fun x0 x1 x2 x3 x4 x5 x6 c0 c1 c2 c3 c4=>(fun v4q1 b0_0q2 b0_1q3 b0_2q4 b1_0q5 b1_1q6 b1_2q7 a2q8 b3_0q9 b3_1q10 b3_2q11 b3_3q12 b3_4q13=>(kr (decide (v4q1>=0)) b0_0q2 b0_1q3 b0_2q4 b1_0q5 b1_1q6 b1_2q7 a2q8 b3_0q9 b3_1q10 b3_2q11 b3_3q12 b3_4q13)) (-1:Int) x0 x1 x2 x3 x4 x5 x6 c0 c1 c2 c3 c4) (fun v4q1 b0_0q2 b0_1q3 b0_2q4 b1_0q5 b1_1q6 b1_2q7 a2q8 b3_0q9 b3_1q10 b3_2q11 b3_3q12 b3_4q13=>(kr (decide (v4q1>=0)) b0_0q2 b0_1q3 b0_2q4 b1_0q5 b1_1q6 b1_2q7 a2q8 b3_0q9 b3_1q10 b3_2q11 b3_3q12 b3_4q13))) (fun _ _ _=>rfl)
  (fun _ u=>u=(s.b,s.h,s.z,t.b,t.h,t.z,a,n,v,hi,lo,tt)) (fun r _=>kr (r.any (hasA v hi lo)) s.b s.h s.z t.b t.h t.z a n v hi lo tt) ?_ ?_ (s.b,s.h,s.z,t.b,t.h,t.z,a,n,v,hi,lo,tt) FU rfl (qca (by have:=hm.1;omega))
 · exact key
 · intro u nx hu;subst hu;simp[qz]
 · intro i y r u nx h1 h2 h3 h4 hu h5
   subst hu
   have hy:=hm.2 y (zmg h2)
   have h6:(i:Int)<(m.length:Int):=by omega
   unfold qz
   simp only[h6,zdt,zct,zin,h2,zos,hy.1,h4]
   rw[qbb3];unfold qm0
   rw[qbak,zos]
   simp only[h5 _ rfl]
   rw[List.any_cons,show qg9 (gB y.cells 0) (gI y.cells 1) (gI y.cells 2) (gI y.cells 3) v hi lo=hasA v hi lo y from rfl]
   have:decide ((i:Int)>=0)=true:=by simp
   cases hasA v hi lo y<;>simp[this]
section
variable {s t:Sp}(f:Fits s)(g:Fits t)(ns:s.h.length<=1000)(nt:t.h.length<=1000)(r:LA)(hr:qn r)
include f g ns hr
theorem qcaf (kx:List AV->List AV->List AV->List AV->List AV->List AV->List AV->Option (List AV×Int)):quz r s.h (s.h.length:Int) kx FU 0 s.b s.h s.z t.b t.h t.z []=kx s.b s.h s.z t.b t.h t.z (unhF s.h t.h r):=by
 rw[qbb6];unfold unhF
 have key:=qb0 (σ:=List AV×List AV×List AV×List AV×List AV×List AV×List AV) s.h f.h.1
  (fun k i u=>qip r s.h (s.h.length:Int) kx k i u.1 u.2.1 u.2.2.1 u.2.2.2.1 u.2.2.2.2.1 u.2.2.2.2.2.1 u.2.2.2.2.2.2)
  (fun i u nx=>qio r s.h (s.h.length:Int) i u.1 u.2.1 u.2.2.1 u.2.2.2.1 u.2.2.2.2.1 u.2.2.2.2.2.1 u.2.2.2.2.2.2 (fun i x0 x1 x2 x3 x4 x5 x6=>nx i (x0,x1,x2,x3,x4,x5,x6)) kx) (fun _ _ _=>rfl)
  (fun i u=>u.2.2.2.2.2.2.length<=i/\u=(s.b,s.h,s.z,t.b,t.h,t.z,u.2.2.2.2.2.2)) (fun q u=>kx s.b s.h s.z t.b t.h t.z (u.2.2.2.2.2.2++q.filter (isUn t.h r))) ?_ ?_ (s.b,s.h,s.z,t.b,t.h,t.z,[]) FU ⟨Nat.le_refl _,rfl⟩ (qca (by omega))
 · simpa using key
 · rintro u nx ⟨_,hu⟩
   obtain⟨u0,u1,u2,u3,u4,u5,u6⟩:=u
   simp only[Prod.mk.injEq,and_true]at hu
   obtain⟨rfl,rfl,rfl,rfl,rfl,rfl⟩:=hu
   simp[qio]
 · rintro i y q u nx h1 h2 h3 h4 ⟨hlen,hu⟩ h5
   obtain⟨u0,u1,u2,u3,u4,u5,u6⟩:=u
   simp only[Prod.mk.injEq,and_true]at hu
   obtain⟨rfl,rfl,rfl,rfl,rfl,rfl⟩:=hu
   simp only at hlen⊢
   have hy:=f.h.2 y (zmg h2)
   have h6:(i:Int)<(s.h.length:Int):=by omega
   unfold qio
   simp only[h6,zdt,zct,zin,h2,zos,hy.1,h4,zhs,zas]
   have hJ:∀kn:Bool->List AV->List AV->List AV->List AV->List AV->List AV->List AV->List UInt8->Bool->Int->Int->Int->Option (List AV×Int),quy r s.h (s.h.length:Int) (i:Int) s.b s.h s.z t.b t.h t.z u6 (gS y.cells 0) (gB y.cells 1) (gI y.cells 2) (gI y.cells 3) (gI y.cells 4) kn=kn (isUn t.h r y) s.b s.h s.z t.b t.h t.z u6 (gS y.cells 0) (gB y.cells 1) (gI y.cells 2) (gI y.cells 3) (gI y.cells 4):=fun kn=>by
    rw[qbb5];unfold qm2 isUn q9p
    rw[qb0f _ g.h,zos,ql7 hy.1]
    simp only[qb7x r hr,zhs,zct]
    cases memH t.h y<;>rfl
   rw[hJ]
   rw[show(AV.agg [(.str (gS y.cells 0)),(.bool (gB y.cells 1)),(.int .u64 (gI y.cells 2)),(.int .u64 (gI y.cells 3)),(.int .i64 (gI y.cells 4))])=y from ql7 hy.1]
   rw[List.filter_cons]
   cases isUn t.h r y with
   |false=>simp only[zcf];rw[h5 _ ⟨by show u6.length<=i+1;omega,rfl⟩];simp
   |true=>
    simp only[zct,zhs]
    rw[qbs6 y (by omega),h5 _ ⟨by show(u6++[y]).length<=i+1;simp;omega,rfl⟩]
    simp
omit g ns in
theorem qb7y {i:Nat}{y:AV}(hy:s.h[i]?=some y)(acc:LA)(kx:Bool->Option (List AV))(d:Bool):
 qqh s.h t.h r (i:Int) acc kx FU d 0=kx (d||q9p r y):=by
 have hyf:=f.h.2 y (zmg hy)
 rw[q6t]
 have key:=qb0 (σ:=Bool) r hr.1 (fun k j t'=>qf9 s.h t.h r (i:Int) acc kx k t' j)
  (fun j t' nx=>qf8 s.h t.h r (i:Int) t' j acc (fun t j=>nx j t) kx) (fun _ _ _=>rfl)
  (fun _ _=>True) (fun q t'=>kx (t'||q9p q y)) ?_ ?_ d FU trivial (qca (by have:=hr.1;omega))
 · exact key
 · intro t' nx _;simp[qf8,q9p]
 · intro j z q t' nx h1 h2 h3 h4 _ h5
   have hz:=hr.2 z (zmg h2)
   have h6:(j:Int)<(r.length:Int):=by omega
   unfold qf8
   cases t' with
   |true=>simp
   |false=>
    simp only[h6,zdt,znf,zas,zct,zin,h2,hy,zos,hz.1,hyf.1,h4,qbal _ _ _ _ _ _ _ hyf.2.1 hyf.2.2.1]
    rw[h5 _ trivial]
    rw[show q9p (z::q) y=(hasA (gB y.cells 1) (gI y.cells 2) (gI y.cells 3) z||q9p q y)from rfl,Bool.false_or]
    rfl
theorem qb1s:qw6 s.h t.h r=some (unhF s.h t.h r):=by
 rw[qbed];unfold qn0 unhF
 simp only[qpg,zas,zct]
 rw[q76]
 have key:=qb0 (σ:=List AV) s.h f.h.1 (fun k i u=>qgw s.h t.h r (fun a0q1=>(bif hd a0q1 a0q1.length then(some a0q1)else none)) k i u)
  (fun i u nx=>qgv s.h t.h r i u nx (fun a0q1=>(bif hd a0q1 a0q1.length then(some a0q1)else none))) (fun _ _ _=>rfl)
  (fun i u=>u.length<=i) (fun q u=>some (u++q.filter (isUn t.h r))) ?_ ?_ [] FU (Nat.le_refl _) (qca (by omega))
 · simpa using key
 · intro u nx _;simp[qgv]
 · intro i y q u nx h1 h2 h3 h4 hu h5
   have hy:=f.h.2 y (zmg h2)
   have h6:(i:Int)<(s.h.length:Int):=by omega
   unfold qgv
   simp only[h6,zdt,zct,zin,h2,zos,hy.1,h4,zhs,zas,qbkn t.h g.h,ql7 hy.1,qb7y f r hr h2]
   rw[show(AV.agg [(.str (gS y.cells 0)),(.bool (gB y.cells 1)),(.int .u64 (gI y.cells 2)),(.int .u64 (gI y.cells 3)),(.int .i64 (gI y.cells 4))])=y from ql7 hy.1]
   rw[List.filter_cons,show(!memH t.h y||q9p r y)=isUn t.h r y from rfl]
   cases isUn t.h r y with
   |false=>simp only[zcf];rw[h5 u (by omega)];simp
   |true=>
    simp only[zct,zhs]
    rw[qbs6 y (by omega),h5 (u++[y]) (by simp;omega)]
    simp
end
section
variable (s t:Sp)(f:Fits s)(g:Fits t)(r u:LA)(hr:qn r)(hu:qct u)
theorem qcag (nu:u.length<=1000)(hu:qct u)(acc:LA)(na:acc.length<=100000)(kx:List AV->Option (List AV×Int)):qu0 r (u.length:Int) s.b s.h s.z t.b t.h t.z u kx FU 0 acc=kx (acc++u.map unY):=by
 rw[qbb7]
 have key:=qb0 (σ:=List AV) u hu.1 (fun k i a=>qir r (u.length:Int) s.b s.h s.z t.b t.h t.z u kx k i a)
  (fun i a nx=>qiq r (u.length:Int) i s.b s.h s.z t.b t.h t.z u a nx kx) (fun _ _ _=>rfl)
  (fun i a=>a.length<=100000+i) (fun q a=>kx (a++q.map unY)) ?_ ?_ acc FU (by simpa using na) (qca (by omega))
 · exact key
 · intro a nx _;simp[qiq]
 · intro i y q a nx h1 h2 h3 h4 ha h5
   have hy:=hu.2 y (zmg h2)
   have h6:(i:Int)<(u.length:Int):=by omega
   have h7:decide (0<=(i:Int)/\(i:Int)<(u.length:Int))=true:=decide_eq_true ⟨by omega,by omega⟩
   unfold qiq
   simp only[h6,zdt,zct,zhs,h7,ztn,h2,zos,qb0a hy.1,qbu1 hy.1,h4]
   rw[qvk _ (by omega),h5 _ (by simp;omega)]
   simp[unY,unC,Chg.av]
theorem qcah (nu:u.length<=1000)(hu:qct u)(acc:LA)(na:acc.length<=100000)(kx:List AV->Option (List AV×Int)):qrs r u s.b s.h s.z t.b t.h t.z kx FU 0 acc=kx (acc++u.map unY):=by
 rw[q77]
 have key:=qb0 (σ:=List AV) u hu.1 (fun k i a=>qgy r u s.b s.h s.z t.b t.h t.z kx k i a)
  (fun i a nx=>qgx r u i s.b s.h s.z t.b t.h t.z a nx kx) (fun _ _ _=>rfl)
  (fun i a=>a.length<=100000+i) (fun q a=>kx (a++q.map unY)) ?_ ?_ acc FU (by simpa using na) (qca (by omega))
 · exact key
 · intro a nx _;simp[qgx]
 · intro i y q a nx h1 h2 h3 h4 ha h5
   have hy:=hu.2 y (zmg h2)
   have h6:(i:Int)<(u.length:Int):=by omega
   unfold qgx
   simp only[h6,zdt,zct,zhs,zin,h2,zos,hy.1,h4]
   rw[qvk _ (by omega),h5 _ (by simp;omega)]
   simp[unY,unC,Chg.av]
theorem qcai (nr:r.length<=1000)(hr:qn r)(acc:LA)(na:acc.length<=100000)(kx:List AV->Option (List AV×Int)):qu1 r s.b s.h s.z t.b t.h t.z u kx FU (i64.wrap ((r.length:Int)-1)) acc=kx (acc++r.reverse.map rmY):=by
 rw[qbb8]
 have key:=qbyk (σ:=List AV) r hr.1 (fun k i a=>qit r s.b s.h s.z t.b t.h t.z u kx k i a)
  (fun i a nx=>qis r i s.b s.h s.z t.b t.h t.z u a nx kx) (fun _ _ _=>rfl)
  (fun k a=>a.length<=100000+k) (fun q a=>kx (a++q.reverse.map rmY)) ?_ ?_ acc FU (by simpa using na) (qca (by omega))
 · exact key
 · intro a nx;simp[qis]
 · intro i y a nx h2 h3 h4 ha h5
   have hy:=hr.2 y (zmg h2)
   have h6:decide ((i:Int)>=0)=true:=by simp
   unfold qis
   simp only[h6,zct,zhs,zin,h2,zos,hy.1,h4]
   rw[qvk _ (by omega),h5 _ (by simp;omega)]
   rw[List.take_add_one,h2]
   simp[rmY,rmC,Chg.av]
theorem qcaj (nr:r.length<=1000)(hr:qn r)(acc:LA)(na:acc.length<=100000)(kx:List AV->Option (List AV×Int)):qrt r u s.b s.h s.z t.b t.h t.z kx FU (i64.wrap ((r.length:Int)-1)) acc=kx (acc++r.reverse.map rmY):=by
 rw[q78]
 have key:=qbyk (σ:=List AV) r hr.1 (fun k i a=>qg0 r u s.b s.h s.z t.b t.h t.z kx k i a)
  (fun i a nx=>qgz r u i s.b s.h s.z t.b t.h t.z a nx kx) (fun _ _ _=>rfl)
  (fun k a=>a.length<=100000+k) (fun q a=>kx (a++q.reverse.map rmY)) ?_ ?_ acc FU (by simpa using na) (qca (by omega))
 · exact key
 · intro a nx;simp[qgz]
 · intro i y a nx h2 h3 h4 ha h5
   have hy:=hr.2 y (zmg h2)
   have h6:decide ((i:Int)>=0)=true:=by simp
   unfold qgz
   simp only[h6,zct,zhs,zin,h2,zos,hy.1,h4]
   rw[qvk _ (by omega),h5 _ (by simp;omega)]
   rw[List.take_add_one,h2]
   simp[rmY,rmC,Chg.av]
theorem qcak (m:LA)(nm:m.length<=1000)(hm:qn m)(acc:LA)(na:acc.length<=100000)(kx:List AV->Option (List AV×Int)):qu2 m (m.length:Int) s.b s.h s.z t.b t.h t.z u kx FU 0 acc=kx (acc++m.map adY):=by
 rw[qbb9]
 have key:=qb0 (σ:=List AV) m hm.1 (fun k i a=>qiv m (m.length:Int) s.b s.h s.z t.b t.h t.z u kx k i a)
  (fun i a nx=>qiu m (m.length:Int) i s.b s.h s.z t.b t.h t.z u a nx kx) (fun _ _ _=>rfl)
  (fun i a=>a.length<=100000+i) (fun q a=>kx (a++q.map adY)) ?_ ?_ acc FU (by simpa using na) (qca (by omega))
 · exact key
 · intro a nx _;simp[qiu]
 · intro i y q a nx h1 h2 h3 h4 ha h5
   have hy:=hm.2 y (zmg h2)
   have h6:(i:Int)<(m.length:Int):=by omega
   unfold qiu
   simp only[h6,zdt,zct,zhs,zin,h2,zos,hy.1,h4]
   rw[qvk _ (by omega),h5 _ (by simp;omega)]
   simp[adY,adC,Chg.av]
theorem qb9h (m:LA)(nm:m.length<=1000)(hm:qct m)(acc:LA)(na:acc.length<=100000)(kx:List AV->Option (List AV×Int)):qs9 m (m.length:Int) kx FU 0 acc=kx (acc++m.map hoY):=by
 rw[q94]
 have key:=qb0 (σ:=List AV) m hm.1 (fun k i a=>qhk m (m.length:Int) kx k i a)
  (fun i a nx=>qhj m (m.length:Int) i a nx kx) (fun _ _ _=>rfl)
  (fun i a=>a.length<=100000+i) (fun q a=>kx (a++q.map hoY)) ?_ ?_ acc FU (by simpa using na) (qca (by omega))
 · exact key
 · intro a nx _;simp[qhj]
 · intro i y q a nx h1 h2 h3 h4 ha h5
   have hy:=hm.2 y (zmg h2)
   have h6:(i:Int)<(m.length:Int):=by omega
   unfold qhj
   simp only[h6,zdt,zct,zhs,zin,h2,zos,hy.1,h4]
   rw[qvk _ (by omega),h5 _ (by simp;omega)]
   simp[hoY,hoC,Chg.av]
theorem qcal (f:Fits s)(g:Fits t)(nt:t.b.length<=1000)(hr:qn r)(acc:LA)(na:acc.length<=100000)(kx:List AV->Option (List AV×Int)):qrv r u s.b s.h s.z t.b t.h t.z kx FU 0 acc=kx (acc++(qk6 s.b t.b r).map adY):=by
 rw[q8b]
 have key:=qb0 (σ:=List AV) t.b g.b.1 (fun k i a=>qg2 r u s.b s.h s.z t.b t.h t.z kx k i a)
  (fun i a nx=>qg1 r u i s.b s.h s.z t.b t.h t.z a nx kx) (fun _ _ _=>rfl)
  (fun i a=>a.length<=100000+i) (fun q a=>kx (a++(qk6 s.b q r).map adY)) ?_ ?_ acc FU (by simpa using na) (qca (by omega))
 · exact key
 · intro a nx _;simp[qg1,qk6]
 · intro i y q a nx h1 h2 h3 h4 ha h5
   have hy:=g.b.2 y (zmg h2)
   have h6:(i:Int)<(t.b.length:Int):=by omega
   unfold qg1
   have hJ:∀kn:Bool->Option (List AV×Int),qru r u (i:Int) s.b s.h s.z t.b t.h t.z a kn=kn (!memB s.b y||memB r y):=fun kn=>by
    rw[q8a];unfold qk0
    simp only[zin,h2,zos,hy.1,zct,q1g s.b f.b,q1g r hr,qe9 hy.1]
    cases memB s.b y<;>rfl
   simp only[h6,zdt,zct,zhs,zas,hJ,zin,h2,zos,hy.1,h4]
   have e:qk6 s.b (y::q) r=bif(!memB s.b y||memB r y)then y::qk6 s.b q r else qk6 s.b q r:=by
    unfold qk6;rw[List.filter_cons];cases(!memB s.b y||memB r y)<;>rfl
   rw[e]
   cases(!memB s.b y||memB r y)with
   |false=>simp only[zcf];rw[h5 a (by omega)]
   |true=>
    simp only[zct]
    rw[qvk _ (by omega),h5 _ (by simp;omega)]
    simp[adY,adC,Chg.av]
theorem qcam (f:Fits s)(g:Fits t)(nt:t.h.length<=1000)(hu:qct u)(acc:LA)(na:acc.length<=100000)(kx:List AV->Option (List AV×Int)):qrx u s.b s.h s.z t.b t.h t.z kx FU 0 acc=kx (acc++(qk7 s.h t.h u).map hoY):=by
 rw[q8e]
 have key:=qb0 (σ:=List AV) t.h g.h.1 (fun k i a=>qg4 u s.b s.h s.z t.b t.h t.z kx k i a)
  (fun i a nx=>qg3 u i s.b s.h s.z t.b t.h t.z a nx kx) (fun _ _ _=>rfl)
  (fun i a=>a.length<=100000+i) (fun q a=>kx (a++(qk7 s.h q u).map hoY)) ?_ ?_ acc FU (by simpa using na) (qca (by omega))
 · exact key
 · intro a nx _;simp[qg3,qk7]
 · intro i y q a nx h1 h2 h3 h4 ha h5
   have hy:=g.h.2 y (zmg h2)
   have h6:(i:Int)<(t.h.length:Int):=by omega
   unfold qg3
   have hJ:∀kn:Bool->Option (List AV×Int),qrw u (i:Int) s.b s.h s.z t.b t.h t.z a kn=kn (!memH s.h y||memH u y):=fun kn=>by
    rw[q8d];unfold qk1
    simp only[zin,h2,zos,hy.1,zct,qbkn s.h f.h,qbkn u hu,ql7 hy.1]
    cases memH s.h y<;>rfl
   simp only[h6,zdt,zct,zhs,zas,hJ,zin,h2,zos,hy.1,h4]
   have e:qk7 s.h (y::q) u=bif(!memH s.h y||memH u y)then y::qk7 s.h q u else qk7 s.h q u:=by
    unfold qk7;rw[List.filter_cons];cases(!memH s.h y||memH u y)<;>rfl
   rw[e]
   cases(!memH s.h y||memH u y)with
   |false=>simp only[zcf];rw[h5 a (by omega)]
   |true=>
    simp only[zct]
    rw[qvk _ (by omega),h5 _ (by simp;omega)]
    simp[hoY,hoC,Chg.av]
end
theorem qbo3 (a b:LA):(qv a b).length<=a.length:=List.length_filter_le _ _
theorem qbta (a b r:LA):(unhF a b r).length<=a.length:=List.length_filter_le _ _
theorem qbo4 (a b r:LA):(qk6 a b r).length<=b.length:=List.length_filter_le _ _
theorem qbko (a b u:LA):(qk7 a b u).length<=b.length:=List.length_filter_le _ _
theorem q9q {s:Sp}(p:Plan s):s.b.length<=512/\s.h.length<=256:=⟨p.nb,p.nh⟩
theorem qb3z {s t:Sp}(f:Fits s)(g:Fits t):q17 s.b s.h s.z t.b t.h t.z=some (betF s t):=by
 rw[qbmn];unfold qrp betF
 rw[qbyc s.b s.h s.z f.b f.h f.z,zos,qbyc t.b t.h t.z g.b g.h g.z]
 by_cases h0:qdl s.b s.h s.z=0
 · by_cases h1:qdl t.b t.h t.z=0
   · have p:=(q2v f).1 h0
     have q:=(q2v g).1 h1
     obtain⟨n1,n2⟩:=q9q p
     obtain⟨n3,n4⟩:=q9q q
     have e0:(qdl s.b s.h s.z != 0)=false:=by simp[h0]
     have e1:(qdl t.b t.h t.z != 0)=false:=by simp[h1]
     simp only[e0,e1,zcf,zos,qcae _ _ f.z g.z]
     cases eqZ s.z t.z with
     |false=>rfl
     |true=>
      have hr:qn (qv s.b t.b):=qph f.b _
      have hu:qct (unhF s.h t.h (qv s.b t.b)):=qxx f.h _
      have l1:=qbo3 s.b t.b
      have l2:=qbta s.h t.h (qv s.b t.b)
      have l3:=qbo4 s.b t.b (qv s.b t.b)
      have l4:=qbko s.h t.h (unhF s.h t.h (qv s.b t.b))
      have k1:qn (s.b.filter fun x=> !memB (qv s.b t.b) x):=qph f.b _
      have k2:qct (s.h.filter fun x=> !memH (unhF s.h t.h (qv s.b t.b)) x):=qxx f.h _
      have m1:(t.b.filter fun x=> !memB (s.b.filter fun x=> !memB (qv s.b t.b) x) x)=qk6 s.b t.b (qv s.b t.b):=List.filter_congr fun x hx=>by
       rw[qbnc f.b (g.b.2 x hx)];cases memB s.b x<;>cases memB (qv s.b t.b) x<;>rfl
      have m2:(t.h.filter fun x=> !memH (s.h.filter fun x=> !memH (unhF s.h t.h (qv s.b t.b)) x) x)=qk7 s.h t.h (unhF s.h t.h (qv s.b t.b)):=List.filter_congr fun x hx=>by
       rw[qbzb f.h (g.h.2 x hx)];cases memH s.h x<;>cases memH (unhF s.h t.h (qv s.b t.b)) x<;>rfl
      have a1:qn (qk6 s.b t.b (qv s.b t.b)):=qph g.b _
      have a2:qct (qk7 s.h t.h (unhF s.h t.h (qv s.b t.b))):=qxx g.h _
      simp only[znt,zcf,qb9g _ _ f.b g.b (by omega) (by omega),zos,qpg,zas,zct,qcaf f g (by omega) _ hr,zhs]
      rw[qcag s t _ _ (by omega) hu [] (by simp)]
      try simp only[zhs,zas,zct]
      rw[qcai s t _ _ (by omega) hr _ (by simp;omega)]
      rw[qbk1 _ _ f.b hr (by omega),zos,qbk1 _ _ g.b k1 (by omega),zos,m1]
      try simp only[zhs,zas,zct]
      rw[qcak s t _ _ (by omega) a1 _ (by simp;omega)]
      rw[qb0g _ _ f.h hu (by omega),zos,qb0g _ _ g.h k2 (by omega),zos,m2]
      try simp only[zhs,zas,zct]
      rw[qb9h _ (by omega) a2 _ (by simp;omega)]
      have ec:((([]++(unhF s.h t.h (qv s.b t.b)).map unY)++(qv s.b t.b).reverse.map rmY)++(qk6 s.b t.b (qv s.b t.b)).map adY)++(qk7 s.h t.h (unhF s.h t.h (qv s.b t.b))).map hoY=chsF s t:=by
       unfold chsF;simp only[List.nil_append,List.append_assoc]
      rw[ec]
      cases decide (((chsF s t).length:Int)>64)<;>simp
   · have e0:(qdl s.b s.h s.z != 0)=false:=by simp[h0]
     have e1:(qdl t.b t.h t.z != 0)=true:=by simpa using h1
     simp only[e0,e1,zcf,zct,zos];rfl
 · have e0:(qdl s.b s.h s.z != 0)=true:=by simpa using h0
   simp only[e0,zct];rfl
theorem qbyl {s t:Sp}(f:Fits s)(g:Fits t):qy3 s.b s.h s.z t.b t.h t.z=some (betF s t):=by
 rw[qbhi];unfold qo3 betF
 rw[qbu0 s.b s.h s.z f.b f.h f.z,zos,qbu0 t.b t.h t.z g.b g.h g.z]
 by_cases h0:qdl s.b s.h s.z=0
 · by_cases h1:qdl t.b t.h t.z=0
   · have p:=(q2v f).1 h0
     have q:=(q2v g).1 h1
     obtain⟨n1,n2⟩:=q9q p
     obtain⟨n3,n4⟩:=q9q q
     have e0:(qdl s.b s.h s.z != 0)=false:=by simp[h0]
     have e1:(qdl t.b t.h t.z != 0)=false:=by simp[h1]
     simp only[e0,e1,zcf,zos,qb7w _ _ f.z g.z]
     cases eqZ s.z t.z with
     |false=>rfl
     |true=>
      have hr:qn (qv s.b t.b):=qph f.b _
      have hu:qct (unhF s.h t.h (qv s.b t.b)):=qxx f.h _
      have l1:=qbo3 s.b t.b
      have l2:=qbta s.h t.h (qv s.b t.b)
      have l3:=qbo4 s.b t.b (qv s.b t.b)
      have l4:=qbko s.h t.h (unhF s.h t.h (qv s.b t.b))
      simp only[znt,zcf,qb3y _ _ f.b g.b (by omega),zos,qb1s f g (by omega) _ hr,qpg,zas,zct]
      rw[qcah s t _ _ (by omega) hu [] (by simp)]
      try simp only[zhs,zas,zct]
      rw[qcaj s t _ _ (by omega) hr _ (by simp;omega)]
      try simp only[zhs,zas,zct]
      rw[qcal s t _ _ f g (by omega) hr _ (by simp;omega)]
      try simp only[zhs,zas,zct]
      rw[qcam s t _ f g (by omega) hu _ (by simp;omega)]
      have ec:((([]++(unhF s.h t.h (qv s.b t.b)).map unY)++(qv s.b t.b).reverse.map rmY)++(qk6 s.b t.b (qv s.b t.b)).map adY)++(qk7 s.h t.h (unhF s.h t.h (qv s.b t.b))).map hoY=chsF s t:=by
       unfold chsF;simp only[List.nil_append,List.append_assoc]
      rw[ec]
      cases decide (((chsF s t).length:Int)>64)<;>simp
   · have e0:(qdl s.b s.h s.z != 0)=false:=by simp[h0]
     have e1:(qdl t.b t.h t.z != 0)=true:=by simpa using h1
     simp only[e0,e1,zcf,zct,zos];rfl
 · have e0:(qdl s.b s.h s.z != 0)=true:=by simpa using h0
   simp only[e0,zct];rfl
theorem qbfp {R:AV->AV->Prop}(irr:∀x,¬R x x)(tr:∀{x y z},R x y->R y z->R x z):∀{l m:LA},l.Pairwise R->m.Pairwise R->(∀y,y∈l↔y∈m)->l=m
 |[],[],_,_,_=>rfl
 |[],y::m,_,_,h=>by have:=(h y).2 (by simp);simp at this
 |x::l,[],_,_,h=>by have:=(h x).1 (by simp);simp at this
 |x::l,y::m,hl,hm,h=>by
  rw[List.pairwise_cons]at hl hm
  have e:x=y:=by
   rcases List.mem_cons.1 ((h x).1 (by simp))with e|hx
   · exact e
   · rcases List.mem_cons.1 ((h y).2 (by simp))with e|hy
     · exact e.symm
     · exact absurd (tr (hl.1 y hy) (hm.1 x hx)) (irr x)
  subst e
  congr 1
  refine qbfp irr tr hl.2 hm.2 fun z=>⟨fun hz=> ?_,fun hz=> ?_⟩
  · rcases List.mem_cons.1 ((h z).1 (zmc _ hz))with e|h'
    · subst e;exact absurd (hl.1 z hz) (irr z)
    · exact h'
  · rcases List.mem_cons.1 ((h z).2 (zmc _ hz))with e|h'
    · subst e;exact absurd (hm.1 z hz) (irr z)
    · exact h'
theorem qbtb (y:AV):¬ltY y y:=qff
theorem qbym {x y z:AV}(h1:ltY x y)(h2:ltY y z):ltY x z:=qzu h1 h2
def sH (h y:AV):Bool:=atH (gS h.cells 0) (gB h.cells 1) (gI h.cells 2) (gI h.cells 3) y
def hasH (l:LA)(y:AV):Bool:=l.any fun h=>sH h y
def hasB (l:LA)(y:AV):Bool:=l.any fun x=>atY x y
theorem qbtc (y:AV):sH y y=true:=q2u.2 ⟨rfl,rfl,rfl,rfl⟩
theorem qbo5 (y:AV):atY y y=true:=qwj.2 rfl
theorem qbk2 {x y:AV}(h:ltH x y):sH x y=false/\sH y x=false:=by
 have h1:=q39.1 h
 have h2:=qbrw.2 h
 constructor
 · cases hq:sH x y with
   |false=>rfl
   |true=>have:cmpH y x=0:=qwm.1 hq;omega
 · cases hq:sH y x with
   |false=>rfl
   |true=>have:cmpH x y=0:=qwm.1 hq;omega
theorem qb30 {x y:AV}(h:ltY x y):atY x y=false/\atY y x=false:=by
 have key:∀{a b:AV},pqY a=pqY b->ltY a b->False:=fun {a b} e h=>by
  have h':ltP (pqY a).v (pqY a).hi (pqY a).lo (pqY a).bits (pqY b).v (pqY b).hi (pqY b).lo (pqY b).bits:=h
  rw[e]at h'
  exact qff h'
 constructor
 · cases hq:atY x y with
   |false=>rfl
   |true=>exact(key (qwj.1 hq).symm h).elim
 · cases hq:atY y x with
   |false=>rfl
   |true=>exact(key (qwj.1 hq) h).elim
theorem qb0h {l:LA}(hp:l.Pairwise ltH){y z:AV}(hy:y∈l)(hz:z∈l)(h:sH y z=true):z=y:=by
 obtain⟨i,hi,rfl⟩:=List.mem_iff_getElem.1 hy
 obtain⟨j,hj,rfl⟩:=List.mem_iff_getElem.1 hz
 rcases Nat.lt_trichotomy i j with h1|h1|h1
 · have:=(qbk2 (List.pairwise_iff_getElem.1 hp i j hi hj h1)).1;rw[this]at h;cases h
 · subst h1;rfl
 · have:=(qbk2 (List.pairwise_iff_getElem.1 hp j i hj hi h1)).2;rw[this]at h;cases h
theorem q7n {l m:LA}(hp:m.Pairwise ltH)(hs:∀x,x∈l->x∈m){y:AV}(hy:y∈m):hasH l y=true↔y∈l:=by
 unfold hasH
 rw[zay]
 constructor
 · rintro⟨x,h1,h2⟩;rw[qb0h hp (hs x h1) hy h2];exact h1
 · intro h;exact⟨y,h,qbtc y⟩
theorem qbfq {l m:LA}(ht:qcz m)(hs:∀x,x∈l->x∈m){y:AV}(hy:y∈m):hasB l y=true↔y∈l:=by
 unfold hasB
 rw[zay]
 constructor
 · rintro⟨x,h1,h2⟩;rw[qbfh ht (hs x h1) hy (qwj.1 h2)];exact h1
 · intro h;exact⟨y,h,qbo5 y⟩
theorem qbo6:∀{l:LA} {k:Nat} {y:AV},l.Pairwise ltH->l[k]?=some y->outH l k=l.filter fun z=> !sH y z
 |[],k,y,_,e=>by simp at e
 |x::r,0,y,hp,e=>by
  have:x=y:=by simpa using e
  subst this
  have e0:outH (x::r) 0=r:=rfl
  rw[List.pairwise_cons]at hp
  rw[e0,List.filter_cons,qbtc]
  simp only[znt,Bool.false_eq_true,if_false]
  exact(List.filter_eq_self.2 fun z hz=>by rw[(qbk2 (hp.1 z hz)).1];rfl).symm
 |x::r,k+1,y,hp,e=>by
  have e':r[k]?=some y:=by simpa using e
  have e0:outH (x::r) (k+1)=x::outH r k:=rfl
  rw[List.pairwise_cons]at hp
  rw[e0,List.filter_cons,(qbk2 (hp.1 y (zmg e'))).2,qbo6 hp.2 e']
  simp
theorem qb5z {l:LA}(hp:l.Pairwise ltH){y:AV}(hy:y∈l):insH y (l.filter fun z=> !sH y z)=l:=by
 obtain⟨k,hk⟩:=List.getElem?_of_mem hy
 rw[<-qbo6 hp hk,qb0d hp hk]
theorem qbv6 (l:LA)(p q r:AV->Bool)(h:∀y,(q y&&p y)=r y):(l.filter p).filter q=l.filter r:=by
 rw[List.filter_filter];congr 1;funext y;rw[<-h y]
theorem qb7z (c:Chg):chgY c.av=c:=rfl
theorem qbfr {i:Nat}{s s':Sp}{c:Chg}{r:LA}(h:qc3 s c=(s',0)):runL i s (c.av::r)=runL (i+1) s' r:=by
 rw[show runL i s (c.av::r)=bif(qc3 s (chgY c.av)).2 != 0 then(sp0,(i:Int),(qc3 s (chgY c.av)).2)else runL (i+1) (qc3 s (chgY c.av)).1 r from rfl,qb7z,h]
 rfl
theorem qb31 {h:AV}(hh:qxw h):CFit (unC (gS h.cells 0) (gB h.cells 1) (gI h.cells 2) (gI h.cells 3)):=⟨uok0,uok0,hh.2.1,hh.2.2.1,qn8,qn8,hh.2.2.2,qn8⟩
theorem qb32 {y:AV}(hy:qg7 y):CFit (rmC (gB y.cells 0) (gI y.cells 1) (gI y.cells 2) (gI y.cells 3)):=⟨hy.2.1,hy.2.2.1,uok0,uok0,qn8,qn8,qn8,qn8⟩
theorem qb33 {y:AV}(hy:qg7 y):CFit (adC y):=⟨hy.2.1,hy.2.2.1,uok0,uok0,hy.2.2.2.1,hy.2.2.2.2,qn8,qn8⟩
theorem qb34 {h:AV}(hh:qxw h):CFit (hoC h):=⟨uok0,uok0,hh.2.1,hh.2.2.1,qn8,qn8,hh.2.2.2,qn8⟩
theorem ph1:∀(todo:LA) (s:Sp) (i:Nat) (rest:LA),Plan s->todo.Pairwise ltH->(∀h,h∈todo->h∈s.h)->
 ∃s':Sp,s'.b=s.b/\s'.z=s.z/\(s'.h=s.h.filter fun y=> !hasH todo y)/\Plan s'/\runL i s (todo.map unY++rest)=runL (i+todo.length) s' rest
 |[],s,i,rest,p,_,_=>⟨s,rfl,rfl,(List.filter_eq_self.2 fun y _=>rfl).symm,p,rfl⟩
 |h::t,s,i,rest,p,hp,hm=>by
  rw[List.pairwise_cons]at hp
  have hh:=hm h (by simp)
  obtain⟨k,hk,_⟩:=qbz5 (q:=sH h) (l:=s.h) (zay.2 ⟨h,hh,qbtc h⟩)
  obtain⟨y,hy,hf⟩:=qpa s.h k hk
  have ey:=qb0h p.ph hh (zmg hy) (List.find?_some hf)
  subst ey
  have hA:qc3 s (unC (gS y.cells 0) (gB y.cells 1) (gI y.cells 2) (gI y.cells 3))=(⟨s.b,s.h.filter fun z=> !sH y z,s.z⟩,0):=by
   rw[qcab]
   unfold qpf
   rw[show idxO (atH (gS y.cells 0) (gB y.cells 1) (gI y.cells 2) (gI y.cells 3)) s.h=some k from hk]
   simp only[qbo6 p.ph hy]
  have p1:=q1f p (qb31 (p.f.h.2 y hh)) (by rw[hA])
  rw[hA]at p1
  obtain⟨s',h1,h2,h3,h4,h5⟩:=ph1 t ⟨s.b,s.h.filter fun z=> !sH y z,s.z⟩ (i+1) rest p1 hp.2 (fun z hz=>zmf.2 ⟨hm z (zmc _ hz),by rw[(qbk2 (hp.1 z hz)).1];rfl⟩)
  refine⟨s',h1,h2,h3.trans (qbv6 _ _ _ _ fun z=> ?_),h4,?_⟩
  · rw[show hasH (y::t) z=(sH y z||hasH t z)from rfl]
    cases sH y z<;>cases hasH t z<;>rfl
  · rw[List.map_cons,List.cons_append]
    refine(qbfr hA).trans (h5.trans ?_)
    rw[List.length_cons];congr 1;omega
theorem qb35 {x y:AV}(hy:qg7 y)(gx:(pqY x).good)(gy:(pqY y).good)(h1:(pqY y).np.sub (pqY x).np)(h2:(pqY y).np.k<(pqY x).np.k):ltY x y:=by
 refine(qbf2 hy ((qgi gy gx).2 h1) ?_).1
 cases hq:atP (gB x.cells 0) (gI x.cells 1) (gI x.cells 2) (gI x.cells 3) y with
 |false=>rfl
 |true=>have:=(qwj (b:=x)).1 hq;rw[this]at h2;omega
theorem ph2:∀(todo:LA) (s:Sp) (i:Nat) (rest:LA),Plan s->(todo.Pairwise fun x y=>ltY y x)->(∀x,x∈todo->x∈s.b)->
 (∀x,x∈todo->∀y,y∈s.b->(pqY y).np.sub (pqY x).np->(pqY y).np.k<(pqY x).np.k->y∈todo)->
 (∀h,h∈s.h->∃y,y∈s.b/\y∉todo/\hasA (gB h.cells 1) (gI h.cells 2) (gI h.cells 3) y=true/\kin y=true)->
 ∃s':Sp,(s'.b=s.b.filter fun y=> !hasB todo y)/\s'.z=s.z/\s'.h=s.h/\Plan s'/\runL i s (todo.map rmY++rest)=runL (i+todo.length) s' rest
 |[],s,i,rest,p,_,_,_,_=>⟨s,(List.filter_eq_self.2 fun y _=>rfl).symm,rfl,rfl,p,rfl⟩
 |x::t,s,i,rest,p,hp,hm,hc,hb=>by
  rw[List.pairwise_cons]at hp
  have hx:=hm x (by simp)
  have hg:=qf4 p.f.b p.tb
  have e1:s.b.any (atP (gB x.cells 0) (gI x.cells 1) (gI x.cells 2) (gI x.cells 3))=true:=zay.2 ⟨x,hx,qbo5 x⟩
  have e2:occF s.b (gB x.cells 0) (gI x.cells 1) (gI x.cells 2) (gI x.cells 3)=false:=(qbkz (p:=pqY x) hg (hg x hx)).2 fun y hy h=>by
   rcases List.mem_cons.1 (hc x (by simp) y hy h.1 h.2)with e|hy'
   · subst e;have:=h.2;omega
   · exact absurd (qbym (qb35 (p.f.b.2 y hy) (hg x hx) (hg y hy) h.1 h.2) (hp.1 y hy')) (qbtb x)
  have hq:∀y,y∈s.b->y≠x->atY x y=false:=fun y hy hne=>by
   cases h:atY x y with
   |false=>rfl
   |true=>exact absurd (qbfh p.tb hx hy (qwj.1 h)) hne
  have hR:qce s.b (gB x.cells 0) (gI x.cells 1) (gI x.cells 2) (gI x.cells 3)=(s.b.filter fun y=> !atY x y,0):=by
   unfold qce;rw[e1,e2];rfl
  have hT:qcz (s.b.filter fun y=> !atY x y):=p.tb.rem _ _ _ _
  have hF:qn (s.b.filter fun y=> !atY x y):=qph p.f.b _
  have hA:qc3 s (rmC (gB x.cells 0) (gI x.cells 1) (gI x.cells 2) (gI x.cells 3))=(⟨s.b.filter fun y=> !atY x y,s.h,s.z⟩,0):=by
   rw[qb98,hR]
   have:lost (s.b.filter fun y=> !atY x y) s.h=false:=qb5v fun h hh=>by
    obtain⟨y,y1,y2,y3,y4⟩:=hb h hh
    have hf:=p.f.h.2 h hh
    exact(qbfn hF hT hf.2.1 hf.2.2.1).2 ⟨y,zmf.2 ⟨y1,by rw[hq y y1 (fun e=>y2 (by simp[e]))];rfl⟩,y3,y4⟩
   simp only[bne_self_eq_false,zcf,this]
  have p1:=q1f p (qb32 (p.f.b.2 x hx)) (by rw[hA])
  rw[hA]at p1
  obtain⟨s',h1,h2,h3,h4,h5⟩:=ph2 t ⟨s.b.filter fun y=> !atY x y,s.h,s.z⟩ (i+1) rest p1 hp.2
   (fun y hy=>zmf.2 ⟨hm y (zmc _ hy),by rw[(qb30 (hp.1 y hy)).2];rfl⟩)
   (fun z hz y hy k1 k2=>by
    have hy':=zmf.1 hy
    rcases List.mem_cons.1 (hc z (zmc _ hz) y hy'.1 k1 k2)with e|h
    · subst e;have:=hy'.2;rw[qbo5]at this;cases this
    · exact h)
   (fun h hh=>by
    obtain⟨y,y1,y2,y3,y4⟩:=hb h hh
    exact⟨y,zmf.2 ⟨y1,by rw[hq y y1 (fun e=>y2 (by simp[e]))];rfl⟩,fun hy=>y2 (zmc _ hy),y3,y4⟩)
  refine⟨s',h1.trans (qbv6 _ _ _ _ fun z=> ?_),h2,h3,h4,?_⟩
  · rw[show hasB (x::t) z=(atY x z||hasB t z)from rfl]
    cases atY x z<;>cases hasB t z<;>rfl
  · rw[List.map_cons,List.cons_append]
    refine(qbfr hA).trans (h5.trans ?_)
    rw[List.length_cons];congr 1;omega
theorem ph3 {B:LA}(hB:qn B)(tB:qcz B)(nB:B.length<=512):∀(todo:LA) (s:Sp) (i:Nat) (rest:LA),Plan s->todo.Pairwise ltY->(∀x,x∈todo->x∈B)->
 (s.b=B.filter fun y=> !hasB todo y)->(∀x,x∈todo->∀y,y∈s.b->¬((pqY y).np.sub (pqY x).np/\(pqY y).np.k<(pqY x).np.k))->
 ∃s':Sp,s'.b=B/\s'.z=s.z/\s'.h=s.h/\Plan s'/\runL i s (todo.map adY++rest)=runL (i+todo.length) s' rest
 |[],s,i,rest,p,_,_,hs,_=>⟨s,hs.trans (List.filter_eq_self.2 fun y _=>rfl),rfl,rfl,p,rfl⟩
 |x::t,s,i,rest,p,hp,hm,hs,hd=>by
  rw[List.pairwise_cons]at hp
  have hx:=hm x (by simp)
  have hxf:=hB.2 x hx
  have hgB:=qf4 hB tB
  have hg:=qf4 p.f.b p.tb
  have hin:∀z,z∈s.b->z∈B/\atY x z=false:=fun z hz=>by
   rw[hs]at hz
   have:=zmf.1 hz
   refine⟨this.1,?_⟩
   have h2:=this.2
   rw[show hasB (x::t) z=(atY x z||hasB t z)from rfl]at h2
   cases h:atY x z with
   |false=>rfl
   |true=>rw[h]at h2;cases h2
  have hxt:hasB t x=false:=List.any_eq_false.2 fun y hy=>by rw[(qb30 (hp.1 y hy)).2];simp
  have hins:insF x s.b=B.filter fun y=> !hasB t y:=by
   have h1:=qbs0 (y:=x) (l:=B.filter fun y=> !hasB t y) ((q5v tB).filter _) (zmf.2 ⟨hx,by rw[hxt];rfl⟩)
   rw[qbv6 B (fun y=> !hasB t y) (fun z=> !atY x z) (fun y=> !hasB (x::t) y) (fun z=>by
    rw[show hasB (x::t) z=(atY x z||hasB t z)from rfl]
    cases atY x z<;>cases hasB t z<;>rfl),<-hs]at h1
   exact h1
  have e1:qm7 x=true:=(hgB x hx).1
  have e2:mayB x=true:=tB.may hx
  have e3:s.b.any (atP (gB x.cells 0) (gI x.cells 1) (gI x.cells 2) (gI x.cells 3))=false:=qbz6.2 fun z hz=>(hin z hz).2
  have e4:s.b.any (qbw x)=false:=List.any_eq_false.2 fun z hz=>by simp[tB.bars hB hx (hin z hz).1]
  have e5:occF s.b (gB x.cells 0) (gI x.cells 1) (gI x.cells 2) (gI x.cells 3)=false:=(qbkz (p:=pqY x) hg (hgB x hx)).2 (hd x (by simp))
  have e6:¬(s.b.length:Int)>=512:=by
   have h1:=congrArg List.length hins
   rw[q7g]at h1
   have h2:(B.filter fun y=> !hasB t y).length<=B.length:=List.length_filter_le _ _
   omega
  have hA:qc3 s (adC x)=(⟨insF x s.b,s.h,s.z⟩,0):=by
   rw[qb99,qbun hxf.1]
   have:addF s.b x=(insF x s.b,0):=by
    unfold addF
    simp only[e1,e2,e3,e4,e5,e6,znt,Bool.or_self,zdf,zcf]
   simp only[this,bne_self_eq_false,zcf]
  have p1:=q1f p (qb33 hxf) (by rw[hA])
  rw[hA]at p1
  obtain⟨s',h1,h2,h3,h4,h5⟩:=ph3 hB tB nB t ⟨insF x s.b,s.h,s.z⟩ (i+1) rest p1 hp.2 (fun y hy=>hm y (zmc _ hy)) hins (fun z hz y hy k=>by
   rcases qr5.1 hy with e|hy
   · subst e
     have hzB:=hm z (zmc _ hz)
     exact qbtb _ (qbym (qb35 hxf (hgB z hzB) (hgB y hx) k.1 k.2) (hp.1 z hz))
   · exact hd z (zmc _ hz) y hy k)
  refine⟨s',h1,h2,h3,h4,?_⟩
  rw[List.map_cons,List.cons_append]
  refine(qbfr hA).trans (h5.trans ?_)
  rw[List.length_cons];congr 1;omega
theorem ph4 {H:LA}(hH:qct H)(pH:H.Pairwise ltH)(nH:H.length<=256):∀(todo:LA) (s:Sp) (i:Nat) (rest:LA),Plan s->todo.Pairwise ltH->
 (∀x,x∈todo->x∈H/\qpe x=0/\blkd s.b (gB x.cells 1) (gI x.cells 2) (gI x.cells 3)=true/\qge s.z (gS x.cells 0)=true)->
 (s.h=H.filter fun y=> !hasH todo y)->
 ∃s':Sp,s'.b=s.b/\s'.z=s.z/\s'.h=H/\Plan s'/\runL i s (todo.map hoY++rest)=runL (i+todo.length) s' rest
 |[],s,i,rest,p,_,_,hs=>⟨s,rfl,rfl,hs.trans (List.filter_eq_self.2 fun y _=>rfl),p,rfl⟩
 |x::t,s,i,rest,p,hp,hm,hs=>by
  rw[List.pairwise_cons]at hp
  obtain⟨hx,x1,x2,x3⟩:=hm x (by simp)
  have hxf:=hH.2 x hx
  have hin:∀z,z∈s.h->sH x z=false:=fun z hz=>by
   rw[hs]at hz
   have h2:=(zmf.1 hz).2
   rw[show hasH (x::t) z=(sH x z||hasH t z)from rfl]at h2
   cases h:sH x z with
   |false=>rfl
   |true=>rw[h]at h2;cases h2
  have hxt:hasH t x=false:=List.any_eq_false.2 fun y hy=>by rw[(qbk2 (hp.1 y hy)).2];simp
  have hins:insH x s.h=H.filter fun y=> !hasH t y:=by
   have h1:=qb5z (y:=x) (l:=H.filter fun y=> !hasH t y) (pH.filter _) (zmf.2 ⟨hx,by rw[hxt];rfl⟩)
   rw[qbv6 H (fun y=> !hasH t y) (fun z=> !sH x z) (fun y=> !hasH (x::t) y) (fun z=>by
    rw[show hasH (x::t) z=(sH x z||hasH t z)from rfl]
    cases sH x z<;>cases hasH t z<;>rfl),<-hs]at h1
   exact h1
  have e3:s.h.any (atH (gS x.cells 0) (gB x.cells 1) (gI x.cells 2) (gI x.cells 3))=false:=List.any_eq_false.2 fun z hz=>by rw[show atH (gS x.cells 0) (gB x.cells 1) (gI x.cells 2) (gI x.cells 3) z=sH x z from rfl,hin z hz];simp
  have e6:¬(s.h.length:Int)>=256:=by
   have h1:=congrArg List.length hins
   rw[q7l]at h1
   have h2:(H.filter fun y=> !hasH t y).length<=H.length:=List.length_filter_le _ _
   omega
  have hA:qc3 s (hoC x)=(⟨s.b,insH x s.h,s.z⟩,0):=by
   rw[qcaa];unfold qyo
   rw[ql7 hxf.1]
   simp only[qb3u x1,e3,e6,x2,x3,bne_self_eq_false,znt,zdf,zcf]
  have p1:=q1f p (qb34 hxf) (by rw[hA])
  rw[hA]at p1
  obtain⟨s',h1,h2,h3,h4,h5⟩:=ph4 hH pH nH t ⟨s.b,insH x s.h,s.z⟩ (i+1) rest p1 hp.2 (fun y hy=>hm y (zmc _ hy)) hins
  refine⟨s',h1,h2,h3,h4,?_⟩
  rw[List.map_cons,List.cons_append]
  refine(qbfr hA).trans (h5.trans ?_)
  rw[List.length_cons];congr 1;omega
theorem qbyn:∀{z w:LA},eqZ z w=true->∀n,qge z n=qge w n
 |[],[],_,n=>rfl
 |x::r,y::q,h,n=>by
  unfold eqZ at h
  rw[zat,beq_iff_eq]at h
  rw[show qge (x::r) n=(qsm n (gS x.cells 0)||qge r n)from rfl,show qge (y::q) n=(qsm n (gS y.cells 0)||qge q n)from rfl,h.1,qbyn h.2 n]
 |[],_::_,h,_=>by cases h
 |_::_,[],h,_=>by cases h
theorem qb36 {a b c:Np}(h1:a.sub b)(h2:b.sub c):a.sub c:=Np.sub_trans h1 h2
theorem qbnd {a b:LA}(ha:qn a)(hb:qn b)(ta:qcz a)(tb:qcz b){x y:AV}(hx:x∈a)(hy:y∈a)(h:qqs a b x=true)(hw:(pqY y).np.sub (pqY x).np):qqs a b y=true:=by
 have ga:=qf4 ha ta
 have gb:=qf4 hb tb
 unfold qqs at h⊢
 rw[Bool.or_eq_true,Bool.or_eq_true]at h⊢
 rcases h with h|h|h
 · exact .inr (.inl (zay.2 ⟨x,hx,by rw[h];exact(qgi (ga y hy) (ga x hx)).2 hw⟩))
 · obtain⟨z,hz,h2⟩:=zay.1 h
   rw[zat]at h2
   exact .inr (.inl (zay.2 ⟨z,hz,by rw[h2.1];exact(qgi (ga y hy) (ga z hz)).2 (qb36 hw ((qgi (ga x hx) (ga z hz)).1 h2.2))⟩))
 · obtain⟨z,hz,h2⟩:=zay.1 h
   rw[zat]at h2
   exact .inr (.inr (zay.2 ⟨z,hz,by rw[h2.1];exact(qgi (ga y hy) (gb z hz)).2 (qb36 hw ((qgi (ga x hx) (gb z hz)).1 h2.2))⟩))
theorem qb70 {s t:Sp}(p:Plan s)(q:Plan t)(hz:eqZ s.z t.z=true):runL 0 s (chsF s t)=(⟨t.b,t.h,s.z⟩,((chsF s t).length:Int),0):=by
 have hga:=qf4 p.f.b p.tb
 have hgb:=qf4 q.f.b q.tb
 have hRs:∀x,x∈qv s.b t.b->x∈s.b:=fun x hx=>(zmf.1 hx).1
 have hUs:∀x,x∈unhF s.h t.h (qv s.b t.b)->x∈s.h:=fun x hx=>(zmf.1 hx).1
 have hAs:∀x,x∈qk6 s.b t.b (qv s.b t.b)->x∈t.b:=fun x hx=>(zmf.1 hx).1
 have hHs:∀x,x∈qk7 s.h t.h (unhF s.h t.h (qv s.b t.b))->x∈t.h:=fun x hx=>(zmf.1 hx).1
 have hRf:∀z,z∈qv s.b t.b->qg7 z:=fun z hz=>p.f.b.2 z (hRs z hz)
 have hUf:∀z,z∈unhF s.h t.h (qv s.b t.b)->qxw z:=fun z hz=>p.f.h.2 z (hUs z hz)
 unfold chsF
 obtain⟨s1,a1,a2,a3,a4,a5⟩:=ph1 (unhF s.h t.h (qv s.b t.b)) s 0 ((qv s.b t.b).reverse.map rmY++((qk6 s.b t.b (qv s.b t.b)).map adY++(qk7 s.h t.h (unhF s.h t.h (qv s.b t.b))).map hoY)) p (p.ph.filter _) hUs
 obtain⟨s2,b1,b2,b3,b4,b5⟩:=ph2 (qv s.b t.b).reverse s1 (0+(unhF s.h t.h (qv s.b t.b)).length) ((qk6 s.b t.b (qv s.b t.b)).map adY++(qk7 s.h t.h (unhF s.h t.h (qv s.b t.b))).map hoY) a4
  (List.pairwise_reverse.2 ((q5v p.tb).filter _)) (fun x hx=>by rw[a1];exact hRs x (List.mem_reverse.1 hx))
  (fun x hx y hy k1 k2=>by
   rw[a1]at hy
   have hx':=zmf.1 (List.mem_reverse.1 hx)
   exact List.mem_reverse.2 (zmf.2 ⟨hy,qbnd p.f.b q.f.b p.tb q.tb hx'.1 hy hx'.2 k1⟩))
  (fun h hh=>by
   rw[a3]at hh
   obtain⟨h1,h2⟩:=zmf.1 hh
   have hf:=p.f.h.2 h h1
   obtain⟨y,y1,y2,y3⟩:=(qbfn p.f.b p.tb hf.2.1 hf.2.2.1).1 (p.bl h h1)
   refine⟨y,by rw[a1];exact y1,fun hy=> ?_,y2,y3⟩
   have hu:h∈unhF s.h t.h (qv s.b t.b):=zmf.2 ⟨h1,by
    unfold isUn;rw[Bool.or_eq_true]
    exact .inr (zay.2 ⟨y,List.mem_reverse.1 hy,y2⟩)⟩
   have:=(q7n p.ph hUs h1).2 hu
   rw[this]at h2;cases h2)
 have hb2:∀y,y∈s2.b↔y∈s.b/\y∉qv s.b t.b:=fun y=>by
  rw[b1,a1,zmf]
  constructor
  · rintro⟨h1,h2⟩
    refine⟨h1,fun h=> ?_⟩
    have:=(qbfq (l:=(qv s.b t.b).reverse) p.tb (fun x hx=>hRs x (List.mem_reverse.1 hx)) h1).2 (List.mem_reverse.2 h)
    rw[this]at h2;cases h2
  · rintro⟨h1,h2⟩
    refine⟨h1,?_⟩
    cases h:hasB (qv s.b t.b).reverse y with
    |false=>rfl
    |true=>exact absurd (List.mem_reverse.1 ((qbfq (l:=(qv s.b t.b).reverse) p.tb (fun x hx=>hRs x (List.mem_reverse.1 hx)) h1).1 h)) h2
 have kept:∀y,y∈s.b->y∉qv s.b t.b->y∈t.b:=fun y h1 h2=>by
  cases h:memB t.b y with
  |true=>exact(qr8 q.f.b.2 (p.f.b.2 y h1)).1 h
  |false=>exact absurd (zmf.2 ⟨h1,by unfold qqs;rw[h];rfl⟩) h2
 have hadd:∀y,y∈t.b->(y∈qk6 s.b t.b (qv s.b t.b)↔¬(y∈s.b/\y∉qv s.b t.b)):=fun y hy=>by
  have hf:=q.f.b.2 y hy
  unfold qk6
  rw[zmf]
  constructor
  · rintro⟨_,h⟩ ⟨h1,h2⟩
    rw[(qr8 p.f.b.2 hf).2 h1]at h
    simp only[znt,Bool.false_or]at h
    exact h2 ((qr8 hRf hf).1 h)
  · intro h
    refine⟨hy,?_⟩
    rw[Bool.or_eq_true]
    by_cases h1:y∈s.b
    · by_cases h2:y∈qv s.b t.b
      · exact .inr ((qr8 hRf hf).2 h2)
      · exact absurd ⟨h1,h2⟩ h
    · left
      cases hq:memB s.b y with
      |false=>rfl
      |true=>exact absurd ((qr8 p.f.b.2 hf).1 hq) h1
 obtain⟨s3,c1,c2,c3,c4,c5⟩:=ph3 q.f.b q.tb q.nb (qk6 s.b t.b (qv s.b t.b)) s2 (0+(unhF s.h t.h (qv s.b t.b)).length+(qv s.b t.b).reverse.length) ((qk7 s.h t.h (unhF s.h t.h (qv s.b t.b))).map hoY) b4
  ((q5v q.tb).filter _) hAs
  (qbfp qbtb qbym (q5v b4.tb) ((q5v q.tb).filter _) fun y=>by
   rw[hb2 y,zmf]
   constructor
   · rintro⟨h1,h2⟩
     have hy:=kept y h1 h2
     refine⟨hy,?_⟩
     cases h:hasB (qk6 s.b t.b (qv s.b t.b)) y with
     |false=>rfl
     |true=>exact absurd ⟨h1,h2⟩ ((hadd y hy).1 ((qbfq q.tb hAs hy).1 h))
   · rintro⟨hy,h⟩
     by_cases hc:y∈s.b/\y∉qv s.b t.b
     · exact hc
     · rw[(qbfq q.tb hAs hy).2 ((hadd y hy).2 hc)]at h;cases h)
  (fun x hx y hy k=>by
   obtain⟨y1,y2⟩:=(hb2 y).1 hy
   have hxB:=hAs x hx
   have hxf:=q.f.b.2 x hxB
   apply y2
   have hx':=(zmf.1 hx).2
   rw[Bool.or_eq_true]at hx'
   rcases hx' with h|h
   · exact zmf.2 ⟨y1,by
      unfold qqs;rw[Bool.or_eq_true,Bool.or_eq_true]
      exact .inr (.inr (zay.2 ⟨x,hxB,by rw[h];exact(qgi (hga y y1) (hgb x hxB)).2 k.1⟩))⟩
   · have hxR:=zmf.1 ((qr8 hRf hxf).1 h)
     exact zmf.2 ⟨y1,qbnd p.f.b q.f.b p.tb q.tb hxR.1 y1 hxR.2 k.1⟩)
 have hh3:∀y,y∈s3.h↔y∈s.h/\y∉unhF s.h t.h (qv s.b t.b):=fun y=>by
  rw[c3,b3,a3,zmf]
  constructor
  · rintro⟨h1,h2⟩
    refine⟨h1,fun h=> ?_⟩
    rw[(q7n p.ph hUs h1).2 h]at h2;cases h2
  · rintro⟨h1,h2⟩
    refine⟨h1,?_⟩
    cases h:hasH (unhF s.h t.h (qv s.b t.b)) y with
    |false=>rfl
    |true=>exact absurd ((q7n p.ph hUs h1).1 h) h2
 have keptH:∀y,y∈s.h->y∉unhF s.h t.h (qv s.b t.b)->y∈t.h:=fun y h1 h2=>by
  cases h:memH t.h y with
  |true=>exact(qy7 q.f.h.2 (p.f.h.2 y h1)).1 h
  |false=>exact absurd (zmf.2 ⟨h1,by unfold isUn;rw[h];rfl⟩) h2
 have haddH:∀y,y∈t.h->(y∈qk7 s.h t.h (unhF s.h t.h (qv s.b t.b))↔¬(y∈s.h/\y∉unhF s.h t.h (qv s.b t.b))):=fun y hy=>by
  have hf:=q.f.h.2 y hy
  unfold qk7
  rw[zmf]
  constructor
  · rintro⟨_,h⟩ ⟨h1,h2⟩
    rw[(qy7 p.f.h.2 hf).2 h1]at h
    simp only[znt,Bool.false_or]at h
    exact h2 ((qy7 hUf hf).1 h)
  · intro h
    refine⟨hy,?_⟩
    rw[Bool.or_eq_true]
    by_cases h1:y∈s.h
    · by_cases h2:y∈unhF s.h t.h (qv s.b t.b)
      · exact .inr ((qy7 hUf hf).2 h2)
      · exact absurd ⟨h1,h2⟩ h
    · left
      cases hq:memH s.h y with
      |false=>rfl
      |true=>exact absurd ((qy7 p.f.h.2 hf).1 hq) h1
 have ez:s3.z=s.z:=c2.trans (b2.trans a2)
 obtain⟨s4,d1,d2,d3,d4,d5⟩:=ph4 q.f.h q.ph q.nh (qk7 s.h t.h (unhF s.h t.h (qv s.b t.b))) s3 (0+(unhF s.h t.h (qv s.b t.b)).length+(qv s.b t.b).reverse.length+(qk6 s.b t.b (qv s.b t.b)).length) [] c4
  (q.ph.filter _) (fun x hx=>⟨hHs x hx,q.fh x (hHs x hx),by rw[c1];exact q.bl x (hHs x hx),by rw[ez,qbyn hz];exact q.zo x (hHs x hx)⟩)
  (qbfp (fun _=>qbfl) qzv c4.ph (q.ph.filter _) fun y=>by
   rw[hh3 y,zmf]
   constructor
   · rintro⟨h1,h2⟩
     have hy:=keptH y h1 h2
     refine⟨hy,?_⟩
     cases h:hasH (qk7 s.h t.h (unhF s.h t.h (qv s.b t.b))) y with
     |false=>rfl
     |true=>exact absurd ⟨h1,h2⟩ ((haddH y hy).1 ((q7n q.ph hHs hy).1 h))
   · rintro⟨hy,h⟩
     by_cases hc:y∈s.h/\y∉unhF s.h t.h (qv s.b t.b)
     · exact hc
     · rw[(q7n q.ph hHs hy).2 ((haddH y hy).2 hc)]at h;cases h)
 rw[List.append_nil]at d5
 rw[a5,b5,c5,d5]
 have e4:s4=⟨t.b,t.h,s.z⟩:=by
  cases s4
  simp only at d1 d2 d3
  rw[d1,d2,d3,c1,ez]
 rw[e4]
 unfold runL
 simp only[List.length_append,List.length_map,Prod.mk.injEq,true_and,and_true]
 omega
theorem qb71 {s t:Sp}(p:Plan s)(q:Plan t):qbk0 (chsF s t):=by
 have l1:=qbo3 s.b t.b
 have l2:=qbta s.h t.h (qv s.b t.b)
 have l3:=qbo4 s.b t.b (qv s.b t.b)
 have l4:=qbko s.h t.h (unhF s.h t.h (qv s.b t.b))
 have n1:=p.nb
 have n2:=p.nh
 have n3:=q.nb
 have n4:=q.nh
 constructor
 · unfold chsF;simp only[List.length_append,List.length_map,List.length_reverse];omega
 · intro y hy
   unfold chsF at hy
   rcases List.mem_append.1 hy with h|h
   · obtain⟨x,hx,rfl⟩:=List.mem_map.1 h
     exact⟨rfl,qb31 (p.f.h.2 x (zmf.1 hx).1)⟩
   rcases List.mem_append.1 h with h|h
   · obtain⟨x,hx,rfl⟩:=List.mem_map.1 h
     exact⟨rfl,qb32 (p.f.b.2 x (zmf.1 (List.mem_reverse.1 hx)).1)⟩
   rcases List.mem_append.1 h with h|h
   · obtain⟨x,hx,rfl⟩:=List.mem_map.1 h
     exact⟨rfl,qb33 (q.f.b.2 x (zmf.1 hx).1)⟩
   · obtain⟨x,hx,rfl⟩:=List.mem_map.1 h
     exact⟨rfl,qb34 (q.f.h.2 x (zmf.1 hx).1)⟩
theorem q4a (l:LA)(hl:qbk0 l):q18 l l=some true:=by
 rw[qbmo];unfold qry
 simp only[bne_self_eq_false,zcf]
 rw[qbce,qfx l hl.1 (qix l l (l.length:Int) fun _=>some true) (fun i nx=>qiw l l (l.length:Int) i nx fun _=>some true) (fun _ _=>rfl) (fun _=>some true)]
 · intro nx;simp[qiw]
 · intro i y r nx h1 h2 h3 h4 h5
   have hy:=hl.2 y (zmg h2)
   have h6:(i:Int)<(l.length:Int):=by omega
   unfold qiw
   simp only[h6,zdt,zct,zin,h2,zos,hy.1,h4,h5,beq_self_eq_true,zas,znt,zcf]
theorem qb72 (z w:LA)(hz:qn7 z)(hw:qn7 w)(h:eqZ z w=true)(a b c d:LA)(kx:Unit->Option Bool):qw4 (z.length:Int) a b z c d w kx FU 0=kx ():=by
 have hlen:=q5y h
 rw[qbd3]
 have key:=qwk z hz.1 (qka (z.length:Int) a b z c d w kx) (fun i nx=>qj9 (z.length:Int) i a b z c d w nx kx) (fun _ _=>rfl) (fun i r=>bif eqZ r (w.drop i)then kx ()else some false) (fun nx=>by simp[qj9,hlen,eqZ]) (fun i x r nx h1 h2 h3 h4 h5=>by
  have hx:=hz.2 x (zmg h2)
  have hiw:i<w.length:=by omega
  have h2':w[i]?=some w[i]:=by simp[hiw]
  have hy:=hw.2 w[i] (zmg h2')
  have h6:(i:Int)<(z.length:Int):=by omega
  unfold qj9
  simp only[h6,zdt,zct,zin,h2,h2',zos,hx.1,hy.1,h4,h5]
  rw[List.drop_eq_getElem_cons hiw]
  rw[show eqZ (x::r) (w[i]::w.drop (i+1))=(gS x.cells 0==gS (w[i]).cells 0&&eqZ r (w.drop (i+1)))from rfl]
  cases gS x.cells 0==gS (w[i]).cells 0<;>rfl)
 rw[key]
 simp[h]
theorem qb37 {s t:Sp}(g:Fits t)(hz:qn7 s.z)(h:eqZ s.z t.z=true):qyf t.b t.h s.z t.b t.h t.z=some true:=by
 rw[qboh];unfold qt1
 simp only[q5y h,bne_self_eq_false,Bool.or_self,zcf]
 rw[qb9c t.b g.b,qb9d t.h g.h,<-q5y h,qb72 s.z t.z hz g.z h]
theorem law_ChangeBetween {s t:Sp}(f:Fits s)(g:Fits t):qk2 s.b s.h s.z t.b t.h t.z=some true:=by
 rw[q49];unfold qiy
 rw[q2a];unfold qgb
 simp only[qb7u,zos,qb3s]
 cases qb1q s.b s.h s.z []
 case true=>rfl
 cases qb1q t.b t.h t.z []
 case true=>rfl
 simp only[zcf]
 rw[qb3z f g,qbyl f g]
 simp only[zos]
 rw[q1j];unfold qf3
 simp only[bne_self_eq_false,zcf]
 by_cases h0:qdl s.b s.h s.z=0
 · by_cases h1:qdl t.b t.h t.z=0
   · have p:=(q2v f).1 h0
     have q:=(q2v g).1 h1
     have hB:betF s t=bif !eqZ s.z t.z then([],13)else bif decide (((chsF s t).length:Int)>64)then([],9)else(chsF s t,0):=by
      unfold betF;simp only[h0,h1,bne_self_eq_false,zcf]
     rw[hB]
     have nilF:qbk0 []:=⟨by simp,fun y hy=>by cases hy⟩
     cases hz:eqZ s.z t.z with
     |false=>simp only[znf,zct,q4a [] nilF,zos];rfl
     |true=>
      simp only[znt,zcf]
      by_cases h64:((chsF s t).length:Int)>64
      · simp only[h64,zdt,zct,q4a [] nilF,zos];rfl
      · have hc:=qb71 p q
        have hR:runF s (chsF s t)=(⟨t.b,t.h,s.z⟩,((chsF s t).length:Int),0):=by
         unfold runF;simp only[h64,zdf,zcf];exact qb70 p q hz
        simp only[h64,zdf,zcf,q4a _ hc,zos,znt,bne_self_eq_false]
        rw[qb93 p _ hc,zos,hR]
        simp only[outR,beq_self_eq_true,zas,zct]
        rw[show qyf (gL (Sp.mk t.b t.h s.z).av.cells 0) (gL (Sp.mk t.b t.h s.z).av.cells 1) (gL (Sp.mk t.b t.h s.z).av.cells 2) t.b t.h t.z=some true from qb37 g f.z hz]
        rfl
   · have e1:(qdl t.b t.h t.z != 0)=true:=by simpa using h1
     have hB:betF s t=([],qdl t.b t.h t.z):=by
      unfold betF;simp only[h0,e1,bne_self_eq_false,zcf,zct]
     rw[hB]
     simp only[q4a [] ⟨by simp,fun y hy=>by cases hy⟩,zos,znt,zcf,e1,zct]
 · have e1:(qdl s.b s.h s.z != 0)=true:=by simpa using h0
   have hB:betF s t=([],qdl s.b s.h s.z):=by
    unfold betF;simp only[e1,zct]
   rw[hB]
   simp only[q4a [] ⟨by simp,fun y hy=>by cases hy⟩,zos,znt,zcf,e1,zct]
end Go.Proofs.YtoaaphlopbabeaaGreatDoor.Dn
