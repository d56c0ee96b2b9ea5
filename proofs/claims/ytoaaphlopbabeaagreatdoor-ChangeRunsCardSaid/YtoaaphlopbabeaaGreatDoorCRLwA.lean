import Derived.Test.YtoaaphlopbabeaaGreatDoorCRDn51
import Derived.Test.YtoaaphlopbabeaaGreatDoorCRLibD
set_option linter.all false
namespace Go.Proofs.YtoaaphlopbabeaaGreatDoor.Dn
open Go Go.Pev
set_option maxRecDepth 4000
def qew (v6:Bool)(hi lo:Int):Bool:=v6||(hi==0&&decide (lo<4294967296))
def qi (v6:Bool):Int:=if v6 then 128 else 32
theorem q6x (v6:Bool)(hi lo:Int):qk8 v6 hi lo=some (qew v6 hi lo):=by
 rw[qbka];unfold qpd qew
 cases v6<;>cases(hi==0)<;>simp
theorem qbib (v6:Bool):qhj v6=some (qi v6):=by
 rw[qbmh];unfold qrv qi
 cases v6<;>rfl
def qb25 (p:Int×Int):Int×Int:=(IntKind.u64.wrap (IntKind.u64.wrap (p.1*2)+IntKind.u64.wrap (p.2.tdiv 9223372036854775808)),IntKind.u64.wrap (IntKind.u64.wrap (p.2*2)+1))
def qdh:Nat->Int×Int
 |0=>(0,0)
 |n+1=>qb25 (qdh n)
theorem qbwe (n:Int):qqi n=some (qdh (min n 128).toNat):=by
 rw[qbmi];unfold qrw
 rw[qbeb]
 have key:=qbix (fun k (s:Int×Int×Int)=>qi5 n (fun v4 v5=>some (v4,v5)) k s.1 s.2.1 s.2.2) (fun s nx=>qmn n s.1 s.2.1 s.2.2 (fun a b c=>nx (a,b,c)) (fun v4 v5=>some (v4,v5))) (fun _ _=>rfl)
  (fun s=>∃i:Nat,s=((qdh i).1,(qdh i).2,(i:Int))/\i<=128/\(i=0\/(i:Int)<=n)) (fun s=>(128-s.2.2).toNat) (fun _=>some (qdh (min n 128).toNat)) ?_ FU ((0,0,0)) ⟨0,rfl,by simp,.inl rfl⟩ (qcq (by simp))
 · exact key
 · rintro _ ⟨i,rfl,hi,hin⟩ nx hn
   simp only
   have hw:IntKind.i64.wrap ((i:Int)+1)=((i+1:Nat):Int):=w64 (by omega) (by omega)
   unfold qmn
   by_cases hc:(i:Int)<n/\(i:Int)<128
   · simp only[hc.1,hc.2,decide_true,Bool.and_true,cond_t,hw]
     exact hn (_,_,_) ⟨i+1,rfl,by omega,.inr (by omega)⟩ (by simp;omega)
   · have e:(decide ((i:Int)<n)&&decide ((i:Int)<128))=false:=by
      by_cases h1:(i:Int)<n
      · have:¬(i:Int)<128:=fun h=>hc ⟨h1,h⟩
        simp[this]
      · simp[h1]
     simp only[e,cond_f]
     have:(min n 128).toNat=i:=by
      by_cases h1:(i:Int)<n
      · have:¬(i:Int)<128:=fun h=>hc ⟨h1,h⟩
        omega
      · omega
     rw[this]
def qcv (v6:Bool)(hi lo bits:Int):Bool:=
 qew v6 hi lo&&decide (0<=bits)&&decide (bits<=qi v6)&&(qbg .and .u64 hi (qdh (qi v6-bits).toNat).1==0)&&(qbg .and .u64 lo (qdh (qi v6-bits).toNat).2==0)
theorem qxc (v6:Bool)(hi lo bits:Int):qft v6 hi lo bits=some (qcv v6 hi lo bits):=by
 rw[qbkb];unfold qpf
 simp only[qba2,qls,q6x,qbib,qbwe,oB_s]
 unfold qcv
 cases h1:qew v6 hi lo
 · simp
 · by_cases h2:bits<0
   · have:¬0<=bits:=by omega
     simp[h2,this]
   · have h2':0<=bits:=by omega
     by_cases h3:qi v6<bits
     · have:¬bits<=qi v6:=by omega
       simp[h2,h3,this]
     · have h3':bits<=qi v6:=by omega
       have hl:qi v6<=128:=by unfold qi;split<;>omega
       have hw:IntKind.i64.wrap (qi v6-bits)=qi v6-bits:=w64 (by omega) (by omega)
       have hm:(min (qi v6-bits) 128).toNat=(qi v6-bits).toNat:=by congr 1;omega
       simp[h2,h3,h2',h3',hw,hm]
def uok (x:Int):Prop:=0<=x/\x<=18446744073709551615
theorem qbcv (n:Nat)(h:n<18446744073709551616):IntKind.u64.wrap (n:Int)=n:=wu64 (by omega) (by omega)
theorem qys {x:Int}(h:uok x):((BitVec.ofInt 64 x).toNat:Int)=x:=by
 obtain⟨h1,h2⟩:=h
 rw[BitVec.toNat_ofInt]
 omega
theorem qbae (x y:Int):qbg .and .u64 x y=((BitVec.ofInt 64 x&&& BitVec.ofInt 64 y).toNat:Int):=by
 have:=(BitVec.ofInt 64 x&&& BitVec.ofInt 64 y).isLt
 show IntKind.u64.wrap ((BitVec.ofInt 64 x&&& BitVec.ofInt 64 y).toNat:Int)=_
 exact qbcv _ (by omega)
theorem qb4l (x y:Int):qbg .or .u64 x y=((BitVec.ofInt 64 x|||BitVec.ofInt 64 y).toNat:Int):=by
 have:=(BitVec.ofInt 64 x|||BitVec.ofInt 64 y).isLt
 show IntKind.u64.wrap ((BitVec.ofInt 64 x|||BitVec.ofInt 64 y).toNat:Int)=_
 exact qbcv _ (by omega)
theorem q1l (x y:Int):qbg .andNot .u64 x y=((BitVec.ofInt 64 x&&& ~~~BitVec.ofInt 64 y).toNat:Int):=by
 have:=(BitVec.ofInt 64 x&&& ~~~BitVec.ofInt 64 y).isLt
 show IntKind.u64.wrap ((BitVec.ofInt 64 x&&& ~~~BitVec.ofInt 64 y).toNat:Int)=_
 exact qbcv _ (by omega)
theorem quc (a b:BitVec 64):(a&&& b).toNat+(a&&& ~~~b).toNat=a.toNat:=by
 have h1:(a&&& b)&&& (a&&& ~~~b)=0#64:=by
  ext i hi
  simp
  intro _ h _
  exact h
 have h2:(a&&& b)|||(a&&& ~~~b)=a:=by
  ext i hi
  simp
  cases a[i]<;>cases b[i]<;>rfl
 have h3:=BitVec.add_eq_or_of_and_eq_zero _ _ h1
 rw[h2]at h3
 have h4:=congrArg BitVec.toNat h3
 rw[BitVec.toNat_add]at h4
 have e1:(a&&& b).toNat<=a.toNat:=by rw[BitVec.toNat_and];exact Nat.and_le_left
 have e2:=(a&&& ~~~b).isLt
 have e3:=a.isLt
 omega
theorem qbyh {x:Int}(y:Int)(h:uok x):IntKind.u64.wrap (x-qbg .and .u64 x y)=qbg .andNot .u64 x y:=by
 have h1:=quc (BitVec.ofInt 64 x) (BitVec.ofInt 64 y)
 have h2:=qys h
 rw[qbae,q1l]
 have h3:x-((BitVec.ofInt 64 x&&& BitVec.ofInt 64 y).toNat:Int)=((BitVec.ofInt 64 x&&& ~~~BitVec.ofInt 64 y).toNat:Int):=by omega
 rw[h3]
 have:=(BitVec.ofInt 64 x&&& ~~~BitVec.ofInt 64 y).isLt
 exact qbcv _ (by omega)
theorem qb1i (a b:BitVec 64)(h:(a&&& b).toNat=0):a.toNat+b.toNat=(a|||b).toNat:=by
 have h1:a&&& b=0#64:=BitVec.eq_of_toNat_eq h
 have h2:=congrArg BitVec.toNat (BitVec.add_eq_or_of_and_eq_zero _ _ h1)
 rw[BitVec.toNat_add]at h2
 have h3:=quc a b
 have h4:(a&&& ~~~b).toNat<=(~~~b).toNat:=by rw[BitVec.toNat_and];exact Nat.and_le_right
 rw[BitVec.toNat_not]at h4
 have e3:=b.isLt
 omega
theorem qbic {x y:Int}(hx:uok x)(hy:uok y)(h:qbg .and .u64 x y=0):x+y=qbg .or .u64 x y:=by
 rw[qbae]at h
 rw[qb4l]
 have e1:=qys hx
 have e2:=qys hy
 have:=qb1i (BitVec.ofInt 64 x) (BitVec.ofInt 64 y) (by omega)
 omega
theorem qbaf (x y:Int):uok (qbg .or .u64 x y):=by
 rw[qb4l]
 have:=(BitVec.ofInt 64 x|||BitVec.ofInt 64 y).isLt
 exact⟨by omega,by omega⟩
theorem qbxu {x:Int}(h:uok x):qbg .andNot .u64 x 0=x:=by
 rw[q1l]
 have:=quc (BitVec.ofInt 64 x) (BitVec.ofInt 64 0)
 have h2:=qys h
 have h3:(BitVec.ofInt 64 x&&& BitVec.ofInt 64 0).toNat=0:=by simp
 omega
theorem qb26:∀n:Fin 129,(0<=(qdh n).1/\(qdh n).1<=18446744073709551615)/\(0<=(qdh n).2/\(qdh n).2<=18446744073709551615):=by decide+kernel
theorem qfa (v6:Bool):qi v6<=128:=by unfold qi;split<;>omega
theorem qb6y:∀n:Fin 33,qoh false (n.val:Int)=some (qdh (32-n.val)):=by decide+kernel
theorem qb6z:∀n:Fin 129,qoh true (n.val:Int)=some (qdh (128-n.val)):=by decide+kernel
theorem qbyi {v6:Bool}{bits:Int}(h1:0<=bits)(h2:bits<=qi v6):qxk v6 bits=some (qdh (qi v6-bits).toNat):=by
 rw[qbnl]
 obtain⟨n,rfl⟩:=Int.eq_ofNat_of_zero_le h1
 cases v6 with
 |false=>
  have h3:n<=32:=by simp[qi]at h2;omega
  rw[qb6y ⟨n,by omega⟩]
  congr 2
  simp[qi]<;>omega
 |true=>
  have h3:n<=128:=by simp[qi]at h2;omega
  rw[qb6z ⟨n,by omega⟩]
  congr 2
  simp[qi]<;>omega
theorem qbnb (v6:Bool)(hi lo:Int):qxj v6 hi lo=some (qew v6 hi lo):=by
 rw[qbtu];unfold qxi qew
 have:decide (lo<=4294967295)=decide (lo<4294967296):=by apply decide_eq_decide.2;omega
 cases v6<;>cases(hi==0)<;>simp[this]
theorem q5f (v6:Bool)(hi lo:Int):ql6 v6 hi lo=some (qi v6):=by
 rw[qblo];unfold qq9 qi
 cases v6<;>rfl
theorem q5g (v6:Bool)(hi lo bits:Int):qix v6 hi lo bits=some (qcv v6 hi lo bits):=by
 rw[qbnm];unfold qtf
 simp only[qbfi,qnl,qbnb,q5f,oB_s]
 unfold qcv
 cases h1:qew v6 hi lo
 · simp
 · by_cases h2:bits<0
   · have:¬0<=bits:=by omega
     simp[h2,this]
   · have h2':0<=bits:=by omega
     by_cases h3:qi v6<bits
     · have:¬bits<=qi v6:=by omega
       simp[h2,h3,this]
     · have h3':bits<=qi v6:=by omega
       simp[h2,h3,h2',h3',qbyi h2' h3']
def qf7 (v6:Bool)(hi lo bits:Int)(w6:Bool)(ahi alo:Int):Bool:=
 qcv v6 hi lo bits&&(qew w6 ahi alo&&((v6==w6)&&((qbg .andNot .u64 ahi (qdh (qi v6-bits).toNat).1==hi)&&(qbg .andNot .u64 alo (qdh (qi v6-bits).toNat).2==lo))))
theorem qd7 {v6:Bool}{hi lo bits:Int}(h:qcv v6 hi lo bits=true):0<=bits/\bits<=qi v6/\qew v6 hi lo=true:=by
 simp[qcv]at h
 exact⟨h.1.1.1.2,h.1.1.2,h.1.1.1.1⟩
theorem qb73 {w6:Bool}{ahi alo bits:Int}(h1:0<=bits)(h2:bits<=qi w6):qbfl w6 ahi alo bits=some (bif qew w6 ahi alo then(.agg [(.bool w6),(.int .u64 (qbg .andNot .u64 ahi (qdh (qi w6-bits).toNat).1)),(.int .u64 (qbg .andNot .u64 alo (qdh (qi w6-bits).toNat).2)),(.int .i64 bits)],true)else(.agg [(.bool false),(.int .u64 0),(.int .u64 0),(.int .i64 0)],false)):=by
 rw[qbuu];unfold q0d
 have a1:¬bits<0:=by omega
 have a2:¬qi w6<bits:=by omega
 simp only[qbnr,qtk,qbnb,q5f,oB_s,qbyi h1 h2]
 cases qew w6 ahi alo<;>simp[a1,a2]
theorem qblg (v6:Bool)(hi lo bits:Int)(w6:Bool)(ahi alo:Int):qrb v6 hi lo bits w6 ahi alo=some (qf7 v6 hi lo bits w6 ahi alo):=by
 rw[qbfm];unfold qnm qf7
 simp only[q5g,oB_s]
 cases h1:qcv v6 hi lo bits
 · simp
 · obtain⟨h2,h3,_⟩:=qd7 h1
   by_cases h4:v6=w6
   · subst h4
     rw[qb73 h2 h3]
     cases qew v6 ahi alo<;>simp[gB,gI,gC,aB,aI,AV.cells]
   · have h6:(v6==w6)=false:=by simpa using h4
     simp[h6]
theorem qb74 {w6:Bool}{ahi alo bits:Int}(h1:0<=bits)(h2:bits<=qi w6)(hv:qew w6 ahi alo=true)(u1:uok ahi)(u2:uok alo):q7b w6 ahi alo bits=some (.agg [(.bool w6),(.int .u64 (qbg .andNot .u64 ahi (qdh (qi w6-bits).toNat).1)),(.int .u64 (qbg .andNot .u64 alo (qdh (qi w6-bits).toNat).2)),(.int .i64 bits)],true):=by
 rw[qbq4];unfold qvy
 have a1:¬bits<0:=by omega
 have a2:¬qi w6<bits:=by omega
 have hl:=qfa w6
 have hw:IntKind.i64.wrap (qi w6-bits)=qi w6-bits:=w64 (by omega) (by omega)
 have hm:(min (qi w6-bits) 128).toNat=(qi w6-bits).toNat:=by congr 1;omega
 simp only[qbkf,qpj,q6x,qbib,qbwe,oB_s,hv,hw,hm,qbyh _ u1,qbyh _ u2]
 simp[a1,a2]
theorem qblh (v6:Bool)(hi lo bits:Int)(w6:Bool)(ahi alo:Int)(u1:uok ahi)(u2:uok alo):qn0 v6 hi lo bits w6 ahi alo=some (qf7 v6 hi lo bits w6 ahi alo):=by
 rw[qba3];unfold qlt qf7
 simp only[q5u,qit,qxc,q6x,oB_s]
 cases h1:qcv v6 hi lo bits
 · simp
 · obtain⟨h2,h3,_⟩:=qd7 h1
   cases h5:qew w6 ahi alo
   · simp
   · by_cases h4:v6=w6
     · subst h4
       rw[qb74 h2 h3 h5 u1 u2]
       simp[gB,gI,gC,aB,aI,AV.cells]
     · have h6:(v6==w6)=false:=by simpa using h4
       simp[h6]
def qjx (v6:Bool)(hi lo bits:Int)(w6:Bool)(whi wlo wbits:Int):Bool:=
 qcv v6 hi lo bits&&(decide (bits>=wbits)&&qf7 w6 whi wlo wbits v6 hi lo)
theorem qbid (v6:Bool)(hi lo bits:Int)(w6:Bool)(whi wlo wbits:Int):ql7 v6 hi lo bits w6 whi wlo wbits=some (qjx v6 hi lo bits w6 whi wlo wbits):=by
 rw[qblr];unfold qrc qjx
 simp only[q5g,qblg,oB_s]
 cases h1:qcv v6 hi lo bits
 · simp
 · cases h2:qcv w6 whi wlo wbits
   · simp[qf7,h2]
   · cases h3:decide (bits>=wbits)<;>simp
theorem q1m (v6:Bool)(hi lo bits:Int)(w6:Bool)(whi wlo wbits:Int)(u1:uok hi)(u2:uok lo):qjp v6 hi lo bits w6 whi wlo wbits=some (qjx v6 hi lo bits w6 whi wlo wbits):=by
 rw[qbgn];unfold qn1 qjx
 simp only[qxc,qblh _ _ _ _ _ _ _ u1 u2,oB_s]
 cases h1:qcv v6 hi lo bits
 · simp
 · cases h3:decide (bits>=wbits)<;>simp
def qlh (y:AV):Prop:=fitC qb y.cells=true/\uok (gI y.cells 1)/\uok (gI y.cells 2)/\(gS y.cells 5).length<=9223372036854775807/\(gS y.cells 6).length<=9223372036854775807
def qq (l:LA):Prop:=l.length<=9223372036854775807/\∀y,y∈l->qlh y
def qbie:Ty:=.st [.bool,.int .u64,.int .u64]
def qbwf:Ty:=.st [qbie,.int .i64]
def qbpz:Ty:=.st [qbwf,.int .i64,.str,.str,.int .i64]
theorem blksFit_of {l:LA}(h:l.length<=9223372036854775807/\∀y,y∈l->fitC qbpz.lts y.cells=true/\qbpz.good y.cells 0):qq l:=
 ⟨h.1,fun y hy=>by
  obtain⟨h1,h2⟩:=h.2 y hy
  simp only[qbpz,qbwf,qbie,Ty.good.goods,Ty.good,Ty.size,Ty.sizes,Nat.zero_add,Nat.reduceAdd,and_true,true_and]at h2
  obtain⟨⟨⟨h3,h4⟩,h5⟩,h6,h7,h8,h9⟩:=h2
  exact⟨h1,h3,h4,h7,h8⟩⟩
def qoq (s:LU):Bool:=s.all fun c=>decide (33<=c.toNat)&&decide (c.toNat<=126)
theorem qbli (s:LU)(hs:s.length<=9223372036854775807):qmo s=some (qoq s):=by
 rw[q8j];unfold qkl
 rw[q4e,qeg s hs (qe2 s fun _=>some true) (fun i nx=>qe1 s i nx fun _=>some true) (fun _ _=>rfl) (fun r=>some (qoq r))]
 · intro nx;simp[qe1,qoq]
 · intro i y r nx h1 h2 h3 h4 h5
   have h6:(i:Int)<(s.length:Int):=by omega
   unfold qe1
   simp only[h6,decide_true,cond_t,ixB_nat,h2,oB_s,h4,h5,qoq,List.all_cons]
   by_cases a1:(y.toNat:Int)<33
   · have:¬33<=y.toNat:=by omega
     simp[a1,this]
   · have b1:33<=y.toNat:=by omega
     by_cases a2:(y.toNat:Int)>126
     · have:¬y.toNat<=126:=by omega
       simp[a1,a2,this]
     · have b2:y.toNat<=126:=by omega
       simp only[a1,a2,b1,b2,decide_true,decide_false,cond_f,Bool.true_and]
def mayB (y:AV):Bool:=
 bif(bif decide (gI y.cells 4<1)then true else bif decide (gI y.cells 4>3)then true else bif gI y.cells 4==3 then gI y.cells 3 != qi (gB y.cells 0)else false)then false
 else bif(decide (((gS y.cells 5).length:Int)>=1)&&decide (((gS y.cells 5).length:Int)<=63))then(bif(qoq (gS y.cells 5)&&decide (((gS y.cells 6).length:Int)<=32))then((qoq (gS y.cells 6)&&decide (gI y.cells 7>=0))&&decide (gI y.cells 7<=4294967295))else false)else false
theorem qp4 {α:Type}(p:Bool)(a b:α):(bif p then some a else some b)=some (bif p then a else b):=by cases p<;>rfl
theorem qb4m (y:AV)(hy:qlh y):qsq (gB y.cells 0) (gI y.cells 1) (gI y.cells 2) (gI y.cells 3) (gI y.cells 4) (gS y.cells 5) (gS y.cells 6) (gI y.cells 7)=some (mayB y):=by
 have hw:qzn (gB y.cells 0) (gI y.cells 1) (gI y.cells 2) (gI y.cells 3)=some (qi (gB y.cells 0)):=by
  rw[qbkc];unfold qpg qi;cases gB y.cells 0<;>rfl
 rw[qbn9];unfold qtx mayB
 simp only[qbgm,qnz,qbli _ hy.2.2.2.1,qbli _ hy.2.2.2.2,hw,oB_s]
 cases decide (gI y.cells 4<1)<;>cases decide (gI y.cells 4>3)<;>cases(gI y.cells 4==3)<;>simp only[cond_t,cond_f,qp4]
def cmpA (v6:Bool)(hi lo:Int)(w6:Bool)(whi wlo:Int):Int:=
 bif(!((v6==w6)&&true))then(bif w6 then-1 else 1)else bif(hi != whi)then(bif decide (hi<whi)then-1 else 1)else bif decide (lo<wlo)then-1 else bif decide (lo>wlo)then 1 else 0
theorem qbyj (v6:Bool)(hi lo:Int)(w6:Bool)(whi wlo:Int):qph v6 hi lo w6 whi wlo=some (cmpA v6 hi lo w6 whi wlo):=by
 rw[qbed];unfold qmp cmpA
 simp only[qp4]
def cmpP (v6:Bool)(hi lo bits:Int)(w6:Bool)(whi wlo wbits:Int):Int:=
 bif(cmpA v6 hi lo w6 whi wlo != 0)then cmpA v6 hi lo w6 whi wlo else bif decide (bits<wbits)then-1 else bif decide (bits>wbits)then 1 else 0
theorem qb1j (v6:Bool)(hi lo bits:Int)(w6:Bool)(whi wlo wbits:Int):qpi v6 hi lo bits w6 whi wlo wbits=some (cmpP v6 hi lo bits w6 whi wlo wbits):=by
 rw[qbee];unfold qmq cmpP
 simp only[qbyj,oB_s,qp4]
def ltP (v6:Bool)(hi lo bits:Int)(w6:Bool)(whi wlo wbits:Int):Prop:=
 (v6=false/\w6=true)\/(v6=w6/\(hi<whi\/(hi=whi/\(lo<wlo\/(lo=wlo/\bits<wbits)))))
theorem q1n {a:Bool}{b c d:Int}{a':Bool}{b' c' d':Int}{a2:Bool}{b2 c2 d2:Int}(h1:ltP a b c d a' b' c' d')(h2:ltP a' b' c' d' a2 b2 c2 d2):ltP a b c d a2 b2 c2 d2:=by
 unfold ltP at*
 rcases h1 with⟨rfl,rfl⟩|⟨rfl,h1⟩
 · rcases h2 with⟨h,_⟩|⟨rfl,_⟩
   · cases h
   · exact .inl ⟨rfl,rfl⟩
 · rcases h2 with⟨rfl,rfl⟩|⟨rfl,h2⟩
   · exact .inl ⟨rfl,rfl⟩
   · exact .inr ⟨rfl,by omega⟩
theorem qfm {a:Bool}{b c d:Int}:¬ltP a b c d a b c d:=by
 unfold ltP
 rintro(⟨rfl,h⟩|⟨_,h⟩)
 · cases h
 · omega
def atP (v6:Bool)(hi lo bits:Int)(y:AV):Bool:=(gB y.cells 0==v6)&&((gI y.cells 1==hi)&&((gI y.cells 2==lo)&&((gI y.cells 3==bits)&&true)))
theorem qor {v6:Bool}{hi lo bits:Int}{y:AV}:atP v6 hi lo bits y=true↔gB y.cells 0=v6/\gI y.cells 1=hi/\gI y.cells 2=lo/\gI y.cells 3=bits:=by simp[atP]
def ltY (y z:AV):Prop:=ltP (gB y.cells 0) (gI y.cells 1) (gI y.cells 2) (gI y.cells 3) (gB z.cells 0) (gI z.cells 1) (gI z.cells 2) (gI z.cells 3)
def qod (y:AV):Bool:=qcv (gB y.cells 0) (gI y.cells 1) (gI y.cells 2) (gI y.cells 3)
def qbag (y z:AV):Bool:=qjx (gB y.cells 0) (gI y.cells 1) (gI y.cells 2) (gI y.cells 3) (gB z.cells 0) (gI z.cells 1) (gI z.cells 2) (gI z.cells 3)
def qbi (y z:AV):Bool:=bif(qbag y z&&decide (gI y.cells 3>gI z.cells 3))then(bif gI z.cells 4==3 then true else bif gI z.cells 4==2 then gI y.cells 4 != 3 else false)else false
theorem qbwg (y z:AV)(hy:qlh y):qmr (gB y.cells 0) (gI y.cells 1) (gI y.cells 2) (gI y.cells 3) (gI y.cells 4) (gS y.cells 5) (gS y.cells 6) (gI y.cells 7) (gB z.cells 0) (gI z.cells 1) (gI z.cells 2) (gI z.cells 3) (gI z.cells 4) (gS z.cells 5) (gS z.cells 6) (gI z.cells 7)=some (qbi y z):=by
 rw[qbgo];unfold qn2 qbi
 rw[q8m];unfold qqj
 simp only[q1m _ _ _ _ _ _ _ _ hy.2.1 hy.2.2.1,oB_s,qp4]
 rfl
structure Row (l:LA)(j:Nat)(y:AV):Prop where
 p:qod y=true
 may:mayB y=true
 lt:∀i z,j=i+1->l[i]?=some z->ltY z y
 bar:∀k z,k<j->l[k]?=some z->qbi y z=false
def qcz (l:LA):Prop:=∀j y,l[j]?=some y->Row l j y
def blkV (y:AV):AV:=.agg [(.bool (gB y.cells 0)),(.int .u64 (gI y.cells 1)),(.int .u64 (gI y.cells 2)),(.int .i64 (gI y.cells 3)),(.int .i64 (gI y.cells 4)),(.str (gS y.cells 5)),(.str (gS y.cells 6)),(.int .i64 (gI y.cells 7))]
def blk0:AV:=.agg [(.bool false),(.int .u64 0),(.int .u64 0),(.int .i64 0),(.int .i64 0),(.str []),(.str []),(.int .i64 0)]
def qsb (l:LA)(v6:Bool)(hi lo bits:Int):AV×Bool:=match l.find? (atP v6 hi lo bits)with
 |some y=>(blkV y,true)
 |none=>(blk0,false)
theorem qbiz (l:LA)(hl:qq l)(v6:Bool)(hi lo bits:Int):ql9 l v6 hi lo bits=some (qsb l v6 hi lo bits):=by
 rw[qbmr];unfold qr2
 show qwd l v6 hi lo bits false 0 0 0 0 [] [] 0 (fun _=>some (blk0,false)) FU 0=_
 rw[qbep,qeg l hl.1 (qi7 l v6 hi lo bits false 0 0 0 0 [] [] 0 fun _=>some (blk0,false)) (fun i nx=>qi6 l i v6 hi lo bits false 0 0 0 0 [] [] 0 nx fun _=>some (blk0,false)) (fun _ _=>rfl) (fun r=>some (qsb r v6 hi lo bits))]
 · intro nx;simp[qi6,qsb]
 · intro i y r nx h1 h2 h3 h4 h5
   have hy:=hl.2 y (List.mem_of_getElem? h2)
   have h6:(i:Int)<(l.length:Int):=by omega
   unfold qi6
   simp only[h6,decide_true,cond_t,ixB_nat,h2,oB_s,hy.1,h4,h5,qsb,List.find?_cons]
   rw[show((gB y.cells 0==v6)&&((gI y.cells 1==hi)&&((gI y.cells 2==lo)&&((gI y.cells 3==bits)&&true))))=atP v6 hi lo bits y from rfl]
   cases atP v6 hi lo bits y<;>rfl
def idxO (q:AV->Bool):List AV->Option Nat
 |[]=>none
 |y::r=>if q y then some 0 else(idxO q r).map (· +1)
theorem qnf {q:AV->Bool}:∀(l:LA) (k:Nat),idxO q l=some k->∃y,l[k]?=some y/\l.find? q=some y
 |y::r,k,h=>by
  unfold idxO at h
  cases hq:q y with
  |true=>simp[hq]at h;subst h;exact⟨y,rfl,by simp[hq]⟩
  |false=>
   simp[hq]at h
   obtain⟨k',h1,rfl⟩:=h
   obtain⟨z,h2,h3⟩:=qnf r k' h1
   exact⟨z,by simpa using h2,by simp[hq,h3]⟩
theorem qbs5 {q:AV->Bool}:∀(l:LA),idxO q l=none->l.find? q=none
 |[],_=>rfl
 |y::r,h=>by
  unfold idxO at h
  cases hq:q y with
  |true=>simp[hq]at h
  |false=>simp[hq]at h;simp[List.find?_cons,hq];simpa using qbs5 r h
def idxI (q:AV->Bool)(l:LA):Int:=match idxO q l with
 |some k=>(k:Int)
 |none=> -1
theorem qbnc (l:LA)(hl:qq l)(v6:Bool)(hi lo bits:Int):qsj l v6 hi lo bits=some (idxI (atP v6 hi lo bits) l):=by
 rw[qbnp];unfold qtj
 rw[qio];unfold qbv
 rw[qhn]
 have key:=qcj l hl.1 (fun n i (s:Bool×Int×Int×Int)=>q9 l (l.length:Int) (fun b0_0 b0_1 b0_2 b0_3=>some (-1:Int)) (fun v4q1 b0_0q2 b0_1q3 b0_2q4 b0_3q5=>some v4q1) n i s.1 s.2.1 s.2.2.1 s.2.2.2)
  (fun i s nx=>q8 l (l.length:Int) i s.1 s.2.1 s.2.2.1 s.2.2.2 (fun a b c d e=>nx a (b,c,d,e)) (fun b0_0 b0_1 b0_2 b0_3=>some (-1:Int)) (fun v4q1 b0_0q2 b0_1q3 b0_2q4 b0_3q5=>some v4q1)) (fun _ _ _=>rfl)
  (fun i s=>s=(v6,hi,lo,bits)) (fun r s=>some (match idxO (atP v6 hi lo bits) r with|some k=>((l.length-r.length+k:Nat):Int)|none=> -1)) ?_ ?_ (v6,hi,lo,bits) FU rfl (qcq (by have:=hl.1;omega))
 · refine key.trans ?_
   unfold idxI
   cases idxO (atP v6 hi lo bits) l<;>simp
 · intro s nx hs
   simp[q8,idxO]
 · rintro i y r _ nx h1 h2 h3 h4 rfl h5
   have hy:=hl.2 y (List.mem_of_getElem? h2)
   have h6:(i:Int)<(l.length:Int):=by omega
   have hr:r.length=l.length-(i+1):=by
    have:=congrArg List.length h1
    simp at this
    omega
   unfold q8
   simp only[h6,decide_true,cond_t,ixB_nat,h2,oB_s,hy.1,qbjg,qoz,h4]
   rw[show((gB y.cells 0==v6)&&((gI y.cells 1==hi)&&((gI y.cells 2==lo)&&((gI y.cells 3==bits)&&true))))=atP v6 hi lo bits y from rfl]
   unfold idxO
   cases hq:atP v6 hi lo bits y with
   |true=>
    simp
    omega
   |false=>
    simp only[cond_f,Bool.false_eq_true,if_false]
    rw[h5 _ rfl]
    cases idxO (atP v6 hi lo bits) r with
    |none=>rfl
    |some k=>simp;omega
theorem qbyk (l:LA)(hl:qq l)(v6:Bool)(hi lo bits:Int):qqo l v6 hi lo bits=some (qsb l v6 hi lo bits):=by
 rw[qbqy];unfold qvo qsb
 simp only[qbnc l hl,oB_s]
 unfold idxI
 cases hq:idxO (atP v6 hi lo bits) l with
 |none=>
  rw[qbs5 l hq]
  rfl
 |some k=>
  obtain⟨y,h1,h2⟩:=qnf l k hq
  have hy:=hl.2 y (List.mem_of_getElem? h1)
  have h3:(k:Int)>=0:=by omega
  rw[h2]
  simp only[h3,decide_true,cond_t,ixB_nat,h1,oB_s,hy.1]
  rfl
theorem qbs6 {x:Int}(m:Int)(h:uok x):qbg .andNot .u64 x m<=x:=by
 rw[q1l]
 have:=quc (BitVec.ofInt 64 x) (BitVec.ofInt 64 m)
 have h2:=qys h
 omega
theorem qblj {x m:Int}(h:uok x)(h0:qbg .and .u64 x m=0):qbg .andNot .u64 x m=x:=by
 rw[qbae]at h0
 rw[q1l]
 have:=quc (BitVec.ofInt 64 x) (BitVec.ofInt 64 m)
 have h2:=qys h
 omega
theorem qcz.sorted {l:LA}(h:qcz l)(i:Nat)(y:AV)(hy:l[i]?=some y):∀j z,i<j->l[j]?=some z->ltY y z:=by
 intro j
 induction j with
 |zero=>intro z hj;omega
 |succ j ih=>
  intro z hj hz
  obtain⟨x,hx⟩:∃x,l[j]?=some x:=by
   have:=(List.getElem?_eq_some_iff.1 hz).1
   exact⟨l[j],by simp⟩
  have h1:=(h (j+1) z hz).lt j x rfl hx
  by_cases hij:i=j
  · subst hij
    rw[hy]at hx;cases hx
    exact h1
  · exact q1n (ih x (by omega) hx) h1
theorem qbuf {y z:AV}(hy:qlh y)(hw:qbag y z=true)(hne:atP (gB z.cells 0) (gI z.cells 1) (gI z.cells 2) (gI z.cells 3) y=false):ltY z y/\gI y.cells 3>gI z.cells 3:=by
 unfold qbag qjx qf7 at hw
 simp only[Bool.and_eq_true,beq_iff_eq,decide_eq_true_eq]at hw
 obtain⟨h1,h2,h3,h4,h5,h6,h7⟩:=hw
 have hp:=h1
 simp only[qcv,Bool.and_eq_true,beq_iff_eq]at hp
 have hb:gI y.cells 3≠gI z.cells 3:=by
  intro hb
  rw[<-h5,hb]at hp
  rw[qblj hy.2.1 hp.1.2]at h6
  rw[qblj hy.2.2.1 hp.2]at h7
  have:atP (gB z.cells 0) (gI z.cells 1) (gI z.cells 2) (gI z.cells 3) y=true:=qor.2 ⟨h5.symm,h6,h7,hb⟩
  rw[this]at hne
  cases hne
 have a1:=qbs6 (qdh (qi (gB z.cells 0)-gI z.cells 3).toNat).1 hy.2.1
 have a2:=qbs6 (qdh (qi (gB z.cells 0)-gI z.cells 3).toNat).2 hy.2.2.1
 rw[h6]at a1
 rw[h7]at a2
 refine⟨.inr ⟨h5,?_⟩,by omega⟩
 omega
def numP (hi lo:Int):Nat:=hi.toNat*18446744073709551616+lo.toNat
def kOf (v6:Bool)(bits:Int):Nat:=(qi v6-bits).toNat
theorem qbcw:(2:Nat)^64=18446744073709551616:=by decide
theorem qbwh (x j:Nat):x&&& (2^j-1)=x%2^j:=Nat.and_two_pow_sub_one_eq_mod x j
theorem qvh {x:Int}(h:uok x)(j:Nat)(hj:j<=64):qbg .and .u64 x ((2^j-1:Nat):Int)=((x.toNat%2^j:Nat):Int):=by
 rw[qbae]
 congr 1
 have e1:=qys h
 have hp:(2:Nat)^j<=2^64:=Nat.pow_le_pow_right (by decide) hj
 have h0:0<(2:Nat)^j:=Nat.two_pow_pos j
 have e2:=qys (x:=((2^j-1:Nat):Int)) ⟨by omega,by rw[qbcw]at hp;omega⟩
 rw[BitVec.toNat_and]
 have e3:(BitVec.ofInt 64 x).toNat=x.toNat:=by omega
 have e4:(BitVec.ofInt 64 ((2^j-1:Nat):Int)).toNat=2^j-1:=by omega
 rw[e3,e4]
 exact qbwh _ _
theorem qz7 {x:Int}(h:uok x)(j:Nat)(hj:j<=64):qbg .andNot .u64 x ((2^j-1:Nat):Int)=((x.toNat-x.toNat%2^j:Nat):Int):=by
 have h1:=qvh h j hj
 rw[qbae]at h1
 rw[q1l]
 have h2:=quc (BitVec.ofInt 64 x) (BitVec.ofInt 64 ((2^j-1:Nat):Int))
 have h3:=qys h
 have h4:x.toNat%2^j<=x.toNat:=Nat.mod_le _ _
 omega
theorem qbwi:∀n:Fin 65,qdh n=(0,((2^n.val-1:Nat):Int)):=by decide+kernel
theorem qbs7:∀n:Fin 65,qdh (n.val+64)=(((2^n.val-1:Nat):Int),((2^64-1:Nat):Int)):=by decide+kernel
theorem q0p {x:Int}(h:uok x):qbg .and .u64 x 0=0:=by
 have:=qvh h 0 (by omega)
 simpa[Nat.mod_one]using this
theorem qbif (hi lo k:Nat)(hk:k<=64):(hi*18446744073709551616+lo)%2^k=lo%2^k:=by
 have:18446744073709551616=2^k*2^(64-k):=by rw[<-Nat.pow_add,<-qbcw];congr 1;omega
 rw[this,show hi*(2^k*2^(64-k))+lo=lo+2^k*(hi*2^(64-k)) by rw[Nat.add_comm];congr 1;rw[Nat.mul_left_comm],Nat.add_mul_mod_self_left]
theorem qbrq (hi lo j:Nat)(hl:lo<18446744073709551616):(hi*18446744073709551616+lo)%2^(j+64)=hi%2^j*18446744073709551616+lo:=by
 have h0:0<(2:Nat)^j:=Nat.two_pow_pos j
 have h1:=Nat.div_add_mod hi (2^j)
 have h2:=Nat.mod_lt hi h0
 rw[Nat.pow_add,qbcw]
 have e:hi*18446744073709551616+lo=(hi%2^j*18446744073709551616+lo)+2^j*18446744073709551616*(hi / 2^j):=by
  calc hi*18446744073709551616+lo=(2^j*(hi / 2^j)+hi%2^j)*18446744073709551616+lo:=by rw[h1]
   _=_:=by rw[Nat.add_mul];rw[show 2^j*(hi / 2^j)*18446744073709551616=2^j*18446744073709551616*(hi / 2^j) by rw[Nat.mul_right_comm]];omega
 rw[e,Nat.add_mul_mod_self_left]
 refine Nat.mod_eq_of_lt ?_
 have h3:(hi%2^j+1)*18446744073709551616<=2^j*18446744073709551616:=Nat.mul_le_mul_right _ h2
 rw[Nat.add_mul]at h3
 omega
theorem qbyl {hi lo:Int}(u1:uok hi)(u2:uok lo)(k:Nat)(hk:k<=128):
 uok (qbg .andNot .u64 hi (qdh k).1)/\uok (qbg .andNot .u64 lo (qdh k).2)/\numP (qbg .andNot .u64 hi (qdh k).1) (qbg .andNot .u64 lo (qdh k).2)=numP hi lo-numP hi lo%2^k:=by
 obtain⟨a1,a2⟩:=u1
 obtain⟨b1,b2⟩:=u2
 rcases Nat.lt_or_ge k 65 with h|h
 · have e:=qbwi ⟨k,h⟩
   simp only at e
   rw[e,qz7 ⟨b1,b2⟩ k (by omega),qbxu ⟨a1,a2⟩]
   have hm:=qbif hi.toNat lo.toNat k (by omega)
   have hle:=Nat.mod_le lo.toNat (2^k)
   refine⟨⟨a1,a2⟩,⟨by omega,by omega⟩,?_⟩
   unfold numP
   rw[hm]
   omega
 · obtain⟨j,rfl⟩:∃j,k=j+64:=⟨k-64,by omega⟩
   have e:=qbs7 ⟨j,by omega⟩
   simp only at e
   rw[e,qz7 ⟨a1,a2⟩ j (by omega),qz7 ⟨b1,b2⟩ 64 (by omega)]
   have hm:=qbrq hi.toNat lo.toNat j (by omega)
   have hle:=Nat.mod_le hi.toNat (2^j)
   have hlo:lo.toNat%2^64=lo.toNat:=Nat.mod_eq_of_lt (by rw[qbcw];omega)
   refine⟨⟨by omega,by omega⟩,⟨by omega,by omega⟩,?_⟩
   unfold numP
   rw[hm,hlo]
   omega
theorem qb5o {hi lo:Int}(u1:uok hi)(u2:uok lo)(k:Nat)(hk:k<=128):
 (qbg .and .u64 hi (qdh k).1=0/\qbg .and .u64 lo (qdh k).2=0)↔numP hi lo%2^k=0:=by
 obtain⟨a1,a2⟩:=u1
 obtain⟨b1,b2⟩:=u2
 rcases Nat.lt_or_ge k 65 with h|h
 · have e:=qbwi ⟨k,h⟩
   simp only at e
   rw[e,qvh ⟨b1,b2⟩ k (by omega),q0p ⟨a1,a2⟩]
   have hm:=qbif hi.toNat lo.toNat k (by omega)
   unfold numP
   rw[hm]
   generalize lo.toNat%2^k=q
   constructor
   · rintro⟨_,h⟩;omega
   · intro h;exact⟨rfl,by omega⟩
 · obtain⟨j,rfl⟩:∃j,k=j+64:=⟨k-64,by omega⟩
   have e:=qbs7 ⟨j,by omega⟩
   simp only at e
   rw[e,qvh ⟨a1,a2⟩ j (by omega),qvh ⟨b1,b2⟩ 64 (by omega)]
   have hm:=qbrq hi.toNat lo.toNat j (by omega)
   have hlo:lo.toNat%2^64=lo.toNat:=Nat.mod_eq_of_lt (by rw[qbcw];omega)
   unfold numP
   rw[hm,hlo]
   constructor
   · rintro⟨h1,h2⟩
     have:hi.toNat%2^j=0:=by omega
     rw[this];omega
   · intro h1
     revert h1
     generalize hi.toNat%2^j=q
     intro h1
     have h4:q=0:=by omega
     have h5:lo.toNat=0:=by omega
     exact⟨by omega,by omega⟩
theorem qbwj {hi lo hi' lo':Int}(u1:uok hi)(u2:uok lo)(u3:uok hi')(u4:uok lo')(h:numP hi lo=numP hi' lo'):hi=hi'/\lo=lo':=by
 unfold numP at h
 unfold uok at*
 omega
theorem qyt {v6:Bool}{hi lo bits:Int}(u1:uok hi)(u2:uok lo):qcv v6 hi lo bits=true↔qew v6 hi lo=true/\0<=bits/\bits<=qi v6/\numP hi lo%2^kOf v6 bits=0:=by
 by_cases h:0<=bits
 · have hl:=qfa v6
   have:=qb5o u1 u2 (kOf v6 bits) (by unfold kOf;omega)
   unfold qcv
   simp only[Bool.and_eq_true,decide_eq_true_eq,beq_iff_eq]
   unfold kOf at*
   rw[<-this]
   constructor
   · rintro⟨⟨⟨⟨a,b⟩,c⟩,d⟩,e⟩;exact⟨a,b,c,d,e⟩
   · rintro⟨a,b,c,d,e⟩;exact⟨⟨⟨⟨a,b⟩,c⟩,d⟩,e⟩
 · unfold qcv
   simp[h]
theorem qbs8 {v6:Bool}{hi lo bits:Int}{w6:Bool}{ahi alo:Int}(h1:uok hi)(h2:uok lo)(u1:uok ahi)(u2:uok alo):
 qf7 v6 hi lo bits w6 ahi alo=true↔qcv v6 hi lo bits=true/\qew w6 ahi alo=true/\v6=w6/\numP hi lo=numP ahi alo-numP ahi alo%2^kOf v6 bits:=by
 unfold qf7
 simp only[Bool.and_eq_true,beq_iff_eq]
 constructor
 · rintro⟨a,b,c,d,e⟩
   refine⟨a,b,c,?_⟩
   obtain⟨r1,r2,_⟩:=qd7 a
   have hl:=qfa v6
   obtain⟨_,_,h⟩:=qbyl u1 u2 (kOf v6 bits) (by unfold kOf;omega)
   unfold kOf at h
   rw[d,e]at h
   exact h
 · rintro⟨a,b,c,d⟩
   refine⟨a,b,c,?_⟩
   obtain⟨r1,r2,_⟩:=qd7 a
   have hl:=qfa v6
   obtain⟨k1,k2,h⟩:=qbyl u1 u2 (kOf v6 bits) (by unfold kOf;omega)
   rw[<-d]at h
   obtain⟨e1,e2⟩:=qbwj k1 k2 h1 h2 h
   exact⟨e1,e2⟩
structure Np where
 v:Bool
 n:Nat
 k:Nat
def Np.ok (p:Np):Prop:=p.n%2^p.k=0
def Np.sub (p q:Np):Prop:=p.v=q.v/\p.k<=q.k/\p.n-p.n%2^q.k=q.n
theorem qbi0 {a b:Nat}(h:a<=b):2^a ∣ 2^b:=Nat.pow_dvd_pow 2 h
theorem qbym {n a b:Nat}(h:a<=b):(n-n%2^a)-(n-n%2^a)%2^b=n-n%2^b:=by
 have h0:=Nat.two_pow_pos a
 have h1:=Nat.two_pow_pos b
 obtain⟨c,hc⟩:=qbi0 h
 have e1:n-n%2^a=2^a*(n / 2^a):=by have:=Nat.div_add_mod n (2^a);omega
 have e2:∀m,m-m%2^b=2^b*(m / 2^b):=fun m=>by have:=Nat.div_add_mod m (2^b);omega
 rw[e2,e2 n]
 congr 1
 rw[e1,hc,<-Nat.div_div_eq_div_mul,<-Nat.div_div_eq_div_mul,Nat.mul_div_cancel_left _ h0]
theorem Np.sub_refl {p:Np}(h:p.ok):p.sub p:=⟨rfl,Nat.le_refl _,by unfold Np.ok at h;rw[h];rfl⟩
theorem Np.sub_trans {p q r:Np}(h1:p.sub q)(h2:q.sub r):p.sub r:=by
 obtain⟨a1,a2,a3⟩:=h1
 obtain⟨b1,b2,b3⟩:=h2
 refine⟨a1.trans b1,Nat.le_trans a2 b2,?_⟩
 rw[<-b3,<-a3,qbym b2]
theorem Np.sub_antisymm {p q:Np}(hp:p.ok)(h1:p.sub q)(h2:q.sub p):p=q:=by
 obtain⟨a1,a2,a3⟩:=h1
 obtain⟨b1,b2,b3⟩:=h2
 have hk:p.k=q.k:=Nat.le_antisymm a2 b2
 have hn:p.n=q.n:=by
  unfold Np.ok at hp
  rw[<-hk,hp]at a3
  exact a3
 cases p;cases q;simp only at*
 subst a1 hk hn
 rfl
theorem Np.nest {p q r:Np}(h1:p.sub q)(h2:p.sub r)(h:q.k<=r.k):q.sub r:=by
 obtain⟨a1,a2,a3⟩:=h1
 obtain⟨b1,b2,b3⟩:=h2
 exact⟨a1.symm.trans b1,h,by rw[<-a3,qbym h];exact b3⟩
theorem qbrr (v6:Bool)(hi lo:Int)(w6:Bool)(whi wlo:Int):qsl v6 hi lo w6 whi wlo=some (cmpA v6 hi lo w6 whi wlo):=by
 rw[qbnt];unfold qtl cmpA
 simp only[qbqx,qvn,qp4,oB_s]
 by_cases h1:v6=w6
 · subst h1
   by_cases h2:hi=whi
   · subst h2;simp
   · by_cases h3:hi<whi
     · simp[h2,h3]
     · have:hi>whi:=by omega
       simp[h2,h3,this]
 · cases v6<;>cases w6<;>simp at h1⊢
theorem qb60 (v6:Bool)(hi lo bits:Int)(w6:Bool)(whi wlo wbits:Int):qzh v6 hi lo bits w6 whi wlo wbits=some (cmpP v6 hi lo bits w6 whi wlo wbits):=by
 rw[qbjh];unfold qo1 cmpP
 simp only[qbrr,oB_s,qp4]
theorem q3g (v6:Bool)(hi lo bits:Int)(w6:Bool)(whi wlo wbits:Int):
 (cmpP v6 hi lo bits w6 whi wlo wbits<0/\ltP v6 hi lo bits w6 whi wlo wbits)\/(cmpP v6 hi lo bits w6 whi wlo wbits=0/\v6=w6/\hi=whi/\lo=wlo/\bits=wbits)\/(cmpP v6 hi lo bits w6 whi wlo wbits>0/\ltP w6 whi wlo wbits v6 hi lo bits):=by
 unfold cmpP cmpA ltP
 by_cases h1:v6=w6
 · subst h1
   by_cases h2:hi=whi
   · subst h2
     by_cases h3:lo<wlo
     · left;simp[h3]
     · by_cases h4:lo>wlo
       · right;right;simp[h3,h4]
       · have:lo=wlo:=by omega
         subst this
         by_cases h5:bits<wbits
         · left;simp[h5]
         · by_cases h6:bits>wbits
           · right;right;simp[h5,h6]
           · right;left
             have:bits=wbits:=by omega
             subst this;simp
   · have h2':(hi != whi)=true:=by simpa using h2
     by_cases h3:hi<whi
     · left;simp[h2',h3]
     · have h4:whi<hi:=by omega
       right;right;simp[h2',h3,h4]
 · cases v6<;>cases w6<;>simp at h1⊢
def cmpY (y z:AV):Int:=cmpP (gB y.cells 0) (gI y.cells 1) (gI y.cells 2) (gI y.cells 3) (gB z.cells 0) (gI z.cells 1) (gI z.cells 2) (gI z.cells 3)
def samP (y z:AV):Bool:=(gB y.cells 0==gB z.cells 0)&&((gI y.cells 1==gI z.cells 1)&&((gI y.cells 2==gI z.cells 2)&&((gI y.cells 3==gI z.cells 3)&&true)))
theorem qbcx {y z:AV}:samP y z=true↔gB y.cells 0=gB z.cells 0/\gI y.cells 1=gI z.cells 1/\gI y.cells 2=gI z.cells 2/\gI y.cells 3=gI z.cells 3:=by simp[samP]
theorem qbcy {y z:AV}:samP y z=true↔cmpY y z=0:=by
 rw[qbcx]
 unfold cmpY
 rcases q3g (gB y.cells 0) (gI y.cells 1) (gI y.cells 2) (gI y.cells 3) (gB z.cells 0) (gI z.cells 1) (gI z.cells 2) (gI z.cells 3)with⟨h,h2⟩|⟨h,h2⟩|⟨h,h2⟩
 · constructor
   · rintro⟨a,b,c,d⟩;rw[a,b,c,d]at h2;exact absurd h2 qfm
   · intro h3;omega
 · exact⟨fun _=>h,fun _=>h2⟩
 · constructor
   · rintro⟨a,b,c,d⟩;rw[a,b,c,d]at h2;exact absurd h2 qfm
   · intro h3;omega
theorem qow (y z:AV):(cmpY y z>0↔cmpY z y<0)/\(cmpY y z=0↔cmpY z y=0)/\(cmpY y z<0↔ltY y z):=by
 unfold cmpY ltY
 have irr:∀{a:Bool} {b c d:Int} {a':Bool} {b' c' d':Int},ltP a b c d a' b' c' d'->¬ltP a' b' c' d' a b c d:=fun h1 h2=>qfm (q1n h1 h2)
 rcases q3g (gB y.cells 0) (gI y.cells 1) (gI y.cells 2) (gI y.cells 3) (gB z.cells 0) (gI z.cells 1) (gI z.cells 2) (gI z.cells 3)with⟨h,h2⟩|⟨h,a,b,c,d⟩|⟨h,h2⟩<;>
 rcases q3g (gB z.cells 0) (gI z.cells 1) (gI z.cells 2) (gI z.cells 3) (gB y.cells 0) (gI y.cells 1) (gI y.cells 2) (gI y.cells 3)with⟨k,k2⟩|⟨k,a',b',c',d'⟩|⟨k,k2⟩
 · exact absurd k2 (irr h2)
 · rw[a',b',c',d']at h2;exact absurd h2 qfm
 · exact⟨by constructor<;>intro<;>omega,by constructor<;>intro<;>omega,⟨fun _=>h2,fun _=>h⟩⟩
 · rw[a,b,c,d]at k2;exact absurd k2 qfm
 · refine⟨by constructor<;>intro<;>omega,by constructor<;>intro<;>omega,⟨fun _=>by omega,fun h3=> ?_⟩⟩
   rw[a,b,c,d]at h3;exact absurd h3 qfm
 · rw[a,b,c,d]at k2;exact absurd k2 qfm
 · refine⟨by constructor<;>intro<;>omega,by constructor<;>intro<;>omega,⟨fun _=>by omega,fun h3=>absurd h3 (irr h2)⟩⟩
 · rw[a',b',c',d']at h2;exact absurd h2 qfm
 · exact absurd k2 (irr h2)
def q0q (y z:AV):Bool:=decide (gI y.cells 3>gI z.cells 3)&&qbag y z
def qd9 (v6:Bool)(hi lo bits:Int)(w6:Bool)(whi wlo wbits:Int):Bool:=decide (bits>wbits)&&qjx v6 hi lo bits w6 whi wlo wbits
theorem qbwk (v6:Bool)(hi lo bits:Int)(w6:Bool)(whi wlo wbits:Int):qu1 v6 hi lo bits w6 whi wlo wbits=some (qd9 v6 hi lo bits w6 whi wlo wbits):=by
 rw[qbqw];unfold qvm qd9
 simp only[qbid,oB_s]
 cases decide (bits>wbits)<;>rfl
theorem qbs9 (s:LU)(lo hi:Int)(hs:s.length<=9223372036854775807):qth s lo hi=some (decide ((s.length:Int)>=lo)&&(decide ((s.length:Int)<=hi)&&qoq s)):=by
 rw[qbje];unfold qoy
 have e:qsi s (s.length:Int) (fun(_:Unit)=>some true) FU 0=some (qoq s):=by
  rw[q72,qeg s hs (qgi s (s.length:Int) fun _=>some true) (fun i nx=>qgh s (s.length:Int) i nx fun _=>some true) (fun _ _=>rfl) (fun r=>some (qoq r))]
  · intro nx;simp[qgh,qoq]
  · intro i y r nx h1 h2 h3 h4 h5
    have h6:(i:Int)<(s.length:Int):=by omega
    unfold qgh
    simp only[h6,decide_true,cond_t,ixB_nat,h2,oB_s,h4,h5,qoq,List.all_cons]
    by_cases a1:(y.toNat:Int)<33
    · have a2:¬33<=y.toNat:=by omega
      simp[a1,a2]
    · have a2:33<=y.toNat:=by omega
      by_cases b1:(y.toNat:Int)>126
      · have b2:¬y.toNat<=126:=by omega
        simp[a1,a2,b1,b2]
      · have b2:y.toNat<=126:=by omega
        simp[a1,a2,b1,b2]
 rw[e]
 by_cases h1:(s.length:Int)<lo
 · have:¬(s.length:Int)>=lo:=by omega
   simp[h1,this]
 · have h1':(s.length:Int)>=lo:=by omega
   by_cases h2:(s.length:Int)>hi
   · have:¬(s.length:Int)<=hi:=by omega
     simp[h1,h2,this]
   · have:(s.length:Int)<=hi:=by omega
     simp[h1,h2,this,h1']
def qbp0 (y:AV):Int:=bif !qod y then 3 else bif !mayB y then 1 else 0
theorem qb5p (y:AV)(hy:qlh y):qxl (gB y.cells 0) (gI y.cells 1) (gI y.cells 2) (gI y.cells 3) (gI y.cells 4) (gS y.cells 5) (gS y.cells 6) (gI y.cells 7)=some (qbp0 y):=by
 have hw:q3w (gB y.cells 0) (gI y.cells 1) (gI y.cells 2) (gI y.cells 3)=some (qi (gB y.cells 0)):=by
  rw[qbnn];unfold qtg qi;cases gB y.cells 0<;>rfl
 rw[qbno];unfold qti qbp0 qod mayB
 simp only[qbdm,qmb,q5g,qbs9 _ _ _ hy.2.2.2.1,qbs9 _ _ _ hy.2.2.2.2,hw,oB_s]
 have e1:decide (((gS y.cells 6).length:Int)>=0)=true:=by simp
 rw[e1]
 cases qcv (gB y.cells 0) (gI y.cells 1) (gI y.cells 2) (gI y.cells 3)
 · rfl
 · have e2:decide (gI y.cells 7<0)= !decide (gI y.cells 7>=0):=by rw[Bool.eq_iff_iff];simp
   have e3:decide (gI y.cells 7>4294967295)= !decide (gI y.cells 7<=4294967295):=by rw[Bool.eq_iff_iff];simp
   rw[e2,e3]
   cases decide (gI y.cells 4<1)<;>cases decide (gI y.cells 4>3)<;>cases(gI y.cells 4==3)<;>cases(gI y.cells 3 != qi (gB y.cells 0))<;>simp only[cond_t,cond_f,Bool.not_true,Bool.not_false]<;>
    cases decide (((gS y.cells 5).length:Int)>=1)<;>cases decide (((gS y.cells 5).length:Int)<=63)<;>cases qoq (gS y.cells 5)<;>cases decide (((gS y.cells 6).length:Int)<=32)<;>cases qoq (gS y.cells 6)<;>cases decide (gI y.cells 7>=0)<;>cases decide (gI y.cells 7<=4294967295)<;>rfl
def admF (ko kb:Int):Bool:=bif ko==1 then true else bif ko==2 then kb==3 else false
theorem qb27 (y z:AV):q1y (gB z.cells 0) (gI z.cells 1) (gI z.cells 2) (gI z.cells 3) (gI z.cells 4) (gS z.cells 5) (gS z.cells 6) (gI z.cells 7) (gB y.cells 0) (gI y.cells 1) (gI y.cells 2) (gI y.cells 3) (gI y.cells 4) (gS y.cells 5) (gS y.cells 6) (gI y.cells 7)=some (admF (gI z.cells 4) (gI y.cells 4)):=by
 rw[qbls];unfold qrd admF
 simp only[qp4]
def misY (y z:AV):Bool:=q0q y z&& !admF (gI z.cells 4) (gI y.cells 4)
theorem qb5q {y z:AV}(hz:mayB z=true):misY y z=qbi y z:=by
 have hk:1<=gI z.cells 4/\gI z.cells 4<=3:=by
  unfold mayB at hz
  by_cases h1:gI z.cells 4<1
  · simp[h1]at hz
  · by_cases h2:gI z.cells 4>3
    · simp[h1,h2]at hz
    · omega
 unfold misY qbi q0q admF
 have h3:gI z.cells 4=1\/gI z.cells 4=2\/gI z.cells 4=3:=by omega
 rcases h3 with h|h|h<;>rw[h]<;>cases qbag y z<;>cases decide (gI y.cells 3>gI z.cells 3)<;>cases hh:gI y.cells 4==3<;>simp[hh,bne]
theorem qta (q:AV->Bool)(l:LA):decide (idxI q l>=0)=l.any q:=by
 unfold idxI
 have:(idxO q l).isSome=l.any q:=by
  induction l with
  |nil=>rfl
  |cons y r ih=>unfold idxO;cases hq:q y<;>simp[hq,ih]
 cases h:idxO q l with
 |none=>rw[h]at this;simp at this⊢;simpa using this
 |some k=>rw[h]at this;simp at this⊢;simpa using this
theorem qbcz {R:Type}(l:LA)(hl:qq l)(a0:Bool)(a1:Int)(a2:Int)(a3:Int)(a4:Int)(a5:LU)(a6:LU)(a7:Int)(kr:Int->Bool->Int->Int->Int->Int->List UInt8->List UInt8->Int->Option R)(q:AV->Bool)(hq:∀y,qlh y->∀kr:Bool->Bool->Int->Int->Int->Int->List UInt8->List UInt8->Int->Option R,qsk (gB y.cells 0) (gI y.cells 1) (gI y.cells 2) (gI y.cells 3) (gI y.cells 4) (gS y.cells 5) (gS y.cells 6) (gI y.cells 7) a0 a1 a2 a3 a4 a5 a6 a7 kr=kr (q y) a0 a1 a2 a3 a4 a5 a6 a7):
 qb4 l a0 a1 a2 a3 a4 a5 a6 a7 kr=kr (idxI q l) a0 a1 a2 a3 a4 a5 a6 a7:=by
 rw[qhc];unfold qbl
 rw[qf8]
 have key:=qcj l hl.1 (fun n i (s:Bool×Int×Int×Int×Int×(List UInt8)×(List UInt8)×Int)=>qv l (l.length:Int) (fun c0 c1 c2 c3 c4 c5 c6 c7=>kr (-1:Int) c0 c1 c2 c3 c4 c5 c6 c7) kr n i s.1 s.2.1 s.2.2.1 s.2.2.2.1 s.2.2.2.2.1 s.2.2.2.2.2.1 s.2.2.2.2.2.2.1 s.2.2.2.2.2.2.2)
  (fun i s nx=>qu l (l.length:Int) i s.1 s.2.1 s.2.2.1 s.2.2.2.1 s.2.2.2.2.1 s.2.2.2.2.2.1 s.2.2.2.2.2.2.1 s.2.2.2.2.2.2.2 (fun i c0 c1 c2 c3 c4 c5 c6 c7=>nx i (c0,c1,c2,c3,c4,c5,c6,c7)) (fun c0 c1 c2 c3 c4 c5 c6 c7=>kr (-1:Int) c0 c1 c2 c3 c4 c5 c6 c7) kr) (fun _ _ _=>rfl)
  (fun i s=>s=(a0,a1,a2,a3,a4,a5,a6,a7)) (fun r s=>kr (match idxO q r with|some k=>((l.length-r.length+k:Nat):Int)|none=> -1) a0 a1 a2 a3 a4 a5 a6 a7) ?_ ?_ (a0,a1,a2,a3,a4,a5,a6,a7) FU rfl (qcq (by have:=hl.1;omega))
 · refine key.trans ?_
   unfold idxI
   cases idxO q l<;>simp
 · intro s nx hs
   subst hs
   simp[qu,idxO]
 · rintro i y r _ nx h1 h2 h3 h4 rfl h5
   have hy:=hl.2 y (List.mem_of_getElem? h2)
   have h6:(i:Int)<(l.length:Int):=by omega
   have hr:r.length=l.length-(i+1):=by
    have:=congrArg List.length h1
    simp at this
    omega
   unfold qu
   simp only[h6,decide_true,cond_t,ixB_nat,h2,oB_s,hy.1,hq y hy,h4]
   unfold idxO
   cases hqq:q y with
   |true=>
    simp only[cond_t,if_true]
    congr 1
    simp
    omega
   |false=>
    simp only[cond_f,Bool.false_eq_true,if_false]
    rw[h5 _ rfl]
    cases idxO q r with
    |none=>rfl
    |some k=>
     simp
     congr 1
     omega
theorem qbxv (l:LA)(hl:qq l)(y:AV):qo0 l (gB y.cells 0) (gI y.cells 1) (gI y.cells 2) (gI y.cells 3) (gI y.cells 4) (gS y.cells 5) (gS y.cells 6) (gI y.cells 7)=some (l.any (misY y)):=by
 rw[qbdn];unfold qmd
 rw[qga];unfold qbh
 rw[qbcz l hl _ _ _ _ _ _ _ _ _ (misY y),qta]
 intro z hz kr
 rw[q75];unfold qki
 simp only[qbwk,qb27,oB_s]
 have e:qd9 (gB y.cells 0) (gI y.cells 1) (gI y.cells 2) (gI y.cells 3) (gB z.cells 0) (gI z.cells 1) (gI z.cells 2) (gI z.cells 3)=q0q y z:=rfl
 rw[e]
 unfold misY
 cases q0q y z<;>simp
def qp5 (pre:LA)(q:AV->Bool):Bool:=match pre.getLast? with
 |some x=>q x
 |none=>false
def q3h (pre:LA)(y:AV):Int:=
 bif !qod y then 3 else bif !mayB y then 1 else bif qp5 pre (fun x=>decide (cmpY x y>0))then 7 else bif qp5 pre (fun x=>samP x y)then 12 else bif pre.any (qbi y)then 24 else 0
def chkR:List AV->List AV->Int
 |_,[]=>0
 |pre,y::r=>bif q3h pre y != 0 then q3h pre y else chkR (pre++[y]) r
def qtb (l:LA):Int:=bif decide ((l.length:Int)>512)then 9 else chkR [] l
theorem qbp1 {pre:LA}{y:AV}:q3h pre y=0↔qod y=true/\mayB y=true/\qp5 pre (fun x=>decide (cmpY x y>0))=false/\qp5 pre (fun x=>samP x y)=false/\pre.any (qbi y)=false:=by
 unfold q3h
 cases qod y<;>cases mayB y<;>cases qp5 pre (fun x=>decide (cmpY x y>0))<;>cases qp5 pre (fun x=>samP x y)<;>cases pre.any (qbi y)<;>simp
theorem q6y {α:Type}{l:List α}{i:Nat}(h:i+1<=l.length):(l.take (i+1)).getLast? =l[i]?:=by
 rw[List.getLast?_eq_getElem?]
 have:(l.take (i+1)).length=i+1:=by simp;omega
 rw[this,List.getElem?_take]
 simp
theorem qbwl {α:Type}{l r:List α}{a:α}{i:Nat}(h:l.drop i=a::r):l.length-(a::r).length=i/\l.length-r.length=i+1:=by
 have h1:=congrArg List.length h
 have h2:i<l.length:=by
  rcases Nat.lt_or_ge i l.length with h3|h3
  · exact h3
  · rw[List.drop_of_length_le h3]at h;cases h
 simp at h1⊢
 omega
theorem qb1k {α:Type}{l:List α}{i:Nat}{a:α}(h:l[i]?=some a):l.take (i+1)=l.take i++[a]:=by
 rw[List.take_add_one,h];rfl
theorem qb1l (l:LA)(hl:qq l):qzo l=some (qtb l):=by
 rw[qbkg];unfold qpk qtb
 by_cases hlen:(l.length:Int)>512
 · simp[hlen]
 · simp only[hlen,decide_false,cond_f]
   rw[q8s,qeg l hl.1 (fun n i=>qgq l (fun _=>some 0) n i) (fun i nx=>qgp l i nx fun _=>some 0) (fun _ _=>rfl) (fun r=>some (chkR (l.take (l.length-r.length)) r))]
   · simp
   · intro nx;simp[qgp,chkR]
   · intro i y r nx h1 h2 h3 h4 h5
     have hy:=hl.2 y (List.mem_of_getElem? h2)
     have h6:(i:Int)<(l.length:Int):=by omega
     obtain⟨e1,e2⟩:=qbwl h1
     rw[e1]
     have inner:qsr l (i:Int) (fun _=>nx (IntKind.i64.wrap ((i:Int)+1))) FU 0=bif(l.take i).any (qbi y)then some 24 else nx ((i+1:Nat):Int):=by
      have hti:(l.take i).length=i:=by simp;omega
      rw[q8r,qeg (l.take i) (by have:=hl.1;omega) (qgo l (i:Int) fun _=>nx (IntKind.i64.wrap ((i:Int)+1))) (fun k nx'=>qgn l (i:Int) k nx' fun _=>nx (IntKind.i64.wrap ((i:Int)+1))) (fun _ _=>rfl) (fun r=>bif r.any (qbi y)then some 24 else nx ((i+1:Nat):Int))]
      · intro nx'
        unfold qgn
        rw[hti]
        simp[h4]
      · intro k z r nx' g1 g2 g3 g4 g5
        have g6:(k:Int)<(i:Int):=by omega
        have g7:l[k]?=some z:=by rw[List.getElem?_take]at g2;split at g2;exact g2;cases g2
        have hz:=hl.2 z (List.mem_of_getElem? g7)
        unfold qgn
        simp only[g6,decide_true,cond_t,ixB_nat,h2,g7,oB_s,hy.1,hz.1,qbwg y z hy,g4,g5,List.any_cons]
        cases qbi y z<;>simp
     unfold qgp chkR
     simp only[h6,decide_true,cond_t,ixB_nat,h2,oB_s,hy.1,qxc,qb4m y hy,inner,h5]
     rw[show l.take i++[y]=l.take (l.length-r.length) by rw[e2];exact(qb1k h2).symm]
     rw[show qcv (gB y.cells 0) (gI y.cells 1) (gI y.cells 2) (gI y.cells 3)=qod y from rfl]
     have fin:(bif(l.take i).any (qbi y)then some (24:Int)else some (chkR (l.take (l.length-r.length)) r))=some (bif((bif(l.take i).any (qbi y)then(24:Int)else 0) != 0)then(bif(l.take i).any (qbi y)then(24:Int)else 0)else chkR (l.take (l.length-r.length)) r):=by
      cases(l.take i).any (qbi y)<;>simp
     unfold q3h
     cases qod y with
     |false=>simp
     |true=>
      cases mayB y with
      |false=>simp
      |true=>
       simp only[Bool.not_true,cond_f,q8o,qkm,q8q,qkn]
       cases i with
       |zero=>
        have e0:∀q,qp5 (l.take 0) q=false:=fun q=>by simp[qp5]
        simp only[e0,cond_f,Int.natCast_zero,Int.lt_irrefl,gt_iff_lt,decide_false]
        exact fin
       |succ i=>
        have hpos:((i+1:Nat):Int)>0:=by omega
        have hw:IntKind.i64.wrap (((i+1:Nat):Int)-1)=(i:Int):=by rw[w64 (by omega) (by have:=hl.1;omega)];omega
        obtain⟨x,hx⟩:∃x,l[i]?=some x:=⟨l[i],by simp⟩
        have hxf:=hl.2 x (List.mem_of_getElem? hx)
        have e0:∀q,qp5 (l.take (i+1)) q=q x:=fun q=>by unfold qp5;rw[q6y (by omega),hx]
        simp only[hpos,decide_true,cond_t,hw,ixB_nat,hx,h2,oB_s,hxf.1,hy.1,qb1j,e0]
        rw[show cmpP (gB x.cells 0) (gI x.cells 1) (gI x.cells 2) (gI x.cells 3) (gB y.cells 0) (gI y.cells 1) (gI y.cells 2) (gI y.cells 3)=cmpY x y from rfl]
        rw[show((gB x.cells 0==gB y.cells 0)&&((gI x.cells 1==gI y.cells 1)&&((gI x.cells 2==gI y.cells 2)&&((gI x.cells 3==gI y.cells 3)&&true))))=samP x y from rfl]
        cases decide (cmpY x y>0)with
        |true=>simp
        |false=>
         cases samP x y with
         |true=>simp
         |false=>
          simp only[cond_f]
          exact fin
theorem qbta:∀(r pre:LA),chkR pre r=0↔∀(i:Nat) (y:AV),r[i]?=some y->q3h (pre++r.take i) y=0
 |[],pre=>by simp[chkR]
 |y::r,pre=>by
  unfold chkR
  by_cases he:q3h pre y=0
  · have he2:(q3h pre y != 0)=false:=by simpa using he
    rw[he2,cond_f,qbta r (pre++[y])]
    constructor
    · intro h i z hz
      cases i with
      |zero=>simp at hz;subst hz;simpa using he
      |succ i=>
       have:=h i z (by simpa using hz)
       simpa using this
    · intro h i z hz
      have:=h (i+1) z (by simpa using hz)
      simpa using this
  · have he2:(q3h pre y != 0)=true:=by simpa using he
    rw[he2,cond_t]
    constructor
    · intro h;exact absurd h he
    · intro h;exact absurd (by simpa using h 0 y rfl) he
theorem qbtb {l:LA}(hlen:l.length<=512):qtb l=0↔qcz l:=by
 unfold qtb
 have h0:¬(l.length:Int)>512:=by omega
 simp only[h0,decide_false,cond_f]
 rw[qbta]
 simp only[List.nil_append]
 have hs:∀x y:AV,(cmpY x y>0\/samP x y=true)↔¬ltY x y:=fun x y=>by
  obtain⟨_,_,s3⟩:=qow x y
  rw[qbcy,<-s3]
  omega
 constructor
 · intro h j y hy
   obtain⟨h1,h2,h3,h4,h5⟩:=qbp1.1 (h j y hy)
   have hjl:j<l.length:=(List.getElem?_eq_some_iff.1 hy).1
   refine⟨h1,h2,fun i z hj hz=> ?_,fun k z hk hz=> ?_⟩
   · subst hj
     unfold qp5 at h3 h4
     rw[q6y (by omega),hz]at h3 h4
     simp only[decide_eq_false_iff_not]at h3
     apply Classical.byContradiction
     intro hn
     rcases(hs z y).2 hn with h|h
     · exact h3 h
     · have h4':samP z y=false:=h4
       rw[h]at h4';cases h4'
   · rw[List.any_eq_false]at h5
     have:=h5 z (List.mem_of_getElem? (i:=k) (by rw[List.getElem?_take,if_pos hk];exact hz))
     simpa using this
 · intro h j y hy
   have hr:=h j y hy
   have hjl:j<l.length:=(List.getElem?_eq_some_iff.1 hy).1
   refine qbp1.2 ⟨hr.p,hr.may,?_,?_,?_⟩
   · cases j with
     |zero=>simp[qp5]
     |succ i=>
      obtain⟨x,hx⟩:∃x,l[i]?=some x:=⟨l[i],by simp⟩
      unfold qp5
      rw[q6y (by omega),hx]
      simp only[decide_eq_false_iff_not]
      exact fun hc=>(hs x y).1 (.inl hc) (hr.lt i x rfl hx)
   · cases j with
     |zero=>simp[qp5]
     |succ i=>
      obtain⟨x,hx⟩:∃x,l[i]?=some x:=⟨l[i],by simp⟩
      unfold qp5
      rw[q6y (by omega),hx]
      simp only
      rw[Bool.eq_false_iff]
      exact fun hc=>(hs x y).1 (.inr hc) (hr.lt i x rfl hx)
   · rw[List.any_eq_false]
     intro z hz
     obtain⟨k,hk⟩:=List.getElem?_of_mem hz
     rw[List.getElem?_take]at hk
     split at hk
     · rename_i hkj
       have:=hr.bar k z hkj hk
       simp[this]
     · cases hk
def mkB (b0:Bool)(b1 b2 b3 b4:Int)(b5 b6:LU)(b7:Int):AV:=.agg [(.bool b0),(.int .u64 b1),(.int .u64 b2),(.int .i64 b3),(.int .i64 b4),(.str b5),(.str b6),(.int .i64 b7)]
def mkP (b0:Bool)(b1 b2 b3:Int):AV:=.agg [(.bool b0),(.int .u64 b1),(.int .u64 b2),(.int .i64 b3)]
theorem qb75 {cs:LA}(h:fitC qb cs=true):cs=(mkB (gB cs 0) (gI cs 1) (gI cs 2) (gI cs 3) (gI cs 4) (gS cs 5) (gS cs 6) (gI cs 7)).cells:=by
 have:=qt9 (ls:=qb) (by decide) h
 exact this.symm
theorem qnk {y:AV}(h:fitC qb y.cells=true):mkB (gB y.cells 0) (gI y.cells 1) (gI y.cells 2) (gI y.cells 3) (gI y.cells 4) (gS y.cells 5) (gS y.cells 6) (gI y.cells 7)=y:=by
 have h1:=qb75 h
 cases y with
 |agg cs=>
  simp only[AV.cells]at h1⊢
  unfold mkB at h1⊢
  simp only[AV.cells]at h1
  rw[<-h1]
 |_=>
  have h2:=congrArg List.length h1
  simp[AV.cells,mkB]at h2
theorem qb1m {y:AV}(h:fitC qb y.cells=true):blkV y=y:=qnk h
def occF (l:LA)(v:Bool)(hi lo bits:Int):Bool:=l.any fun y=>qd9 (gB y.cells 0) (gI y.cells 1) (gI y.cells 2) (gI y.cells 3) v hi lo bits
theorem qbff {R:Type}(l:LA)(hl:qq l)(a0:Bool)(a1:Int)(a2:Int)(a3:Int)(kr:Int->Bool->Int->Int->Int->Option R)(q:AV->Bool)(hq:∀y,qlh y->∀kr:Bool->Bool->Int->Int->Int->Option R,qum (gB y.cells 0) (gI y.cells 1) (gI y.cells 2) (gI y.cells 3) (gI y.cells 4) (gS y.cells 5) (gS y.cells 6) (gI y.cells 7) a0 a1 a2 a3 kr=kr (q y) a0 a1 a2 a3):
 qce l a0 a1 a2 a3 kr=kr (idxI q l) a0 a1 a2 a3:=by
 rw[qhq];unfold qbn
 rw[qgd]
 have key:=qcj l hl.1 (fun n i (s:Bool×Int×Int×Int)=>qx l (l.length:Int) (fun c0 c1 c2 c3=>kr (-1:Int) c0 c1 c2 c3) kr n i s.1 s.2.1 s.2.2.1 s.2.2.2)
  (fun i s nx=>qw l (l.length:Int) i s.1 s.2.1 s.2.2.1 s.2.2.2 (fun i c0 c1 c2 c3=>nx i (c0,c1,c2,c3)) (fun c0 c1 c2 c3=>kr (-1:Int) c0 c1 c2 c3) kr) (fun _ _ _=>rfl)
  (fun i s=>s=(a0,a1,a2,a3)) (fun r s=>kr (match idxO q r with|some k=>((l.length-r.length+k:Nat):Int)|none=> -1) a0 a1 a2 a3) ?_ ?_ (a0,a1,a2,a3) FU rfl (qcq (by have:=hl.1;omega))
 · refine key.trans ?_
   unfold idxI
   cases idxO q l<;>simp
 · intro s nx hs
   subst hs
   simp[qw,idxO]
 · rintro i y r _ nx h1 h2 h3 h4 rfl h5
   have hy:=hl.2 y (List.mem_of_getElem? h2)
   have h6:(i:Int)<(l.length:Int):=by omega
   have hr:r.length=l.length-(i+1):=by
    have:=congrArg List.length h1
    simp at this
    omega
   unfold qw
   simp only[h6,decide_true,cond_t,ixB_nat,h2,oB_s,hy.1,hq y hy,h4]
   unfold idxO
   cases hqq:q y with
   |true=>
    simp only[cond_t,if_true]
    congr 1
    simp
    omega
   |false=>
    simp only[cond_f,Bool.false_eq_true,if_false]
    rw[h5 _ rfl]
    cases idxO q r with
    |none=>rfl
    |some k=>
     simp
     congr 1
     omega
theorem qbp2 (l:LA)(hl:qq l)(v:Bool)(hi lo bits:Int):qre l v hi lo bits=some (occF l v hi lo bits):=by
 rw[qbfo];unfold qnn
 rw[qgf];unfold qbj
 rw[qbff l hl _ _ _ _ _ (fun y=>qd9 (gB y.cells 0) (gI y.cells 1) (gI y.cells 2) (gI y.cells 3) v hi lo bits),qta]
 · rfl
 · intro z hz kr
   rw[qban];unfold qlj
   simp only[qbwk,oB_s]
theorem qbp3 (v6:Bool)(hi lo bits:Int)(w6:Bool)(whi wlo wbits:Int)(u1:uok hi)(u2:uok lo):qk2 v6 hi lo bits w6 whi wlo wbits=some (qd9 v6 hi lo bits w6 whi wlo wbits):=by
 rw[q8m];unfold qqj qd9
 simp only[q1m _ _ _ _ _ _ _ _ u1 u2,oB_s]
 rw[Bool.and_comm]
theorem qb28 (l:LA)(hl:qq l)(v:Bool)(hi lo bits:Int):qzr l v hi lo bits=some (occF l v hi lo bits):=by
 rw[qbkp];unfold qpt
 rw[qbbk,qeg l hl.1 (qh2 l v hi lo bits fun _=>some false) (fun i nx=>qh1 l i v hi lo bits nx fun _=>some false) (fun _ _=>rfl) (fun r=>some (occF r v hi lo bits))]
 · intro nx;simp[qh1,occF]
 · intro i y r nx h1 h2 h3 h4 h5
   have hy:=hl.2 y (List.mem_of_getElem? h2)
   have h6:(i:Int)<(l.length:Int):=by omega
   unfold qh1
   simp only[h6,decide_true,cond_t,ixB_nat,h2,oB_s,hy.1,qbp3 _ _ _ _ _ _ _ _ hy.2.1 hy.2.2.1,h4,h5]
   unfold occF
   rw[List.any_cons]
   cases qd9 (gB y.cells 0) (gI y.cells 1) (gI y.cells 2) (gI y.cells 3) v hi lo bits<;>simp
def insF (b:AV):List AV->List AV
 |[]=>[b]
 |y::r=>bif decide (cmpY y b>0)then b::y::r else y::insF b r
theorem q1o (b y:AV)(r:LA):insF b (y::r)=bif decide (cmpY y b>0)then b::y::r else y::insF b r:=rfl
theorem qbc0 (b:AV):∀l,(insF b l).length=l.length+1
 |[]=>rfl
 |y::r=>by unfold insF;cases decide (cmpY y b>0)<;>simp[qbc0 b r]
theorem qtc {b y:AV}:∀{l:LA},y∈insF b l↔y=b\/y∈l
 |[]=>by simp[insF]
 |z::r=>by
  unfold insF
  cases decide (cmpY z b>0)
  · simp only[cond_f,List.mem_cons,qtc (l:=r)]
    constructor
    · rintro(h|h|h)
      · exact .inr (.inl h)
      · exact .inl h
      · exact .inr (.inr h)
    · rintro(h|h|h)
      · exact .inr (.inl h)
      · exact .inl h
      · exact .inr (.inr h)
  · simp
theorem qbwm (b:AV):∀l,insF b l=l.take ((idxO (fun y=>decide (cmpY y b>0)) l).getD l.length)++[b]++l.drop ((idxO (fun y=>decide (cmpY y b>0)) l).getD l.length)
 |[]=>rfl
 |y::r=>by
  unfold insF idxO
  have ih:=qbwm b r
  cases h:decide (cmpY y b>0)with
  |true=>simp
  |false=>
   simp only[cond_f,Bool.false_eq_true,if_false]
   rw[ih]
   cases idxO (fun y=>decide (cmpY y b>0)) r<;>simp
theorem qbkz {R:Type}(l:LA)(hl:qq l)(a0:Bool)(a1:Int)(a2:Int)(a3:Int)(a4:Int)(a5:LU)(a6:LU)(a7:Int)(kr:Int->Bool->Int->Int->Int->Int->List UInt8->List UInt8->Int->Option R)(q:AV->Bool)(hq:∀y,qlh y->∀kr:Bool->Bool->Int->Int->Int->Int->List UInt8->List UInt8->Int->Option R,qxm (gB y.cells 0) (gI y.cells 1) (gI y.cells 2) (gI y.cells 3) (gI y.cells 4) (gS y.cells 5) (gS y.cells 6) (gI y.cells 7) a0 a1 a2 a3 a4 a5 a6 a7 kr=kr (q y) a0 a1 a2 a3 a4 a5 a6 a7):
 qcg l a0 a1 a2 a3 a4 a5 a6 a7 kr=kr (idxI q l) a0 a1 a2 a3 a4 a5 a6 a7:=by
 rw[qie];unfold qbt
 rw[qhd]
 have key:=qcj l hl.1 (fun n i (s:Bool×Int×Int×Int×Int×(List UInt8)×(List UInt8)×Int)=>qz l (l.length:Int) (fun c0 c1 c2 c3 c4 c5 c6 c7=>kr (-1:Int) c0 c1 c2 c3 c4 c5 c6 c7) kr n i s.1 s.2.1 s.2.2.1 s.2.2.2.1 s.2.2.2.2.1 s.2.2.2.2.2.1 s.2.2.2.2.2.2.1 s.2.2.2.2.2.2.2)
  (fun i s nx=>qy l (l.length:Int) i s.1 s.2.1 s.2.2.1 s.2.2.2.1 s.2.2.2.2.1 s.2.2.2.2.2.1 s.2.2.2.2.2.2.1 s.2.2.2.2.2.2.2 (fun i c0 c1 c2 c3 c4 c5 c6 c7=>nx i (c0,c1,c2,c3,c4,c5,c6,c7)) (fun c0 c1 c2 c3 c4 c5 c6 c7=>kr (-1:Int) c0 c1 c2 c3 c4 c5 c6 c7) kr) (fun _ _ _=>rfl)
  (fun i s=>s=(a0,a1,a2,a3,a4,a5,a6,a7)) (fun r s=>kr (match idxO q r with|some k=>((l.length-r.length+k:Nat):Int)|none=> -1) a0 a1 a2 a3 a4 a5 a6 a7) ?_ ?_ (a0,a1,a2,a3,a4,a5,a6,a7) FU rfl (qcq (by have:=hl.1;omega))
 · refine key.trans ?_
   unfold idxI
   cases idxO q l<;>simp
 · intro s nx hs
   subst hs
   simp[qy,idxO]
 · rintro i y r _ nx h1 h2 h3 h4 rfl h5
   have hy:=hl.2 y (List.mem_of_getElem? h2)
   have h6:(i:Int)<(l.length:Int):=by omega
   have hr:r.length=l.length-(i+1):=by
    have:=congrArg List.length h1
    simp at this
    omega
   unfold qy
   simp only[h6,decide_true,cond_t,ixB_nat,h2,oB_s,hy.1,hq y hy,h4]
   unfold idxO
   cases hqq:q y with
   |true=>
    simp only[cond_t,if_true]
    congr 1
    simp
    omega
   |false=>
    simp only[cond_f,Bool.false_eq_true,if_false]
    rw[h5 _ rfl]
    cases idxO q r with
    |none=>rfl
    |some k=>
     simp
     congr 1
     omega
theorem qb29 (l:LA)(hl:qq l)(hn:l.length<=100000)(b0:Bool)(b1 b2 b3 b4:Int)(b5 b6:LU)(b7:Int):q1z l b0 b1 b2 b3 b4 b5 b6 b7=some (insF (mkB b0 b1 b2 b3 b4 b5 b6 b7) l):=by
 rw[qblu];unfold qrf
 rw[qbkz l hl _ _ _ _ _ _ _ _ _ (fun y=>decide (cmpY y (mkB b0 b1 b2 b3 b4 b5 b6 b7)>0))]
 · have hc:qt l=some l:=by
    unfold qt q1i
    have:l.length*80<=140737488355328:=by omega
    simp[this]
   rw[qbdq];unfold qme
   have fin:∀k:Nat,k<=l.length->qop 80 l (k:Int) [mkB b0 b1 b2 b3 b4 b5 b6 b7]=some (l.take k++[mkB b0 b1 b2 b3 b4 b5 b6 b7]++l.drop k):=fun k hk=>by
    unfold qop
    have:(l.length+1)*80<=140737488355328:=by omega
    simp[hk,this]
   show(bif decide (idxI (fun y=>decide (cmpY y (mkB b0 b1 b2 b3 b4 b5 b6 b7)>0)) l<0)then(oB (qt l) fun r11=>(bif hd r11 r11.length then(bif hd [mkB b0 b1 b2 b3 b4 b5 b6 b7] ([mkB b0 b1 b2 b3 b4 b5 b6 b7].length)then(oB (qop 80 r11 (l.length:Int) [mkB b0 b1 b2 b3 b4 b5 b6 b7]) fun r12=>(bif hd r12 r12.length then(some r12)else none))else none)else none))else(oB (qt l) fun r11=>(bif hd r11 r11.length then(bif hd [mkB b0 b1 b2 b3 b4 b5 b6 b7] ([mkB b0 b1 b2 b3 b4 b5 b6 b7].length)then(oB (qop 80 r11 (idxI (fun y=>decide (cmpY y (mkB b0 b1 b2 b3 b4 b5 b6 b7)>0)) l) [mkB b0 b1 b2 b3 b4 b5 b6 b7]) fun r12=>(bif hd r12 r12.length then(some r12)else none))else none)else none)))=_
   rw[qbwm,hc]
   unfold idxI
   cases hq:idxO (fun y=>decide (cmpY y (mkB b0 b1 b2 b3 b4 b5 b6 b7)>0)) l with
   |none=>
    simp only[oB_s,hd_self,cond_t,Option.getD_none]
    rw[fin l.length (Nat.le_refl _)]
    simp
   |some k=>
    obtain⟨y,hy,_⟩:=qnf l k hq
    have hk:=(List.getElem?_eq_some_iff.1 hy).1
    have h0:¬((k:Int)<0):=by omega
    simp only[oB_s,hd_self,cond_t,h0,decide_false,cond_f,Option.getD_some]
    rw[fin k (by omega)]
    simp
 · intro z hz kr
   rw[qbfq];unfold qno
   simp only[qb60,oB_s]
   rfl
theorem q5h {R:Type}{a:LA}(x:AV)(h:(a.length+1)*80<=140737488355328)(k:Option R):(bif decide ((a.length+([x]:List AV).length)*80<=140737488355328)then k else none)=k:=by
 rw[show([x]:List AV).length=1 from rfl,decide_eq_true h];rfl
theorem qb5r (l:LA)(d:Bool)(i:Nat)(b0:Bool)(b1 b2 b3 b4:Int)(b5 b6:LU)(b7:Int)(a:LA)(kn:Bool->List AV->Option (List AV)){y:AV}(hy:l[i]?=some y)(hf:fitC qb y.cells=true)(ha:(a.length+1)*80<=140737488355328):
 qwe l d (i:Int) b0 b1 b2 b3 b4 b5 b6 b7 a kn=bif(!d&&decide (cmpY y (mkB b0 b1 b2 b3 b4 b5 b6 b7)>0))then kn true (a++[mkB b0 b1 b2 b3 b4 b5 b6 b7])else kn d a:=by
 rw[qbet];unfold qm1
 rw[qber];unfold qm0
 simp only[hd_self,Bool.and_self,cond_t,ixB_nat,hy,oB_s,hf,qb1j]
 rw[show decide (cmpP (gB y.cells 0) (gI y.cells 1) (gI y.cells 2) (gI y.cells 3) b0 b1 b2 b3>0)=decide (cmpY y (mkB b0 b1 b2 b3 b4 b5 b6 b7)>0)from rfl]
 rw[q5h _ ha]
 cases d<;>cases decide (cmpY y (mkB b0 b1 b2 b3 b4 b5 b6 b7)>0)<;>rfl
theorem qb3a (l:LA)(d:Bool)(i:Nat)(b0:Bool)(b1 b2 b3 b4:Int)(b5 b6:LU)(b7:Int)(a:LA)(nx:Bool->Int->List AV->Option (List AV))(kx:Bool->List AV->Option (List AV)){y:AV}(hy:l[i]?=some y)(hf:fitC qb y.cells=true)(hl:l.length<=100000)(ha:(a.length+2)*80<=140737488355328):
 qfw l d (i:Int) b0 b1 b2 b3 b4 b5 b6 b7 a nx kx=bif(!d&&decide (cmpY y (mkB b0 b1 b2 b3 b4 b5 b6 b7)>0))then nx true ((i+1:Nat):Int) (a++[mkB b0 b1 b2 b3 b4 b5 b6 b7]++[y])else nx d ((i+1:Nat):Int) (a++[y]):=by
 have hi:=(List.getElem?_eq_some_iff.1 hy).1
 have h6:(i:Int)<(l.length:Int):=by omega
 have h4:IntKind.i64.wrap ((i:Int)+1)=((i+1:Nat):Int):=w64 (by omega) (by omega)
 have hyy:=qnk hf
 unfold mkB at hyy
 unfold qfw
 rw[qb5r l d i b0 b1 b2 b3 b4 b5 b6 b7 a _ hy hf (by omega),decide_eq_true h6]
 simp only[cond_t,hd_self,Bool.and_self,ixB_nat,hy,oB_s,hf,h4,hyy]
 rw[q5h y (a:=a) (by omega),q5h y (a:=a++[mkB b0 b1 b2 b3 b4 b5 b6 b7]) (by simp;omega)]
theorem qb61 (l:LA)(hl:qq l)(hn:l.length<=100000)(b0:Bool)(b1 b2 b3 b4:Int)(b5 b6:LU)(b7:Int):q4l l b0 b1 b2 b3 b4 b5 b6 b7=some (insF (mkB b0 b1 b2 b3 b4 b5 b6 b7) l):=by
 rw[qbob];unfold qtz
 simp only[qqn,List.length_nil,Bool.and_self,cond_t]
 rw[qbeu]
 have fin:∀(kx:Bool->List AV->Option (List AV)),(∀d a,a.length<=200000->kx d a=some (bif d then a else a++[mkB b0 b1 b2 b3 b4 b5 b6 b7]))->
  qfx l b0 b1 b2 b3 b4 b5 b6 b7 kx FU false 0 []=some (insF (mkB b0 b1 b2 b3 b4 b5 b6 b7) l):=by
  intro kx hkx
  have key:=qcj (σ:=Bool×List AV) l hl.1 (fun n i s=>qfx l b0 b1 b2 b3 b4 b5 b6 b7 kx n s.1 i s.2) (fun i s nx=>qfw l s.1 i b0 b1 b2 b3 b4 b5 b6 b7 s.2 (fun d i a=>nx i (d,a)) kx) (fun _ _ _=>rfl)
   (fun i s=>s.2.length<=2*i) (fun r s=>some (s.2++(bif s.1 then r else insF (mkB b0 b1 b2 b3 b4 b5 b6 b7) r))) ?_ ?_ (false,[]) FU (by simp) (qcq (by have:=hl.1;omega))
  · simpa using key
  · rintro⟨d,a⟩ nx hJ
    simp only at hJ⊢
    unfold qfw
    simp only[Int.lt_irrefl,decide_false,cond_f]
    rw[hkx d a (by omega)]
    cases d<;>simp[insF]
  · rintro i y r ⟨d,a⟩ nx h1 h2 h3 h4 hJ h5
    have hy:=hl.2 y (List.mem_of_getElem? h2)
    simp only at hJ⊢
    rw[qb3a l d i b0 b1 b2 b3 b4 b5 b6 b7 a _ kx h2 hy.1 hn (by omega)]
    have e1:=h5 (true,a++[mkB b0 b1 b2 b3 b4 b5 b6 b7]++[y]) (by simp;omega)
    have e2:=h5 (d,a++[y]) (by simp;omega)
    simp only at e1 e2
    rw[e1,e2]
    rw[q1o]
    cases d<;>cases decide (cmpY y (mkB b0 b1 b2 b3 b4 b5 b6 b7)>0)<;>simp
 refine fin _ fun d a ha=> ?_
 cases d
 · simp only[Bool.not_false,cond_t,hd_self,cond_f]
   rw[q5h _ (by omega)]
   rfl
 · simp
def remF (l:LA)(v:Bool)(hi lo bits:Int):List AV:=l.filter fun y=> !atP v hi lo bits y
theorem qbzt (l:LA)(hl:qq l)(hn:l.length<=100000)(v:Bool)(hi lo bits:Int):qwg l v hi lo bits=some (remF l v hi lo bits):=by
 rw[qbex];unfold qm2
 simp only[qqn,List.length_nil,Bool.and_self,cond_t]
 rw[q7h]
 have key:=qcj (σ:=List AV) l hl.1 (fun n i s=>qfz l v hi lo bits (fun a0q1=>bif hd a0q1 a0q1.length then some a0q1 else none) n i s) (fun i s nx=>qfy l i v hi lo bits s nx (fun a0q1=>bif hd a0q1 a0q1.length then some a0q1 else none)) (fun _ _ _=>rfl)
  (fun i s=>s.length<=i) (fun r s=>some (s++remF r v hi lo bits)) ?_ ?_ [] FU (by simp) (qcq (by have:=hl.1;omega))
 · simpa using key
 · intro a nx hJ;simp[qfy,remF]
 · intro i y r a nx h1 h2 h3 h4 hJ h5
   have hy:=hl.2 y (List.mem_of_getElem? h2)
   have h6:(i:Int)<(l.length:Int):=by omega
   have hyy:=qnk hy.1
   unfold mkB at hyy
   have g1:(a.length+1)*80<=140737488355328:=by omega
   unfold qfy
   simp only[h6,decide_true,cond_t,hd_self,ixB_nat,h2,oB_s,hy.1,h4,hyy,List.length_cons,List.length_nil,Nat.zero_add,g1]
   rw[show((gB y.cells 0==v)&&((gI y.cells 1==hi)&&((gI y.cells 2==lo)&&((gI y.cells 3==bits)&&true))))=atP v hi lo bits y from rfl]
   unfold remF
   cases hq:atP v hi lo bits y with
   |true=>
    simp only[Bool.not_true,cond_f]
    rw[h5 a (by omega)]
    simp[hq,remF]
   |false=>
    simp only[Bool.not_false,cond_t,hd_one]
    rw[h5 (a++[y]) (by simp;omega)]
    simp[hq,remF]
theorem qbp4 {q:AV->Bool}:∀(l:LA) (k:Nat),idxO q l=some k->(∀(j:Nat) (y:AV),k<j->l[j]?=some y->q y=false)->l.take k++l.drop (k+1)=l.filter fun y=> !q y
 |[],k,h,_=>by simp[idxO]at h
 |y::r,k,h,hu=>by
  unfold idxO at h
  cases hq:q y with
  |true=>
   simp[hq]at h
   subst h
   simp only[List.take_zero,List.drop_succ_cons,List.drop_zero,List.nil_append]
   rw[List.filter_cons,hq]
   simp only[Bool.not_true,Bool.false_eq_true,if_false]
   refine(List.filter_eq_self.2 fun z hz=> ?_).symm
   obtain⟨j,hj⟩:=List.getElem?_of_mem hz
   rw[hu (j+1) z (by omega) (by simpa using hj)];rfl
  |false=>
   simp[hq]at h
   obtain⟨k',h1,rfl⟩:=h
   have ih:=qbp4 r k' h1 (fun j z hj hz=>hu (j+1) z (by omega) (by simpa using hz))
   rw[List.filter_cons,hq]
   simp only[Bool.not_false,if_true,List.take_succ_cons,List.drop_succ_cons,List.cons_append]
   rw[ih]
theorem qcz.uniq {l:LA}(h:qcz l){v:Bool}{hi lo bits:Int}{i j:Nat}{y z:AV}(hy:l[i]?=some y)(hz:l[j]?=some z)(h1:atP v hi lo bits y=true)(h2:atP v hi lo bits z=true):i=j:=by
 have key:∀{i j:Nat} {y z:AV},l[i]?=some y->l[j]?=some z->atP v hi lo bits y=true->atP v hi lo bits z=true->¬i<j:=fun hy hz h1 h2 hij=>by
  have:=h.sorted _ _ hy _ _ hij hz
  obtain⟨a,b,c,d⟩:=qor.1 h1
  obtain⟨a',b',c',d'⟩:=qor.1 h2
  unfold ltY at this
  rw[a,b,c,d,a',b',c',d']at this
  exact qfm this
 have a:=key hy hz h1 h2
 have b:=key hz hy h2 h1
 omega
theorem qb1n (l:LA)(hn:l.length<=100000)(k:Nat)(hk:k<l.length):qtm l (k:Int)=some (l.take k++l.drop (k+1)):=by
 rw[qbjl];unfold qo3
 have hc:qt l=some l:=by
  unfold qt q1i
  have:l.length*80<=140737488355328:=by omega
  simp[this]
 have hw:IntKind.i64.wrap ((k:Int)+1)=((k+1:Nat):Int):=w64 (by omega) (by omega)
 have hd':qxb l (k:Int) ((k+1:Nat):Int)=some (l.take k++l.drop (k+1)):=by
  unfold qxb
  have:((0:Int)<=(k:Int)/\(k:Int)<((k+1:Nat):Int)/\((k+1:Nat):Int)<=(l.length:Int)/\l.length<=9223372036854775807):=⟨by omega,by omega,by omega,by omega⟩
  simp only[this,and_self,decide_true,cond_t,Int.toNat_natCast]
 simp only[hc,oB_s,hd_self,cond_t,hw,hd']
theorem qbzu (l:LA)(hn:l.length<=100000)(ht:qcz l){v:Bool}{hi lo bits:Int}{k:Nat}(hk:idxO (atP v hi lo bits) l=some k):qtm l (k:Int)=some (remF l v hi lo bits):=by
 obtain⟨y,hy,hf⟩:=qnf l k hk
 rw[qb1n l hn k (List.getElem?_eq_some_iff.1 hy).1]
 congr 1
 have hq:=List.find?_some hf
 refine qbp4 l k hk fun j z hj hz=> ?_
 rw[Bool.eq_false_iff]
 intro h2
 have:=ht.uniq hy hz hq h2
 omega
def qb6 (l:LA)(v:Bool)(hi lo bits:Int):List AV×Int:=
 bif !(l.any (atP v hi lo bits))then([],11)else bif occF l v hi lo bits then([],25)else(remF l v hi lo bits,0)
theorem qb5s (q:AV->Bool)(l:LA):decide (idxI q l<0)= !(l.any q):=by
 rw[<-qta,Bool.eq_iff_iff]
 simp
theorem qb5t {q:AV->Bool}{l:LA}(h:l.any q=true):∃k,idxO q l=some k/\idxI q l=(k:Int):=by
 rw[<-qta]at h
 unfold idxI at*
 cases hq:idxO q l with
 |none=>rw[hq]at h;simp at h
 |some k=>exact⟨k,rfl,rfl⟩
theorem qb3b (l:LA)(hl:qq l)(hn:l.length<=100000)(ht:qcz l)(v:Bool)(hi lo bits:Int):q10 l v hi lo bits=some (qb6 l v hi lo bits):=by
 rw[qblx];unfold qrg qb6
 simp only[qbnc l hl,oB_s,qbp2 l hl,qb5s]
 cases ha:l.any (atP v hi lo bits)with
 |false=>rfl
 |true=>
  obtain⟨k,h1,h2⟩:=qb5t ha
  simp only[Bool.not_true,cond_f]
  cases occF l v hi lo bits with
  |true=>rfl
  |false=>
   simp only[cond_f,h2,qbzu l hn ht h1,oB_s]
theorem qbtc (l:LA)(v:Bool)(hi lo bits:Int):(qsb l v hi lo bits).2=l.any (atP v hi lo bits):=by
 unfold qsb
 cases hf:l.find? (atP v hi lo bits)with
 |none=>
  simp only
  symm
  rw[List.any_eq_false]
  intro y hy
  simpa using List.find?_eq_none.1 hf y hy
 |some y=>
  simp only
  symm
  rw[List.any_eq_true]
  exact⟨y,List.mem_of_find?_eq_some hf,List.find?_some hf⟩
theorem qb1o (l:LA)(hl:qq l)(hn:l.length<=100000)(v:Bool)(hi lo bits:Int):qx9 l v hi lo bits=some (qb6 l v hi lo bits):=by
 rw[qbg3];unfold qn6 qb6
 simp only[qbiz l hl,oB_s,qb28 l hl,qbtc,qbzt l hl hn]
 cases l.any (atP v hi lo bits)<;>simp<;>cases occF l v hi lo bits<;>simp
def addF (l:LA)(b:AV):List AV×Int:=
 bif !qod b then([],3)else bif !mayB b then([],1)else bif l.any (atP (gB b.cells 0) (gI b.cells 1) (gI b.cells 2) (gI b.cells 3))then([],12)else
 bif l.any (qbi b)||occF l (gB b.cells 0) (gI b.cells 1) (gI b.cells 2) (gI b.cells 3)then([],24)else bif decide ((l.length:Int)>=512)then([],9)else(insF b l,0)
theorem qcz.may {l:LA}(ht:qcz l){y:AV}(hy:y∈l):mayB y=true:=by
 obtain⟨j,hj⟩:=List.getElem?_of_mem hy
 exact(ht j y hj).may
theorem qcz.mis {l:LA}(ht:qcz l)(b:AV):l.any (misY b)=l.any (qbi b):=by
 rw[Bool.eq_iff_iff,List.any_eq_true,List.any_eq_true]
 constructor<;>(rintro⟨z,hz,hb⟩;refine⟨z,hz,?_⟩;simpa[qb5q (ht.may hz)]using hb)
theorem qb4n (l:LA)(hl:qq l)(hn:l.length<=100000)(ht:qcz l)(b0:Bool)(b1 b2 b3 b4:Int)(b5 b6:LU)(b7:Int)(hb:qlh (mkB b0 b1 b2 b3 b4 b5 b6 b7)):q23 l b0 b1 b2 b3 b4 b5 b6 b7=some (addF l (mkB b0 b1 b2 b3 b4 b5 b6 b7)):=by
 have h1:qxl b0 b1 b2 b3 b4 b5 b6 b7=some (qbp0 (mkB b0 b1 b2 b3 b4 b5 b6 b7)):=qb5p (mkB b0 b1 b2 b3 b4 b5 b6 b7) hb
 have h2:qo0 l b0 b1 b2 b3 b4 b5 b6 b7=some (l.any (misY (mkB b0 b1 b2 b3 b4 b5 b6 b7))):=qbxv l hl (mkB b0 b1 b2 b3 b4 b5 b6 b7)
 rw[qbtx];unfold qxn addF
 simp only[h1,oB_s,qbjk,qo2,h2,qbnc l hl,qta,qbp2 l hl,qb29 l hl hn,ht.mis]
 rw[show(gB (mkB b0 b1 b2 b3 b4 b5 b6 b7).cells 0)=b0 from rfl,show(gI (mkB b0 b1 b2 b3 b4 b5 b6 b7).cells 1)=b1 from rfl,show(gI (mkB b0 b1 b2 b3 b4 b5 b6 b7).cells 2)=b2 from rfl,show(gI (mkB b0 b1 b2 b3 b4 b5 b6 b7).cells 3)=b3 from rfl]
 unfold qbp0
 cases qod (mkB b0 b1 b2 b3 b4 b5 b6 b7)with
 |false=>rfl
 |true=>
  cases mayB (mkB b0 b1 b2 b3 b4 b5 b6 b7)with
  |false=>rfl
  |true=>
   simp only[Bool.not_true,cond_f,bne_self_eq_false]
   cases l.any (atP b0 b1 b2 b3)<;>cases l.any (qbi (mkB b0 b1 b2 b3 b4 b5 b6 b7))<;>cases occF l b0 b1 b2 b3<;>cases decide ((l.length:Int)>=512)<;>rfl
theorem qbwn (l:LA)(hl:qq l)(hn:l.length<=100000)(b0:Bool)(b1 b2 b3 b4:Int)(b5 b6:LU)(b7:Int)(hb:qlh (mkB b0 b1 b2 b3 b4 b5 b6 b7)):qx8 l b0 b1 b2 b3 b4 b5 b6 b7=some (addF l (mkB b0 b1 b2 b3 b4 b5 b6 b7)):=by
 have h1:qsq b0 b1 b2 b3 b4 b5 b6 b7=some (mayB (mkB b0 b1 b2 b3 b4 b5 b6 b7)):=qb4m (mkB b0 b1 b2 b3 b4 b5 b6 b7) hb
 have h2:∀z,qmr b0 b1 b2 b3 b4 b5 b6 b7 (gB z.cells 0) (gI z.cells 1) (gI z.cells 2) (gI z.cells 3) (gI z.cells 4) (gS z.cells 5) (gS z.cells 6) (gI z.cells 7)=some (qbi (mkB b0 b1 b2 b3 b4 b5 b6 b7) z):=fun z=>qbwg (mkB b0 b1 b2 b3 b4 b5 b6 b7) z hb
 rw[qboc];unfold qt0 addF
 have lp:∀kx:Unit->Option (List AV×Int),qwf l b0 b1 b2 b3 b4 b5 b6 b7 kx FU 0=bif l.any (fun z=>qbi (mkB b0 b1 b2 b3 b4 b5 b6 b7) z||qd9 (gB z.cells 0) (gI z.cells 1) (gI z.cells 2) (gI z.cells 3) b0 b1 b2 b3)then some ([],24)else kx ():=by
  intro kx
  rw[qbev,qeg l hl.1 (qi9 l b0 b1 b2 b3 b4 b5 b6 b7 kx) (fun i nx=>qi8 l i b0 b1 b2 b3 b4 b5 b6 b7 nx kx) (fun _ _=>rfl) (fun r=>bif r.any (fun z=>qbi (mkB b0 b1 b2 b3 b4 b5 b6 b7) z||qd9 (gB z.cells 0) (gI z.cells 1) (gI z.cells 2) (gI z.cells 3) b0 b1 b2 b3)then some ([],24)else kx ())]
  · intro nx;simp[qi8]
  · intro i y r nx g1 g2 g3 g4 g5
    have hy:=hl.2 y (List.mem_of_getElem? g2)
    have g6:(i:Int)<(l.length:Int):=by omega
    unfold qi8
    simp only[g6,decide_true,cond_t,ixB_nat,g2,oB_s,hy.1,h2,qbp3 _ _ _ _ _ _ _ _ hy.2.1 hy.2.2.1,g4,g5,List.any_cons]
    cases qbi (mkB b0 b1 b2 b3 b4 b5 b6 b7) y<;>cases qd9 (gB y.cells 0) (gI y.cells 1) (gI y.cells 2) (gI y.cells 3) b0 b1 b2 b3<;>simp
 simp only[qxc,oB_s,h1,qbiz l hl,qbtc,lp,qb61 l hl hn]
 rw[show(gB (mkB b0 b1 b2 b3 b4 b5 b6 b7).cells 0)=b0 from rfl,show(gI (mkB b0 b1 b2 b3 b4 b5 b6 b7).cells 1)=b1 from rfl,show(gI (mkB b0 b1 b2 b3 b4 b5 b6 b7).cells 2)=b2 from rfl,show(gI (mkB b0 b1 b2 b3 b4 b5 b6 b7).cells 3)=b3 from rfl]
 rw[show qod (mkB b0 b1 b2 b3 b4 b5 b6 b7)=qcv b0 b1 b2 b3 from rfl]
 have ho:l.any (fun z=>qbi (mkB b0 b1 b2 b3 b4 b5 b6 b7) z||qd9 (gB z.cells 0) (gI z.cells 1) (gI z.cells 2) (gI z.cells 3) b0 b1 b2 b3)=(l.any (qbi (mkB b0 b1 b2 b3 b4 b5 b6 b7))||occF l b0 b1 b2 b3):=by
  unfold occF
  clear hl hn lp
  induction l with
  |nil=>rfl
  |cons y r ih=>simp only[List.any_cons,ih];cases qbi (mkB b0 b1 b2 b3 b4 b5 b6 b7) y<;>cases qd9 (gB y.cells 0) (gI y.cells 1) (gI y.cells 2) (gI y.cells 3) b0 b1 b2 b3<;>simp
 rw[ho]
 cases qcv b0 b1 b2 b3<;>simp only[Bool.not_true,Bool.not_false,cond_t,cond_f]
 cases mayB (mkB b0 b1 b2 b3 b4 b5 b6 b7)<;>simp only[Bool.not_true,Bool.not_false,cond_t,cond_f]
 cases l.any (atP b0 b1 b2 b3)<;>simp only[cond_t,cond_f]
 cases(l.any (qbi (mkB b0 b1 b2 b3 b4 b5 b6 b7))||occF l b0 b1 b2 b3)<;>simp only[cond_t,cond_f]
 cases decide ((l.length:Int)>=512)<;>rfl
theorem qbwo {x:Int}(h:uok x):qbg .or .u64 x 0=x:=by
 have:=qbic h (y:=0) ⟨by omega,by omega⟩ (q0p h)
 omega
def shl1 (p:Int×Int):Int×Int:=(IntKind.u64.wrap (IntKind.u64.wrap (p.1*2)+IntKind.u64.wrap (p.2.tdiv 9223372036854775808)),IntKind.u64.wrap (p.2*2))
def shlN:Nat->Int×Int->Int×Int
 |0,p=>p
 |n+1,p=>shlN n (shl1 p)
theorem qbtd:∀n,shlN n (0,0)=(0,0)
 |0=>rfl
 |n+1=>by unfold shlN;rw[show shl1 (0,0)=(0,0) by decide];exact qbtd n
theorem qbrs:∀n:Fin 64,shlN n (0,1)=(0,((2^n.val:Nat):Int)):=by decide+kernel
theorem qbnd:∀n:Fin 64,shlN (n.val+64) (0,1)=(((2^n.val:Nat):Int),0):=by decide+kernel
theorem qb5u:∀n:Fin 128,(0<=(shlN n (0,1)).1/\(shlN n (0,1)).1<=18446744073709551615)/\(0<=(shlN n (0,1)).2/\(shlN n (0,1)).2<=18446744073709551615):=by decide+kernel
theorem qb5v {n:Nat}(h:n<128):numP (shlN n (0,1)).1 (shlN n (0,1)).2=2^n:=by
 unfold numP
 rcases Nat.lt_or_ge n 64 with h1|h1
 · rw[qbrs ⟨n,h1⟩]
   show(0:Int).toNat*18446744073709551616+(((2^n:Nat):Int)).toNat=2^n
   rw[Int.toNat_natCast]
   simp
 · obtain⟨j,rfl⟩:∃j,n=j+64:=⟨n-64,by omega⟩
   rw[qbnd ⟨j,by omega⟩,Nat.pow_add,qbcw]
   show(((2^j:Nat):Int)).toNat*18446744073709551616+(0:Int).toNat=_
   rw[Int.toNat_natCast]
   simp
theorem qb3c (n:Int)(v:Bool)(hi lo bits:Int)(c0:Bool)(c1 c2 c3:Int)(kx:Int->Int->Option (AV×Bool)):∀(k:Nat) (p:Int×Int) (i:Int),-1000<=i->(qi v-i).toNat=k->
 ∀m,k<m->qeh n v hi lo bits c0 c1 c2 c3 kx m p.1 p.2 i=kx (shlN k p).1 (shlN k p).2:=by
 intro k
 have hl:=qfa v
 induction k with
 |zero=>
  intro p i h0 hk m hm
  obtain⟨m,rfl⟩:∃j,m=j+1:=⟨m-1,by omega⟩
  have:¬i<qi v:=by omega
  simp only[qeh,qlv,qbib,oB_s,this,decide_false,cond_f]
  rfl
 |succ k ih=>
  intro p i h0 hk m hm
  obtain⟨m,rfl⟩:∃j,m=j+1:=⟨m-1,by omega⟩
  have:i<qi v:=by omega
  have hw:IntKind.i64.wrap (i+1)=i+1:=w64 (by omega) (by omega)
  simp only[qeh,qlv,qbib,oB_s,this,decide_true,cond_t,hw]
  exact ih (shl1 p) (i+1) (by omega) (by omega) m (by omega)
def qoe:AV:=mkP false 0 0 0
def qkg (v:Bool)(hi lo bits n:Int):Bool:=qcv v hi lo bits&&(decide (bits<=n)&&decide (n<=qi v))
theorem qbig {v:Bool}{hi lo bits n:Int}(h:qkg v hi lo bits n=true):qcv v hi lo bits=true/\0<=bits/\bits<=n/\n<=qi v/\n<=128:=by
 unfold qkg at h
 simp only[Bool.and_eq_true,decide_eq_true_eq]at h
 have h1:=qd7 h.1
 have:=qfa v
 exact⟨h.1,h1.1,h.2.1,h.2.2,by omega⟩
theorem qb3d {v:Bool}{hi lo bits n i:Int}(c0:Bool)(c1 c2 c3:Int)(kn:Bool->Option (AV×Bool)):qwi n i v hi lo bits c0 c1 c2 c3 kn=kn (!qkg v hi lo bits n):=by
 rw[qbe2];unfold qm4 qkg
 simp only[qxc,qbib,oB_s]
 have e1:decide (n<bits)= !decide (bits<=n):=by rw[Bool.eq_iff_iff];simp
 have e2:decide (n>qi v)= !decide (n<=qi v):=by rw[Bool.eq_iff_iff];simp
 rw[e1,e2]
 cases qcv v hi lo bits<;>cases decide (bits<=n)<;>rfl
theorem qbyn {v:Bool}{hi lo bits n i:Int}:qhk v hi lo bits n i=some (bif !qkg v hi lo bits n then(qoe,false)else bif decide (i>(qdh (n-bits).toNat).2)then(qoe,false)else
 (mkP v (IntKind.u64.wrap (hi+(shlN (qi v-n).toNat (0,i)).1)) (IntKind.u64.wrap (lo+(shlN (qi v-n).toNat (0,i)).2)) n,true)):=by
 rw[qbmt];unfold qr5
 rw[qb3d]
 cases hp:qkg v hi lo bits n with
 |false=>rfl
 |true=>
  obtain⟨h1,h2,h3,h4,h5⟩:=qbig hp
  have hw:IntKind.i64.wrap (n-bits)=n-bits:=w64 (by omega) (by omega)
  have hm:(min (n-bits) 128).toNat=(n-bits).toNat:=by congr 1;omega
  simp only[Bool.not_true,cond_f,hw,qbwe,oB_s,hm]
  rw[qbbn]
  rw[qb3c n v hi lo bits false 0 0 0 _ _ (0,i) n (by omega) rfl FU (qcq (by have:=qfa v;omega))]
  cases decide (i>(qdh (n-bits).toNat).2)<;>rfl
theorem qbc1 {v:Bool}{hi lo bits n:Int}(u1:uok hi)(u2:uok lo):qhk v hi lo bits n 0=some (bif qkg v hi lo bits n then(mkP v hi lo n,true)else(qoe,false)):=by
 rw[qbyn]
 cases hp:qkg v hi lo bits n with
 |false=>rfl
 |true=>
  obtain⟨h1,h2,h3,h4,h5⟩:=qbig hp
  have h6:=(qb26 ⟨(n-bits).toNat,by omega⟩).2.1
  have h7:¬(0:Int)>(qdh (n-bits).toNat).2:=by simp only at h6;omega
  rw[qbtd]
  simp only[Bool.not_true,cond_f,h7,decide_false,Int.add_zero,cond_t]
  rw[wu64 u1.1 u1.2,wu64 u2.1 u2.2]
theorem qbwp {v:Bool}{hi lo bits n i:Int}(c0:Bool)(c1 c2 c3:Int)(kn:Bool->Option (AV×Bool)):qzj n i v hi lo bits c0 c1 c2 c3 kn=kn (!qkg v hi lo bits n):=by
 rw[qbju];unfold qo6 qkg
 simp only[q5g,q5f,oB_s]
 have e1:decide (n<bits)= !decide (bits<=n):=by rw[Bool.eq_iff_iff];simp
 have e2:decide (n>qi v)= !decide (n<=qi v):=by rw[Bool.eq_iff_iff];simp
 rw[e1,e2]
 cases qcv v hi lo bits<;>cases decide (bits<=n)<;>rfl
theorem qbc2 {v:Bool}{hi lo bits n:Int}(u1:uok hi)(u2:uok lo):qec v hi lo bits n 0=some (bif qkg v hi lo bits n then(mkP v hi lo n,true)else(qoe,false)):=by
 rw[q79];unfold qqa
 rw[qbwp]
 cases hp:qkg v hi lo bits n with
 |false=>rfl
 |true=>
  obtain⟨h1,h2,h3,h4,h5⟩:=qbig hp
  have hw:IntKind.i64.wrap (n-bits)=n-bits:=w64 (by omega) (by omega)
  have hw2:IntKind.i64.wrap (qi v-n)=qi v-n:=w64 (by have:=qfa v;omega) (by have:=qfa v;omega)
  have hu:IntKind.u64.wrap (n-bits)=n-bits:=wu64 (by omega) (by omega)
  have hu2:IntKind.u64.wrap (qi v-n)=qi v-n:=wu64 (by omega) (by have:=qfa v;omega)
  have a0:¬n-bits<0:=by omega
  simp only[Bool.not_true,cond_f,cond_t,hw,q0t,qj3,hu,a0,decide_false,Int.zero_fdiv,bne_self_eq_false,q5f,oB_s,hw2,hu2]
  have fin:(bif decide (n-bits<64)then qmf n 0 (qi v-n) 0 0 v hi lo bits false 0 0 0 (fun a b=>some (mkP v (qbg .or .u64 hi a) (qbg .or .u64 lo b) n,true))else qmf n 0 (qi v-n) 0 0 v hi lo bits false 0 0 0 (fun a b=>some (mkP v (qbg .or .u64 hi a) (qbg .or .u64 lo b) n,true)))=some (mkP v hi lo n,true):=by
   have e:qmf n 0 (qi v-n) 0 0 v hi lo bits false 0 0 0 (fun a b=>some (mkP v (qbg .or .u64 hi a) (qbg .or .u64 lo b) n,true))=some (mkP v hi lo n,true):=by
    rw[q0u];unfold qj4
    have q0:IntKind.u64.wrap 0=0:=by decide
    have hnn:∀x,¬IntKind.u64.wrap x<0:=fun x=>by
     have:0<=IntKind.u64.wrap x:=by simp[IntKind.wrap,IntKind.signed];omega
     omega
    have a1:¬qi v-n<0:=by omega
    simp only[Int.zero_mul,Int.zero_fdiv,q0,hnn,a1,decide_false,cond_f,qbwo u1,qbwo u2]
    cases decide (qi v-n>=64)<;>cases decide (qi v-n>0)<;>rfl
   rw[e];cases decide (n-bits<64)<;>rfl
  exact fin
def qkh (v:Bool)(hi lo bits:Int):Bool:=qcv v hi lo bits&&decide (bits<qi v)
def bitP (v:Bool)(bits:Int):Int×Int:=shlN (qi v-bits-1).toNat (0,1)
def lowP (v:Bool)(hi lo bits:Int):AV:=mkP v hi lo (bits+1)
def qyu (v:Bool)(hi lo bits:Int):AV:=mkP v (qbg .or .u64 hi (bitP v bits).1) (qbg .or .u64 lo (bitP v bits).2) (bits+1)
def qqs (v:Bool)(hi lo bits:Int):AV×AV×Bool:=bif qkh v hi lo bits then(lowP v hi lo bits,qyu v hi lo bits,true)else(qoe,qoe,false)
theorem q1p {v:Bool}{hi lo bits:Int}(h:qkh v hi lo bits=true):qcv v hi lo bits=true/\0<=bits/\bits<qi v/\bits<128:=by
 unfold qkh at h
 simp only[Bool.and_eq_true,decide_eq_true_eq]at h
 have:=qfa v
 exact⟨h.1,(qd7 h.1).1,h.2,by omega⟩
theorem qbwq {v:Bool}{bits:Int}(h0:0<=bits)(h:bits<qi v):uok (bitP v bits).1/\uok (bitP v bits).2:=by
 have:=qfa v
 exact qb5u ⟨(qi v-bits-1).toNat,by omega⟩
theorem qbih {v:Bool}{hi lo bits:Int}:qkg v hi lo bits (IntKind.i64.wrap (bits+1))=qkh v hi lo bits:=by
 unfold qkg qkh
 cases hp:qcv v hi lo bits with
 |false=>rfl
 |true=>
  obtain⟨h1,h2,_⟩:=qd7 hp
  have:=qfa v
  rw[w64 (by omega) (by omega)]
  simp only[Bool.true_and]
  have:bits<=bits+1:=by omega
  simp[this]
  omega
theorem qbwr {v:Bool}{hi lo bits:Int}(h:qkh v hi lo bits=true)(u1:uok hi)(u2:uok lo):qbg .and .u64 hi (bitP v bits).1=0/\qbg .and .u64 lo (bitP v bits).2=0:=by
 obtain⟨h1,h2,h3,h4⟩:=q1p h
 obtain⟨_,_,_,h5⟩:=(qyt u1 u2).1 h1
 have hl:=qfa v
 obtain⟨k,hk⟩:∃k,kOf v bits=k+1:=⟨(qi v-bits-1).toNat,by unfold kOf;omega⟩
 have hk2:(qi v-bits-1).toNat=k:=by unfold kOf at hk;omega
 have hk3:k<128:=by omega
 unfold bitP
 rw[hk2]
 rw[hk]at h5
 obtain⟨a1,a2⟩:=u1
 obtain⟨b1,b2⟩:=u2
 have mask:∀{x:Int} (j:Nat),uok x->j<64->x.toNat%2^(j+1)=0->qbg .and .u64 x ((2^j:Nat):Int)=0:=by
  intro x j hx hj hm
  have hp:(2:Nat)^j<2^64:=Nat.pow_lt_pow_right (by decide) hj
  have h0:0<(2:Nat)^j:=Nat.two_pow_pos j
  rw[qbae]
  have e1:=qys hx
  have e2:=qys (x:=((2^j:Nat):Int)) ⟨by omega,by rw[qbcw]at hp;omega⟩
  rw[BitVec.toNat_and]
  have e3:(BitVec.ofInt 64 x).toNat=x.toNat:=by omega
  have e4:(BitVec.ofInt 64 ((2^j:Nat):Int)).toNat=2^j:=by omega
  rw[e3,e4]
  have:x.toNat.testBit j=false:=by
   rw[Nat.testBit_eq_decide_div_mod_eq]
   have h6:x.toNat / 2^j%2=0:=by
    rw[Nat.pow_succ,]at hm
    have:=Nat.mod_mul_right_div_self x.toNat (2^j) 2
    rw[hm]at this
    simpa using this.symm
   simp[h6]
  have h7:x.toNat&&& 2^j=0:=by
   refine Nat.eq_of_testBit_eq fun i=> ?_
   rw[Nat.testBit_and,Nat.testBit_two_pow]
   by_cases hij:j=i
   · subst hij;simp[this]
   · simp[hij]
  rw[h7];rfl
 rcases Nat.lt_or_ge k 64 with h6|h6
 · rw[qbrs ⟨k,h6⟩]
   refine⟨q0p ⟨a1,a2⟩,mask k ⟨b1,b2⟩ h6 ?_⟩
   have:=qbif hi.toNat lo.toNat (k+1) (by omega)
   unfold numP at h5
   omega
 · obtain⟨j,rfl⟩:∃j,k=j+64:=⟨k-64,by omega⟩
   rw[qbnd ⟨j,by omega⟩]
   refine⟨mask j ⟨a1,a2⟩ (by omega) ?_,q0p ⟨b1,b2⟩⟩
   have:=qbrq hi.toNat lo.toNat (j+1) (by omega)
   unfold numP at h5
   rw[show j+64+1=j+1+64 by omega,this]at h5
   revert h5
   generalize hi.toNat%2^(j+1)=q
   omega
theorem qbte (v:Bool)(hi lo bits:Int)(u1:uok hi)(u2:uok lo):qr6 v hi lo bits=some (qqs v hi lo bits):=by
 rw[qbg6];unfold qn8 qqs
 rw[qbc1 u1 u2,qbyn,qbih]
 cases hh:qkh v hi lo bits with
 |false=>rfl
 |true=>
  obtain⟨h1,h2,h3,h4⟩:=q1p hh
  have hw:IntKind.i64.wrap (bits+1)=bits+1:=w64 (by omega) (by omega)
  rw[hw]
  have e1:(bits+1-bits).toNat=1:=by omega
  have e2:(qi v-(bits+1)).toNat=(qi v-bits-1).toNat:=by omega
  have e3:decide ((1:Int)>(qdh 1).2)=false:=by decide
  obtain⟨o1,o2⟩:=qbwq h2 h3
  obtain⟨f1,f2⟩:=qbwr hh u1 u2
  simp only[Bool.not_true,cond_f,cond_t,oB_s,e1,e3,e2]
  rw[show shlN (qi v-bits-1).toNat (0,1)=bitP v bits from rfl]
  rw[qbic u1 o1 f1,qbic u2 o2 f2,wu64 (qbaf _ _).1 (qbaf _ _).2,wu64 (qbaf _ _).1 (qbaf _ _).2]
  rfl
theorem qb3e {v:Bool}{hi lo bits:Int}(h:qkh v hi lo bits=true):qec v hi lo bits (bits+1) 1=some (qyu v hi lo bits,true):=by
 obtain⟨h1,h2,h3,h4⟩:=q1p h
 have hw0:IntKind.i64.wrap (bits+1)=bits+1:=w64 (by omega) (by omega)
 have hp:=qbih (v:=v) (hi:=hi) (lo:=lo) (bits:=bits)
 rw[hw0,h]at hp
 rw[q79];unfold qqa
 rw[qbwp,hp]
 have hl:=qfa v
 have e1:IntKind.i64.wrap (bits+1-bits)=1:=by rw[w64 (by omega) (by omega)];omega
 have e2:IntKind.i64.wrap (qi v-(bits+1))=qi v-bits-1:=by rw[w64 (by omega) (by omega)];omega
 have e3:IntKind.u64.wrap (qi v-bits-1)=qi v-bits-1:=wu64 (by omega) (by omega)
 simp only[Bool.not_true,cond_f,e1,q0t,qj3,q5f,oB_s,e2,e3]
 rw[show decide ((1:Int)<64)=true by decide,show decide (IntKind.u64.wrap 1<0)=false by decide,show((1:Int).fdiv (2^min (IntKind.u64.wrap 1).toNat IntKind.u64.bits) != 0)=false by decide]
 simp only[cond_t,cond_f]
 rw[q0u];unfold qj4
 obtain⟨k,hk⟩:∃k:Nat,qi v-bits-1=k:=⟨(qi v-bits-1).toNat,by omega⟩
 have hk3:k<128:=by omega
 unfold qyu bitP
 rw[hk,Int.toNat_natCast]
 rcases Nat.lt_or_ge k 64 with h6|h6
 · have a1:¬(k:Int)>=64:=by omega
   rw[qbrs ⟨k,h6⟩]
   simp only[a1,decide_false,cond_f]
   by_cases hk0:k=0
   · subst hk0;rfl
   · have a2:(k:Int)>0:=by omega
     have a3:¬(k:Int)<0:=by omega
     have fin:∀j:Fin 64,j.val≠0->¬IntKind.u64.wrap (64-(j.val:Int))<0/\(1:Int).fdiv (2^min (IntKind.u64.wrap (64-(j.val:Int))).toNat IntKind.u64.bits)=0/\IntKind.u64.wrap (1*2^min j.val IntKind.u64.bits)=((2^j.val:Nat):Int):=by decide+kernel
     obtain⟨f1,f2,f3⟩:=fin ⟨k,h6⟩ hk0
     simp only at f1 f2 f3
     simp only[a2,decide_true,cond_t,a3,decide_false,cond_f,f1,f2,f3]
     rfl
 · obtain⟨j,rfl⟩:∃j,k=j+64:=⟨k-64,by omega⟩
   have a1:((j+64:Nat):Int)>=64:=by omega
   rw[qbnd ⟨j,by omega⟩]
   have fin:∀j:Fin 64,¬IntKind.u64.wrap (((j.val+64:Nat):Int)-64)<0/\IntKind.u64.wrap (1*2^min (IntKind.u64.wrap (((j.val+64:Nat):Int)-64)).toNat IntKind.u64.bits)=((2^j.val:Nat):Int):=by decide+kernel
   obtain⟨f1,f2⟩:=fin ⟨j,by omega⟩
   simp only at f1 f2
   simp only[a1,decide_true,cond_t,f1,f2,decide_false,cond_f]
   rfl
theorem qbtf (v:Bool)(hi lo bits:Int)(u1:uok hi)(u2:uok lo):qj0 v hi lo bits=some (qqs v hi lo bits):=by
 rw[qbl1];unfold qrk qqs
 rw[qbc2 u1 u2,qbih]
 simp only[qbds,qmg,q5g,oB_s]
 cases hh:qkh v hi lo bits with
 |false=>rfl
 |true=>
  obtain⟨h1,h2,h3,h4⟩:=q1p hh
  have hw:IntKind.i64.wrap (bits+1)=bits+1:=w64 (by omega) (by omega)
  simp only[cond_t,Bool.not_true,cond_f,h1,hw,qb3e hh,oB_s]
  rfl
theorem qb3f {v:Bool}{hi lo bits:Int}(h:qkh v hi lo bits=true)(u1:uok hi)(u2:uok lo):
 numP (qbg .or .u64 hi (bitP v bits).1) (qbg .or .u64 lo (bitP v bits).2)=numP hi lo+2^kOf v (bits+1):=by
 obtain⟨h1,h2,h3,h4⟩:=q1p h
 obtain⟨o1,o2⟩:=qbwq h2 h3
 obtain⟨f1,f2⟩:=qbwr h u1 u2
 have hl:=qfa v
 have hk:kOf v (bits+1)=(qi v-bits-1).toNat:=by unfold kOf;congr 1;omega
 rw[<-qbic u1 o1 f1,<-qbic u2 o2 f2,hk,<-qb5v (n:=(qi v-bits-1).toNat) (by omega)]
 unfold bitP at o1 o2⊢
 unfold numP
 obtain⟨a1,a2⟩:=u1
 obtain⟨b1,b2⟩:=u2
 obtain⟨c1,c2⟩:=o1
 obtain⟨d1,d2⟩:=o2
 rw[Int.toNat_add a1 c1,Int.toNat_add b1 d1]
 omega
def mkA (b0:Bool)(b1 b2:Int):AV:=.agg [(.bool b0),(.int .u64 b1),(.int .u64 b2)]
def qof (q:AV->Bool):Option AV->List AV->Option AV
 |b,[]=>b
 |b,y::r=>qof q (bif q y&&(match b with|none=>true|some x=>decide (gI y.cells 3>gI x.cells 3))then some y else b) r
def outC:Option AV->AV×Bool
 |some y=>(y,true)
 |none=>(blk0,false)
def qwm (q:AV->Bool)(l:LA):AV×Bool:=outC (qof q none l)
theorem qb3g (l:LA)(hl:qq l)(v:Bool)(ahi alo:Int):q11 l v ahi alo=some (qwm (fun y=>qf7 (gB y.cells 0) (gI y.cells 1) (gI y.cells 2) (gI y.cells 3) v ahi alo) l):=by
 rw[qbly];unfold qrh
 rw[qup];unfold qdx
 rw[qqw]
 have key:∀kx:Bool->Bool->Int->Int->Int->Int->List UInt8->List UInt8->Int->Bool->Int->Int->Bool->Int->Int->Int->Int->List UInt8->List UInt8->Int->Bool->Int->Int->Int->Int->List UInt8->List UInt8->Int->Option (AV×Bool),(∀(e:Bool) (a0:Bool) (a1 a2 a3 a4:Int) (a5 a6:LU) (a7:Int) (b0:Bool) (b1 b2:Int) (c0:Bool) (c1 c2 c3 c4:Int) (c5 c6:LU) (c7:Int) (d0:Bool) (d1 d2 d3 d4:Int) (d5 d6:LU) (d7:Int),kx e a0 a1 a2 a3 a4 a5 a6 a7 b0 b1 b2 c0 c1 c2 c3 c4 c5 c6 c7 d0 d1 d2 d3 d4 d5 d6 d7=some (mkB d0 d1 d2 d3 d4 d5 d6 d7,e))->
  qbz l (l.length:Int) kx FU false 0 false 0 0 0 0 [] [] 0 v ahi alo false 0 0 0 0 [] [] 0 false 0 0 0 0 [] [] 0=some (qwm (fun y=>qf7 (gB y.cells 0) (gI y.cells 1) (gI y.cells 2) (gI y.cells 3) v ahi alo) l):=by
  intro kx hkx
  have key:=qcj (σ:=Bool×AV×AV×AV×AV) l hl.1 (fun n i s=>qbz l (l.length:Int) kx n s.1 i (gB s.2.1.cells 0) (gI s.2.1.cells 1) (gI s.2.1.cells 2) (gI s.2.1.cells 3) (gI s.2.1.cells 4) (gS s.2.1.cells 5) (gS s.2.1.cells 6) (gI s.2.1.cells 7) (gB s.2.2.1.cells 0) (gI s.2.2.1.cells 1) (gI s.2.2.1.cells 2) (gB s.2.2.2.1.cells 0) (gI s.2.2.2.1.cells 1) (gI s.2.2.2.1.cells 2) (gI s.2.2.2.1.cells 3) (gI s.2.2.2.1.cells 4) (gS s.2.2.2.1.cells 5) (gS s.2.2.2.1.cells 6) (gI s.2.2.2.1.cells 7) (gB s.2.2.2.2.cells 0) (gI s.2.2.2.2.cells 1) (gI s.2.2.2.2.cells 2) (gI s.2.2.2.2.cells 3) (gI s.2.2.2.2.cells 4) (gS s.2.2.2.2.cells 5) (gS s.2.2.2.2.cells 6) (gI s.2.2.2.2.cells 7)) (fun i s nx=>qb7 s.1 l (l.length:Int) i (gB s.2.1.cells 0) (gI s.2.1.cells 1) (gI s.2.1.cells 2) (gI s.2.1.cells 3) (gI s.2.1.cells 4) (gS s.2.1.cells 5) (gS s.2.1.cells 6) (gI s.2.1.cells 7) (gB s.2.2.1.cells 0) (gI s.2.2.1.cells 1) (gI s.2.2.1.cells 2) (gB s.2.2.2.1.cells 0) (gI s.2.2.2.1.cells 1) (gI s.2.2.2.1.cells 2) (gI s.2.2.2.1.cells 3) (gI s.2.2.2.1.cells 4) (gS s.2.2.2.1.cells 5) (gS s.2.2.2.1.cells 6) (gI s.2.2.2.1.cells 7) (gB s.2.2.2.2.cells 0) (gI s.2.2.2.2.cells 1) (gI s.2.2.2.2.cells 2) (gI s.2.2.2.2.cells 3) (gI s.2.2.2.2.cells 4) (gS s.2.2.2.2.cells 5) (gS s.2.2.2.2.cells 6) (gI s.2.2.2.2.cells 7) (fun e i a0 a1 a2 a3 a4 a5 a6 a7 b0 b1 b2 c0 c1 c2 c3 c4 c5 c6 c7 d0 d1 d2 d3 d4 d5 d6 d7=>nx i (e,mkB a0 a1 a2 a3 a4 a5 a6 a7,mkA b0 b1 b2,mkB c0 c1 c2 c3 c4 c5 c6 c7,mkB d0 d1 d2 d3 d4 d5 d6 d7)) kx) (fun _ _ _=>rfl)
   (fun i s=>s.2.1=blk0/\s.2.2.1=mkA v ahi alo/\s.2.2.2.1=blk0/\(s.1=false->s.2.2.2.2=blk0)/\(s.1=true->fitC qb s.2.2.2.2.cells=true)) (fun r s=>some (outC (qof (fun y=>qf7 (gB y.cells 0) (gI y.cells 1) (gI y.cells 2) (gI y.cells 3) v ahi alo) (bif s.1 then some s.2.2.2.2 else none) r))) ?_ ?_ (false,blk0,mkA v ahi alo,blk0,blk0) FU ⟨rfl,rfl,rfl,fun _=>rfl,fun h=>by cases h⟩ (qcq (by have:=hl.1;omega))
  · exact key
  · rintro⟨e,s1,s2,s3,s4⟩ nx ⟨h1,h2,h3,h4,h5⟩
    simp only at h1 h2 h3 h4 h5
    subst h1 h2 h3
    unfold qb7
    simp only[Int.lt_irrefl,decide_false,cond_f,hkx]
    cases e with
    |false=>rw[h4 rfl];rfl
    |true=>rw[qnk (h5 rfl)];rfl
  · rintro i y r ⟨e,s1,s2,s3,s4⟩ nx g1 g2 g3 g4 ⟨h1,h2,h3,h4,h5⟩ hn
    simp only at h1 h2 h3 h4 h5
    subst h1 h2 h3
    have hy:=hl.2 y (List.mem_of_getElem? g2)
    have h6:(i:Int)<(l.length:Int):=by omega
    unfold qb7
    simp only[h6,decide_true,cond_t,ixB_nat,g2,oB_s,hy.1,g4,qqv,qc5,qbfu,qnp,qblg]
    rw[qnk hy.1]
    have n1:=hn (true,blk0,mkA v ahi alo,blk0,y) ⟨rfl,rfl,rfl,fun h=>(by cases h),fun _=>hy.1⟩
    have n2:=hn (e,blk0,mkA v ahi alo,blk0,s4) ⟨rfl,rfl,rfl,h4,h5⟩
    have hs:mkB (gB s4.cells 0) (gI s4.cells 1) (gI s4.cells 2) (gI s4.cells 3) (gI s4.cells 4) (gS s4.cells 5) (gS s4.cells 6) (gI s4.cells 7)=s4:=by
     cases e with
     |false=>rw[h4 rfl];rfl
     |true=>exact qnk (h5 rfl)
    rw[hs]
    unfold qof
    show(bif qf7 (gB y.cells 0) (gI y.cells 1) (gI y.cells 2) (gI y.cells 3) v ahi alo then _ else _)=_
    cases hq:qf7 (gB y.cells 0) (gI y.cells 1) (gI y.cells 2) (gI y.cells 3) v ahi alo with
    |false=>exact n2
    |true=>
     cases e with
     |false=>exact n1
     |true=>
      simp only[cond_t,Bool.not_true,cond_f,Bool.true_and]
      cases hc:decide (gI y.cells 3>gI s4.cells 3)with
      |true=>exact n1
      |false=>exact n2
 exact key _ (fun _ _ _ _ _ _ _ _ _ _ _ _ _ _ _ _ _ _ _ _ _ _ _ _ _ _ _ _=>rfl)
theorem qb1p (l:LA)(hl:qq l)(v:Bool)(ahi alo:Int)(u1:uok ahi)(u2:uok alo):qx4 l v ahi alo=some (qwm (fun y=>qf7 (gB y.cells 0) (gI y.cells 1) (gI y.cells 2) (gI y.cells 3) v ahi alo) l):=by
 rw[qbgv];unfold qn5
 rw[q86]
 have key:∀kx:Int->Option (AV×Bool),(∀j:Int,kx j=(match(if j<0 then none else l[j.toNat]?)with|some y=>some (y,true)|none=>if j<0 then some (blk0,false)else none))->qez l v ahi alo false 0 0 0 0 [] [] 0 kx FU (-1) 0=some (qwm (fun y=>qf7 (gB y.cells 0) (gI y.cells 1) (gI y.cells 2) (gI y.cells 3) v ahi alo) l):=by
  intro kx hkx
  have key:=qcj (σ:=Int) l hl.1 (fun n i s=>qez l v ahi alo false 0 0 0 0 [] [] 0 kx n s i) (fun i s nx=>qgv l s i v ahi alo false 0 0 0 0 [] [] 0 (fun s i=>nx i s) kx) (fun _ _ _=>rfl)
   (fun i s=>s= -1\/∃(j:Nat) (x:AV),s=j/\l[j]?=some x) (fun r s=>some (outC (qof (fun y=>qf7 (gB y.cells 0) (gI y.cells 1) (gI y.cells 2) (gI y.cells 3) v ahi alo) (bif decide (s<0)then none else l[s.toNat]?) r))) ?_ ?_ (-1) FU (.inl rfl) (qcq (by have:=hl.1;omega))
  · exact key
  · rintro s nx hJ
    unfold qgv
    simp only[Int.lt_irrefl,decide_false,cond_f,hkx]
    rcases hJ with rfl|⟨j,x,rfl,hx⟩
    · rfl
    · have h0:¬(j:Int)<0:=by omega
      simp only[h0,if_false,decide_false,cond_f,Int.toNat_natCast,hx]
      rfl
  · rintro i y r s nx g1 g2 g3 g4 hJ hn
    have hy:=hl.2 y (List.mem_of_getElem? g2)
    have h6:(i:Int)<(l.length:Int):=by omega
    have hi0:¬(i:Int)<0:=by omega
    have n1:=hn (i:Int) (.inr ⟨i,y,rfl,g2⟩)
    have n2:=hn s hJ
    simp only[hi0,decide_false,cond_f,Int.toNat_natCast,g2]at n1
    unfold qgv
    simp only[h6,decide_true,cond_t,ixB_nat,g2,oB_s,hy.1,g4,q7g,qjq,qblh _ _ _ _ _ _ _ u1 u2]
    rcases hJ with rfl|⟨j,x,rfl,hx⟩
    · have e1:decide ((-1:Int)<0)=true:=by decide
      simp only[e1,cond_t]at n2⊢
      unfold qof
      simp only[Bool.and_true]
      cases hq:qf7 (gB y.cells 0) (gI y.cells 1) (gI y.cells 2) (gI y.cells 3) v ahi alo with
      |false=>exact n2
      |true=>exact n1
    · have h0:¬(j:Int)<0:=by omega
      have hxf:=hl.2 x (List.mem_of_getElem? hx)
      simp only[h0,decide_false,cond_f,Int.toNat_natCast,hx,ixB_nat,oB_s,hxf.1,cond_t]at n2⊢
      unfold qof
      cases hq:qf7 (gB y.cells 0) (gI y.cells 1) (gI y.cells 2) (gI y.cells 3) v ahi alo with
      |false=>exact n2
      |true=>
       simp only[cond_t,Bool.true_and]
       cases decide (gI y.cells 3>gI x.cells 3)with
       |true=>exact n1
       |false=>exact n2
 refine key _ fun j=> ?_
 by_cases hj:j<0
 · simp only[hj,decide_true,cond_t,if_true];rfl
 · simp only[hj,decide_false,cond_f,if_false]
   have:ixB l j=l[j.toNat]?:=by unfold ixB;rw[if_pos (by omega)]
   rw[this]
   cases hx:l[j.toNat]? with
   |none=>rfl
   |some y=>
    have hy:=hl.2 y (List.mem_of_getElem? hx)
    simp only[oB_s,hy.1,cond_t]
    rw[show(AV.agg [(.bool (gB y.cells 0)),(.int .u64 (gI y.cells 1)),(.int .u64 (gI y.cells 2)),(.int .i64 (gI y.cells 3)),(.int .i64 (gI y.cells 4)),(.str (gS y.cells 5)),(.str (gS y.cells 6)),(.int .i64 (gI y.cells 7))])=y from qnk hy.1]
def qbi1 (l:LA)(v:Bool)(hi lo bits:Int)(y:AV):Bool:=qd9 (gB y.cells 0) (gI y.cells 1) (gI y.cells 2) (gI y.cells 3) v hi lo bits&& !(l.any fun o=>qd9 (gB o.cells 0) (gI o.cells 1) (gI o.cells 2) (gI o.cells 3) v hi lo bits&&q0q y o)
def qyv (l:LA)(v:Bool)(hi lo bits:Int):List AV:=l.filter (qbi1 l v hi lo bits)
theorem qbxw (l:LA)(hl:qq l)(hn:l.length<=100000)(v:Bool)(hi lo bits:Int):qus l v hi lo bits=some (qyv l v hi lo bits):=by
 rw[qbbm];unfold qlu
 simp only[qqn,List.length_nil,Bool.and_self,cond_t]
 rw[q5z]
 have key:=qcj (σ:=List AV) l hl.1 (fun n i s=>qfh l v hi lo bits (fun a0q1=>bif hd a0q1 a0q1.length then some a0q1 else none) n i s) (fun i s nx=>qfg l i v hi lo bits s nx (fun a0q1=>bif hd a0q1 a0q1.length then some a0q1 else none)) (fun _ _ _=>rfl)
  (fun i s=>s.length<=i) (fun r s=>some (s++r.filter (qbi1 l v hi lo bits))) ?_ ?_ [] FU (by simp) (qcq (by have:=hl.1;omega))
 · exact key
 · intro a nx h2;simp[qfg]
 · intro i y r a nx g1 g2 g3 g4 h2 h5
   have hy:=hl.2 y (List.mem_of_getElem? g2)
   have h6:(i:Int)<(l.length:Int):=by omega
   have n1:=h5 (a++[y]) (by simp;omega)
   have n2:=h5 a (by omega)
   have hyy:=qnk hy.1
   unfold mkB at hyy
   have inner:∀kx:Bool->Option (List AV),qol l (i:Int) v hi lo bits a kx FU true 0=kx (!(l.any fun o=>qd9 (gB o.cells 0) (gI o.cells 1) (gI o.cells 2) (gI o.cells 3) v hi lo bits&&q0q y o)):=by
    intro kx
    rw[q4n]
    have key:=qcj (σ:=Bool) l hl.1 (fun n k s=>qe4 l (i:Int) v hi lo bits a kx n s k) (fun k s nx=>qe3 l (i:Int) s k v hi lo bits a (fun s k=>nx k s) kx) (fun _ _ _=>rfl)
     (fun _ _=>True) (fun r s=>kx (s&& !(r.any fun o=>qd9 (gB o.cells 0) (gI o.cells 1) (gI o.cells 2) (gI o.cells 3) v hi lo bits&&q0q y o))) ?_ ?_ true FU trivial (qcq (by have:=hl.1;omega))
    · exact key
    · intro s nx _;simp[qe3]
    · intro k z r s nx f1 f2 f3 f4 _ f5
      have hz:=hl.2 z (List.mem_of_getElem? f2)
      have f6:(k:Int)<(l.length:Int):=by omega
      unfold qe3
      simp only[f6,decide_true,cond_t,ixB_nat,f2,g2,oB_s,hz.1,hy.1,f4,qbp3 _ _ _ _ _ _ _ _ hz.2.1 hz.2.2.1,qbp3 _ _ _ _ _ _ _ _ hy.2.1 hy.2.2.1,f5 _ trivial]
      rw[show qd9 (gB y.cells 0) (gI y.cells 1) (gI y.cells 2) (gI y.cells 3) (gB z.cells 0) (gI z.cells 1) (gI z.cells 2) (gI z.cells 3)=q0q y z from rfl,List.any_cons]
      cases qd9 (gB z.cells 0) (gI z.cells 1) (gI z.cells 2) (gI z.cells 3) v hi lo bits<;>cases q0q y z<;>simp
   unfold qfg
   simp only[h6,decide_true,cond_t,ixB_nat,g2,oB_s,hy.1,g4,hd_self,Bool.and_self,qbp3 _ _ _ _ _ _ _ _ hy.2.1 hy.2.2.1,inner,hyy]
   rw[q5h y (a:=a) (by omega),List.filter_cons,n2,n1]
   unfold qbi1
   cases qd9 (gB y.cells 0) (gI y.cells 1) (gI y.cells 2) (gI y.cells 3) v hi lo bits<;>cases(l.any fun o=>qd9 (gB o.cells 0) (gI o.cells 1) (gI o.cells 2) (gI o.cells 3) v hi lo bits&&q0q y o)<;>simp
theorem Np.sub_range {p q:Np}(hp:p.ok)(hq:q.ok):p.sub q↔p.v=q.v/\p.k<=q.k/\q.n<=p.n/\p.n<q.n+2^q.k:=by
 unfold Np.sub
 have h0:=Nat.two_pow_pos q.k
 have h1:=Nat.mod_lt p.n h0
 have h2:=Nat.mod_le p.n (2^q.k)
 constructor
 · rintro⟨a,b,c⟩;exact⟨a,b,by omega,by omega⟩
 · rintro⟨a,b,c,d⟩
   refine⟨a,b,?_⟩
   obtain⟨u,hu⟩:=Nat.dvd_of_mod_eq_zero hq
   have:p.n / 2^q.k=u:=by
    rw[Nat.div_eq_iff h0]
    rw[hu]at c d
    constructor
    · rw[Nat.mul_comm];omega
    · rw[Nat.mul_comm];omega
   have h3:=Nat.div_add_mod p.n (2^q.k)
   rw[this]at h3
   omega
def Np.low (p:Np):Np:=⟨p.v,p.n,p.k-1⟩
def Np.high (p:Np):Np:=⟨p.v,p.n+2^(p.k-1),p.k-1⟩
theorem qbne {k:Nat}(h:0<k):2^k=2^(k-1)+2^(k-1):=by
 obtain⟨j,rfl⟩:∃j,k=j+1:=⟨k-1,by omega⟩
 rw[Nat.pow_succ];simp;omega
theorem Np.low_ok {p:Np}(hp:p.ok)(hk:0<p.k):p.low.ok:=by
 unfold Np.ok Np.low at*
 simp only
 have:2^(p.k-1) ∣ 2^p.k:=qbi0 (by omega)
 exact Nat.mod_eq_zero_of_dvd (Nat.dvd_trans this (Nat.dvd_of_mod_eq_zero hp))
theorem Np.high_ok {p:Np}(hp:p.ok)(hk:0<p.k):p.high.ok:=by
 have h1:=Np.low_ok hp hk
 unfold Np.ok Np.high Np.low at*
 simp only at*
 rw[Nat.add_mod_right];exact h1
theorem Np.low_sub {p:Np}(hp:p.ok)(hk:0<p.k):p.low.sub p:=by
 refine(Np.sub_range (Np.low_ok hp hk) hp).2 ⟨rfl,Nat.sub_le _ _,Nat.le_refl _,?_⟩
 have:=Nat.two_pow_pos p.k
 show p.n<_
 omega
theorem Np.high_sub {p:Np}(hp:p.ok)(hk:0<p.k):p.high.sub p:=by
 refine(Np.sub_range (Np.high_ok hp hk) hp).2 ⟨rfl,Nat.sub_le _ _,Nat.le_add_right _ _,?_⟩
 have:=qbne hk
 have h0:=Nat.two_pow_pos (p.k-1)
 show p.n+2^(p.k-1)<_
 omega
theorem Np.not_both {p q:Np}(hp:p.ok)(hq:q.ok)(hp0:0<p.k)(h1:q.sub p.low)(h2:q.sub p.high):False:=by
 obtain⟨_,_,c,d⟩:=(Np.sub_range hq (Np.low_ok hp hp0)).1 h1
 obtain⟨_,_,c',d'⟩:=(Np.sub_range hq (Np.high_ok hp hp0)).1 h2
 simp only[Np.low,Np.high]at*
 omega
theorem Np.both {p q:Np}(hp:p.ok)(hq:q.ok)(hp0:0<p.k)(h1:p.low.sub q)(h2:p.high.sub q):p.sub q:=by
 have e:=qbne hp0
 have hle:p.k-1<=q.k:=h1.2.1
 rcases Nat.lt_or_ge q.k p.k with hk|hk
 · exfalso
   have hqk:q.k=p.k-1:=by have:=h1.2.1;simp only[Np.low]at this;omega
   obtain⟨_,_,c,d⟩:=(Np.sub_range (Np.low_ok hp hp0) hq).1 h1
   obtain⟨_,_,c',d'⟩:=(Np.sub_range (Np.high_ok hp hp0) hq).1 h2
   simp only[Np.low,Np.high]at*
   rw[hqk]at d d'
   omega
 · exact Np.nest (Np.low_sub hp hp0) h1 hk
structure Pq where
 v:Bool
 hi:Int
 lo:Int
 bits:Int
def Pq.good (p:Pq):Prop:=qcv p.v p.hi p.lo p.bits=true/\uok p.hi/\uok p.lo
def Pq.np (p:Pq):Np:=⟨p.v,numP p.hi p.lo,kOf p.v p.bits⟩
def Pq.av (p:Pq):AV:=mkP p.v p.hi p.lo p.bits
def pqY (y:AV):Pq:=⟨gB y.cells 0,gI y.cells 1,gI y.cells 2,gI y.cells 3⟩
def winP (p q:Pq):Bool:=qjx p.v p.hi p.lo p.bits q.v q.hi q.lo q.bits
def ovP (p q:Pq):Bool:=winP p q||winP q p
theorem Pq.good.np_ok {p:Pq}(h:p.good):p.np.ok:=((qyt h.2.1 h.2.2).1 h.1).2.2.2
theorem Pq.good.range {p:Pq}(h:p.good):0<=p.bits/\p.bits<=qi p.v/\(p.np.k:Int)=qi p.v-p.bits/\p.np.k<=128:=by
 obtain⟨h1,h2,_⟩:=qd7 h.1
 have:=qfa p.v
 refine⟨h1,h2,?_,?_⟩
 · show((kOf p.v p.bits:Nat):Int)=_
   unfold kOf;omega
 · show kOf p.v p.bits<=128
   unfold kOf;omega
theorem qf5 {p q:Pq}(hp:p.good)(hq:q.good):winP p q=true↔p.np.sub q.np:=by
 unfold winP qjx Np.sub
 rw[hp.1]
 simp only[Bool.true_and,Bool.and_eq_true,decide_eq_true_eq]
 rw[qbs8 hq.2.1 hq.2.2 hp.2.1 hp.2.2]
 obtain⟨a1,a2,a3,_⟩:=hp.range
 obtain⟨b1,b2,b3,_⟩:=hq.range
 have ha:=(qd7 hp.1).2.2
 constructor
 · rintro⟨h1,h2,h3,h4,h5⟩
   refine⟨h4.symm,?_,h5.symm⟩
   rw[h4]at b3;omega
 · rintro⟨h1,h2,h3⟩
   refine⟨?_,hq.1,ha,h1.symm,h3.symm⟩
   have h1':p.v=q.v:=h1
   rw[h1']at a3;omega
theorem qb62 {p q:Pq}(hp:p.good)(hq:q.good)(h:p.np=q.np):p=q:=by
 obtain⟨a1,a2,a3,_⟩:=hp.range
 obtain⟨b1,b2,b3,_⟩:=hq.range
 have h1:p.v=q.v:=congrArg Np.v h
 have h2:numP p.hi p.lo=numP q.hi q.lo:=congrArg Np.n h
 obtain⟨h3,h4⟩:=qbwj hp.2.1 hp.2.2 hq.2.1 hq.2.2 h2
 have h5:p.bits=q.bits:=by rw[h,h1]at a3;omega
 cases p;cases q;simp only at*
 subst h1 h3 h4 h5;rfl
def Pq.low (p:Pq):Pq:=⟨p.v,p.hi,p.lo,p.bits+1⟩
def Pq.high (p:Pq):Pq:=⟨p.v,qbg .or .u64 p.hi (bitP p.v p.bits).1,qbg .or .u64 p.lo (bitP p.v p.bits).2,p.bits+1⟩
def Pq.half (p:Pq):Bool:=qkh p.v p.hi p.lo p.bits
theorem Pq.half_iff {p:Pq}(hp:p.good):p.half=true↔0<p.np.k:=by
 obtain⟨a1,a2,a3,_⟩:=hp.range
 unfold Pq.half qkh
 rw[hp.1]
 simp only[Bool.true_and,decide_eq_true_eq]
 omega
theorem Pq.low_np {p:Pq}(hp:p.good)(h:p.half=true):p.low.np=p.np.low:=by
 obtain⟨a1,a2,a3,_⟩:=hp.range
 have hk:=(Pq.half_iff hp).1 h
 have:kOf p.v (p.bits+1)=kOf p.v p.bits-1:=by unfold kOf;omega
 unfold Pq.np Pq.low Np.low
 simp only[this]
theorem Pq.high_np {p:Pq}(hp:p.good)(h:p.half=true):p.high.np=p.np.high:=by
 obtain⟨a1,a2,a3,_⟩:=hp.range
 have hk:=(Pq.half_iff hp).1 h
 have:kOf p.v (p.bits+1)=kOf p.v p.bits-1:=by unfold kOf;omega
 unfold Pq.np Pq.high Np.high
 simp only
 rw[qb3f h hp.2.1 hp.2.2,this]
theorem qbp5 {v:Bool}{hi lo:Int}(u1:uok hi)(u2:uok lo):qew v hi lo=true↔(v=true\/numP hi lo<2^32):=by
 unfold qew numP
 obtain⟨a1,a2⟩:=u1
 obtain⟨b1,b2⟩:=u2
 cases v with
 |true=>simp
 |false=>
  have e:(2:Nat)^32=4294967296:=by decide
  rw[e]
  simp only[Bool.false_or,Bool.and_eq_true,beq_iff_eq,decide_eq_true_eq,Bool.false_eq_true,false_or]
  omega
theorem Pq.low_good {p:Pq}(hp:p.good)(h:p.half=true):p.low.good:=by
 have hk:=(Pq.half_iff hp).1 h
 obtain⟨a1,a2,a3,_⟩:=hp.range
 refine⟨(qyt hp.2.1 hp.2.2).2 ⟨(qd7 hp.1).2.2,by show 0<=p.bits+1;omega,by show p.bits+1<=qi p.v;omega,?_⟩,hp.2⟩
 have:=Np.low_ok hp.np_ok hk
 rw[<-Pq.low_np hp h]at this
 exact this
theorem Pq.high_good {p:Pq}(hp:p.good)(h:p.half=true):p.high.good:=by
 have hk:=(Pq.half_iff hp).1 h
 obtain⟨a1,a2,a3,a4⟩:=hp.range
 have u1:uok p.high.hi:=qbaf _ _
 have u2:uok p.high.lo:=qbaf _ _
 have hn:=Pq.high_np hp h
 refine⟨(qyt u1 u2).2 ⟨(qbp5 u1 u2).2 ?_,by show 0<=p.bits+1;omega,by show p.bits+1<=qi p.v;omega,?_⟩,u1,u2⟩
 · rcases(qbp5 hp.2.1 hp.2.2).1 (qd7 hp.1).2.2 with h1|h1
   · exact .inl h1
   · cases hv:p.v with
     |true=>exact .inl hv
     |false=>
      right
      have e:numP p.high.hi p.high.lo=p.np.n+2^(p.np.k-1):=congrArg Np.n hn
      rw[e]
      have hk32:p.np.k<=32:=by rw[hv]at a3;simp[qi]at a3;omega
      have hpo:=hp.np_ok
      have hlt:p.np.n<2^32:=h1
      obtain⟨u,hu⟩:=Nat.dvd_of_mod_eq_zero hpo
      obtain⟨c,hc⟩:=qbi0 hk32
      have hlt2:u<c:=by
       rw[hu,hc]at hlt
       exact Nat.lt_of_mul_lt_mul_left hlt
      have:2^p.np.k*(u+1)<=2^p.np.k*c:=Nat.mul_le_mul_left _ hlt2
      rw[Nat.mul_add,<-hu,<-hc,qbne hk]at this
      have h0:=Nat.two_pow_pos (p.np.k-1)
      omega
 · have:=Np.high_ok hp.np_ok hk
   rw[<-hn]at this
   exact this
def qdi (l:LA):Nat->Pq->List Pq
 |0,_=>[]
 |n+1,p=>bif l.any (fun b=>winP p (pqY b))then[]else bif !(l.any fun b=>ovP (pqY b) p)then[p]else bif p.half then qdi l n p.low++qdi l n p.high else[]
def qea (l:LA):Prop:=∀y,y∈l->(pqY y).good
theorem qbii {p q b:Pq}(hp:p.good)(hq:q.good)(hb:b.good)(h:q.np.sub p.np)(ho:ovP b q=true):ovP b p=true:=by
 unfold ovP at*
 rw[Bool.or_eq_true,qf5 hb hq,qf5 hq hb]at ho
 rw[Bool.or_eq_true,qf5 hb hp,qf5 hp hb]
 rcases ho with ho|ho
 · exact .inl (Np.sub_trans ho h)
 · rcases Nat.lt_or_ge b.np.k p.np.k with hk|hk
   · exact .inl (Np.nest ho h (by omega))
   · exact .inr (Np.nest h ho hk)
theorem q0r {l l':LA}(hl:qea l)(hl':qea l'){c:Pq}(hc:c.good)
 (hW:∀q:Pq,q.good->q.np.sub c.np->(l.any fun b=>winP q (pqY b))=l'.any fun b=>winP q (pqY b)) (hO:∀q:Pq,q.good->q.np.sub c.np->(l.any fun b=>ovP (pqY b) q)=l'.any fun b=>ovP (pqY b) q):
 ∀(n:Nat) (p:Pq),p.good->p.np.sub c.np->qdi l n p=qdi l' n p
 |0,p,_,_=>rfl
 |n+1,p,hp,hs=>by
  unfold qdi
  rw[hW p hp hs,hO p hp hs]
  cases hh:p.half with
  |false=>rfl
  |true=>
   have hk:=(Pq.half_iff hp).1 hh
   have h1:p.low.np.sub p.np:=by rw[Pq.low_np hp hh];exact Np.low_sub hp.np_ok hk
   have h2:p.high.np.sub p.np:=by rw[Pq.high_np hp hh];exact Np.high_sub hp.np_ok hk
   rw[q0r hl hl' hc hW hO n p.low (Pq.low_good hp hh) (Np.sub_trans h1 hs),q0r hl hl' hc hW hO n p.high (Pq.high_good hp hh) (Np.sub_trans h2 hs)]
theorem qbij {l:LA}(hl:qea l){c:Pq}(hc:c.good)(n:Nat)(p:Pq)(hp:p.good)(hs:p.np.sub c.np):qdi (l.filter fun b=>ovP (pqY b) c) n p=qdi l n p:=by
 refine q0r (fun y hy=>hl y ((List.mem_filter.1 hy).1)) hl hc (fun q hq hqc=> ?_) (fun q hq hqc=> ?_) n p hp hs
 · rw[Bool.eq_iff_iff,List.any_eq_true,List.any_eq_true]
   constructor
   · rintro⟨b,hb,h⟩;exact⟨b,(List.mem_filter.1 hb).1,h⟩
   · rintro⟨b,hb,h⟩
     refine⟨b,List.mem_filter.2 ⟨hb,qbii hc hq (hl b hb) hqc ?_⟩,h⟩
     unfold ovP;rw[h,Bool.or_true]
 · rw[Bool.eq_iff_iff,List.any_eq_true,List.any_eq_true]
   constructor
   · rintro⟨b,hb,h⟩;exact⟨b,(List.mem_filter.1 hb).1,h⟩
   · rintro⟨b,hb,h⟩
     exact⟨b,List.mem_filter.2 ⟨hb,qbii hc hq (hl b hb) hqc h⟩,h⟩
theorem qbtg {α:Type}{A B C:α->Bool}:∀(l:List α),(∀b,b∈l->A b=true->C b=true)->(∀b,b∈l->B b=true->C b=true)->(∀b,b∈l->A b=true->B b=true->False)->(l.filter A).length+(l.filter B).length<=(l.filter C).length
 |[],_,_,_=>by simp
 |b::r,h1,h2,h3=>by
  have ih:=qbtg r (fun x hx=>h1 x (List.mem_cons_of_mem _ hx)) (fun x hx=>h2 x (List.mem_cons_of_mem _ hx)) (fun x hx=>h3 x (List.mem_cons_of_mem _ hx))
  have k1:=h1 b List.mem_cons_self
  have k2:=h2 b List.mem_cons_self
  have k3:=h3 b List.mem_cons_self
  rw[List.filter_cons,List.filter_cons,List.filter_cons]
  cases hA:A b<;>cases hB:B b
  · cases C b<;>simp<;>omega
  · rw[k2 hB];simp;omega
  · rw[k1 hA];simp;omega
  · exact(k3 hA hB).elim
theorem qbik {l:LA}(hl:qea l):∀(n:Nat) (p:Pq),p.good->(qdi l n p).length<=(l.filter fun b=>ovP (pqY b) p).length*n+1
 |0,p,_=>by simp[qdi]
 |n+1,p,hp=>by
  unfold qdi
  cases hW:l.any fun b=>winP p (pqY b)with
  |true=>simp
  |false=>
   cases hO:l.any fun b=>ovP (pqY b) p with
   |false=>simp
   |true=>
    cases hh:p.half with
    |false=>simp
    |true=>
     have hk:=(Pq.half_iff hp).1 hh
     have hlg:=Pq.low_good hp hh
     have hhg:=Pq.high_good hp hh
     have h1:p.low.np.sub p.np:=by rw[Pq.low_np hp hh];exact Np.low_sub hp.np_ok hk
     have h2:p.high.np.sub p.np:=by rw[Pq.high_np hp hh];exact Np.high_sub hp.np_ok hk
     have i1:=qbik hl n p.low hlg
     have i2:=qbik hl n p.high hhg
     have hc:=qbtg (A:=fun b=>ovP (pqY b) p.low) (B:=fun b=>ovP (pqY b) p.high) (C:=fun b=>ovP (pqY b) p) l (fun b hb h=>qbii hp hlg (hl b hb) h1 h) (fun b hb h=>qbii hp hhg (hl b hb) h2 h) (fun b hb ha hb'=>by
      have hbg:=hl b hb
      have hnw:winP p (pqY b)=false:=by
       rw[List.any_eq_false]at hW
       simpa using hW b hb
      have hns:¬p.np.sub (pqY b).np:=fun h=>by rw[(qf5 hp hbg).2 h]at hnw;cases hnw
      unfold ovP at ha hb'
      rw[Bool.or_eq_true,qf5 hbg hlg,qf5 hlg hbg,Pq.low_np hp hh]at ha
      rw[Bool.or_eq_true,qf5 hbg hhg,qf5 hhg hbg,Pq.high_np hp hh]at hb'
      have hlo:=Np.low_ok hp.np_ok hk
      have hho:=Np.high_ok hp.np_ok hk
      rcases ha with ha|ha<;>rcases hb' with hb'|hb'
      · exact Np.not_both hp.np_ok hbg.np_ok hk ha hb'
      · exact Np.not_both hp.np_ok hho hk (Np.sub_trans hb' ha) (Np.sub_refl hho)
      · exact Np.not_both hp.np_ok hlo hk (Np.sub_refl hlo) (Np.sub_trans ha hb')
      · exact hns (Np.both hp.np_ok hbg.np_ok hk ha hb'))
     have hpos:0<(l.filter fun b=>ovP (pqY b) p).length:=by
      obtain⟨b,hb,h⟩:=List.any_eq_true.1 hO
      exact List.length_pos_of_mem (List.mem_filter.2 ⟨hb,h⟩)
     simp only[Bool.not_true,cond_f,cond_t,List.length_append]
     generalize (l.filter fun b=>ovP (pqY b) p).length=c at*
     generalize (l.filter fun b=>ovP (pqY b) p.low).length=c1 at*
     generalize (l.filter fun b=>ovP (pqY b) p.high).length=c2 at*
     have e1:(c1+c2)*n<=c*n:=Nat.mul_le_mul_right _ hc
     rw[Nat.add_mul]at e1
     rw[Nat.mul_add]
     omega
theorem qbnf {l:LA}(hl:qea l)(hn:l.length<=1000){n:Nat}(hn2:n<=200){p:Pq}(hp:p.good):(qdi l n p).length<=200001:=by
 have h1:=qbik hl n p hp
 have h2:(l.filter fun b=>ovP (pqY b) p).length<=1000:=Nat.le_trans (List.length_filter_le _ _) hn
 have h3:(l.filter fun b=>ovP (pqY b) p).length*n<=1000*200:=Nat.mul_le_mul h2 hn2
 omega
theorem qbzv (v6:Bool)(hi lo bits:Int)(w6:Bool)(whi wlo wbits:Int):qzi v6 hi lo bits w6 whi wlo wbits=some (ovP ⟨v6,hi,lo,bits⟩ ⟨w6,whi,wlo,wbits⟩):=by
 rw[qbjs];unfold qo5 ovP winP
 simp only[qbid,oB_s]
 cases qjx v6 hi lo bits w6 whi wlo wbits<;>simp
theorem qbzw (v6:Bool)(hi lo bits:Int)(w6:Bool)(whi wlo wbits:Int)(u1:uok hi)(u2:uok lo)(u3:uok whi)(u4:uok wlo):qwh v6 hi lo bits w6 whi wlo wbits=some (ovP ⟨v6,hi,lo,bits⟩ ⟨w6,whi,wlo,wbits⟩):=by
 rw[qbe0];unfold qm3 ovP winP
 simp only[q1m _ _ _ _ _ _ _ _ u1 u2,q1m _ _ _ _ _ _ _ _ u3 u4,oB_s]
 cases qjx v6 hi lo bits w6 whi wlo wbits<;>simp
theorem qb3h (p q:Pq):ovP p q=ovP q p:=by unfold ovP;rw[Bool.or_comm]
theorem qb5w {R:Type}{a:LA}(x:AV)(h:(a.length+1)*32<=140737488355328)(k:Option R):(bif decide ((a.length+([x]:List AV).length)*32<=140737488355328)then k else none)=k:=by
 rw[show([x]:List AV).length=1 from rfl,decide_eq_true h];rfl
theorem qb1q (rec:List AV->List AV->Bool->Int->Int->Int->Option (List AV))(l:LA)(hl:qq l)(hn:l.length<=1000)(a:LA)(p:Pq)(kx:List AV->Option (List AV)):
 qoi rec l (l.length:Int) a p.v p.hi p.lo p.bits kx FU 0 []=bif l.any (fun b=>winP p (pqY b))then some a else kx (l.filter fun b=>ovP (pqY b) p):=by
 rw[q2h]
 have key:=qcj (σ:=List AV) l hl.1 (fun n i s=>qo7 rec l (l.length:Int) a p.v p.hi p.lo p.bits kx n i s) (fun i s nx=>qii rec l (l.length:Int) i a p.v p.hi p.lo p.bits s nx kx) (fun _ _ _=>rfl)
  (fun i s=>s.length<=i) (fun r s=>bif r.any (fun b=>winP p (pqY b))then some a else kx (s++r.filter fun b=>ovP (pqY b) p)) ?_ ?_ [] FU (by simp) (qcq (by have:=hl.1;omega))
 · exact key
 · intro s nx _;simp[qii]
 · intro i y r s nx g1 g2 g3 g4 h2 h5
   have hy:=hl.2 y (List.mem_of_getElem? g2)
   have h6:(i:Int)<(l.length:Int):=by omega
   have hyy:=qnk hy.1
   unfold mkB at hyy
   have n1:=h5 (s++[y]) (by simp;omega)
   have n2:=h5 s (by omega)
   unfold qii
   simp only[h6,decide_true,cond_t,ixB_nat,g2,oB_s,hy.1,g4,qbid,qbzv,hyy,hd_self]
   rw[q5h y (a:=s) (by omega),n1,n2,List.any_cons,List.filter_cons]
   rw[show qjx p.v p.hi p.lo p.bits (gB y.cells 0) (gI y.cells 1) (gI y.cells 2) (gI y.cells 3)=winP p (pqY y)from rfl]
   rw[show ovP ⟨gB y.cells 0,gI y.cells 1,gI y.cells 2,gI y.cells 3⟩ ⟨p.v,p.hi,p.lo,p.bits⟩=ovP (pqY y) p from rfl]
   cases winP p (pqY y)<;>cases ovP (pqY y) p<;>simp
theorem qb3i {α:Type}(l:List α)(q:α->Bool):(((l.filter q).length:Int)==0)= !(l.any q):=by
 rw[Bool.eq_iff_iff]
 simp only[beq_iff_eq,Bool.not_eq_true',List.any_eq_false]
 constructor
 · intro h x hx
   have:l.filter q=[]:=List.eq_nil_of_length_eq_zero (by omega)
   simpa using List.filter_eq_nil_iff.1 this x hx
 · intro h
   have:l.filter q=[]:=List.filter_eq_nil_iff.2 h
   rw[this];rfl
theorem qbws:∀(n:Nat) (p:Pq),p.good->p.np.k+1=n->∀(m:Nat),n<=m->∀(a l:LA),qq l->qea l->l.length<=1000->a.length+(qdi l n p).length<=1000000000->
 qd5 m a l p.v p.hi p.lo p.bits=some (a++(qdi l n p).map Pq.av)
 |0,p,hp,hk,_,_,_,_,_,_,_,_=>by omega
 |n+1,p,hp,hk,m,hm,a,l,hl,hg,hn,hsz=>by
  obtain⟨m,rfl⟩:∃j,m=j+1:=⟨m-1,by omega⟩
  show qvq (qd5 m) a l p.v p.hi p.lo p.bits=_
  unfold qvq
  simp only[hd_self,qqn,List.length_nil,Bool.and_self,cond_t]
  rw[qb1q _ l hl hn,qb3i]
  unfold qdi at hsz⊢
  cases hW:l.any fun b=>winP p (pqY b)with
  |true=>simp
  |false=>
   simp only[hW,cond_f]at hsz⊢
   cases hO:l.any fun b=>ovP (pqY b) p with
   |false=>
    have hsz':a.length+1<=1000000000:=by simpa[hO]using hsz
    simp only[hO,Bool.not_false,cond_t,hd_self]
    rw[qb5w _ (by omega)]
    rfl
   |true=>
    simp only[hO,Bool.not_true,cond_f]at hsz⊢
    rw[qbtf p.v p.hi p.lo p.bits hp.2.1 hp.2.2]
    simp only[oB_s]
    unfold qqs
    cases hh:qkh p.v p.hi p.lo p.bits with
    |false=>
     have hh':p.half=false:=hh
     simp only[hh',cond_f,Bool.not_false,cond_t]
     simp
    |true=>
     have hh':p.half=true:=hh
     have hkk:=(Pq.half_iff hp).1 hh'
     have hlg:=Pq.low_good hp hh'
     have hhg:=Pq.high_good hp hh'
     have h1:p.low.np.sub p.np:=by rw[Pq.low_np hp hh'];exact Np.low_sub hp.np_ok hkk
     have h2:p.high.np.sub p.np:=by rw[Pq.high_np hp hh'];exact Np.high_sub hp.np_ok hkk
     have k1:p.low.np.k+1=n:=by rw[Pq.low_np hp hh'];show p.np.k-1+1=n;omega
     have k2:p.high.np.k+1=n:=by rw[Pq.high_np hp hh'];show p.np.k-1+1=n;omega
     have f1:=qbij hg hp n p.low hlg h1
     have f2:=qbij hg hp n p.high hhg h2
     have hf:qq (l.filter fun b=>ovP (pqY b) p):=⟨Nat.le_trans (List.length_filter_le _ _) hl.1,fun y hy=>hl.2 y (List.mem_filter.1 hy).1⟩
     have hfg:qea (l.filter fun b=>ovP (pqY b) p):=fun y hy=>hg y (List.mem_filter.1 hy).1
     have hfn:(l.filter fun b=>ovP (pqY b) p).length<=1000:=Nat.le_trans (List.length_filter_le _ _) hn
     simp only[hh',cond_t,List.length_append]at hsz⊢
     have r1:=qbws n p.low hlg k1 m (by omega) a _ hf hfg hfn (by rw[f1];omega)
     have r2:=qbws n p.high hhg k2 m (by omega) (a++(qdi l n p.low).map Pq.av) _ hf hfg hfn (by rw[f2];simp only[List.length_append,List.length_map];omega)
     rw[f1]at r1
     rw[f2]at r2
     simp only[Bool.not_true,cond_f,hd_self,cond_t,Bool.and_self]
     rw[show qd5 m a (l.filter fun b=>ovP (pqY b) p) (gB (lowP p.v p.hi p.lo p.bits).cells 0) (gI (lowP p.v p.hi p.lo p.bits).cells 1) (gI (lowP p.v p.hi p.lo p.bits).cells 2) (gI (lowP p.v p.hi p.lo p.bits).cells 3)=some (a++(qdi l n p.low).map Pq.av)from r1]
     simp only[oB_s,hd_self,cond_t]
     rw[show qd5 m (a++(qdi l n p.low).map Pq.av) (l.filter fun b=>ovP (pqY b) p) (gB (qyu p.v p.hi p.lo p.bits).cells 0) (gI (qyu p.v p.hi p.lo p.bits).cells 1) (gI (qyu p.v p.hi p.lo p.bits).cells 2) (gI (qyu p.v p.hi p.lo p.bits).cells 3)=some (a++(qdi l n p.low).map Pq.av++(qdi l n p.high).map Pq.av)from r2]
     simp
theorem qbzx (rec:List AV->Bool->Int->Int->Int->Option (List AV))(l:LA)(hl:qq l)(p:Pq)(u1:uok p.hi)(u2:uok p.lo)(kx:Bool->Option (List AV)):
 qld rec l p.v p.hi p.lo p.bits kx FU false 0=bif l.any (fun b=>winP p (pqY b))then some []else kx (l.any fun b=>ovP (pqY b) p):=by
 rw[qy6]
 have key:=qcj (σ:=Bool) l hl.1 (fun n i s=>qm5 rec l p.v p.hi p.lo p.bits kx n s i) (fun i s nx=>qf0 rec l s i p.v p.hi p.lo p.bits (fun s i=>nx i s) kx) (fun _ _ _=>rfl)
  (fun _ _=>True) (fun r s=>bif r.any (fun b=>winP p (pqY b))then some []else kx (s||r.any fun b=>ovP (pqY b) p)) ?_ ?_ false FU trivial (qcq (by have:=hl.1;omega))
 · exact key
 · intro s nx _;simp[qf0]
 · intro i y r s nx g1 g2 g3 g4 _ h5
   have hy:=hl.2 y (List.mem_of_getElem? g2)
   have h6:(i:Int)<(l.length:Int):=by omega
   unfold qf0
   simp only[h6,decide_true,cond_t,ixB_nat,g2,oB_s,hy.1,g4,q1m _ _ _ _ _ _ _ _ u1 u2,qbzw _ _ _ _ _ _ _ _ u1 u2 hy.2.1 hy.2.2.1,hd_self,List.any_cons,h5 _ trivial]
   rw[show qjx p.v p.hi p.lo p.bits (gB y.cells 0) (gI y.cells 1) (gI y.cells 2) (gI y.cells 3)=winP p (pqY y)from rfl]
   rw[show ovP ⟨p.v,p.hi,p.lo,p.bits⟩ ⟨gB y.cells 0,gI y.cells 1,gI y.cells 2,gI y.cells 3⟩=ovP (pqY y) p from qb3h _ _]
   cases winP p (pqY y)<;>cases ovP (pqY y) p<;>simp
theorem qbrt:∀(n:Nat) (p:Pq),p.good->p.np.k+1=n->∀(m:Nat),n<=m->∀(l:LA),qq l->qea l->(qdi l n p).length<=1000000000->
 qcs m l p.v p.hi p.lo p.bits=some ((qdi l n p).map Pq.av)
 |0,p,hp,hk,_,_,_,_,_,_=>by omega
 |n+1,p,hp,hk,m,hm,l,hl,hg,hsz=>by
  obtain⟨m,rfl⟩:∃j,m=j+1:=⟨m-1,by omega⟩
  show qm6 (qcs m) l p.v p.hi p.lo p.bits=_
  unfold qm6
  rw[qbzx _ l hl p hp.2.1 hp.2.2]
  unfold qdi at hsz⊢
  cases hW:l.any fun b=>winP p (pqY b)with
  |true=>simp
  |false=>
   simp only[hW,cond_f]at hsz⊢
   cases hO:l.any fun b=>ovP (pqY b) p with
   |false=>rfl
   |true=>
    simp only[hO,Bool.not_true,cond_f]at hsz⊢
    rw[qbte p.v p.hi p.lo p.bits hp.2.1 hp.2.2]
    simp only[oB_s]
    unfold qqs
    cases hh:qkh p.v p.hi p.lo p.bits with
    |false=>
     have hh':p.half=false:=hh
     simp only[hh',cond_f,Bool.not_false,cond_t]
     simp
    |true=>
     have hh':p.half=true:=hh
     have hkk:=(Pq.half_iff hp).1 hh'
     have hlg:=Pq.low_good hp hh'
     have hhg:=Pq.high_good hp hh'
     have k1:p.low.np.k+1=n:=by rw[Pq.low_np hp hh'];show p.np.k-1+1=n;omega
     have k2:p.high.np.k+1=n:=by rw[Pq.high_np hp hh'];show p.np.k-1+1=n;omega
     simp only[hh',cond_t,List.length_append]at hsz
     simp only[hh',cond_t]
     have r1:=qbrt n p.low hlg k1 m (by omega) l hl hg (by omega)
     have r2:=qbrt n p.high hhg k2 m (by omega) l hl hg (by omega)
     simp only[Bool.not_true,cond_f]
     rw[show qcs m l (gB (lowP p.v p.hi p.lo p.bits).cells 0) (gI (lowP p.v p.hi p.lo p.bits).cells 1) (gI (lowP p.v p.hi p.lo p.bits).cells 2) (gI (lowP p.v p.hi p.lo p.bits).cells 3)=some ((qdi l n p.low).map Pq.av)from r1]
     rw[show qcs m l (gB (qyu p.v p.hi p.lo p.bits).cells 0) (gI (qyu p.v p.hi p.lo p.bits).cells 1) (gI (qyu p.v p.hi p.lo p.bits).cells 2) (gI (qyu p.v p.hi p.lo p.bits).cells 3)=some ((qdi l n p.high).map Pq.av)from r2]
     have g1:(([]:List AV).length+((qdi l n p.low).map Pq.av).length)*32<=140737488355328:=by simp;omega
     have g2:(((qdi l n p.low).map Pq.av).length+((qdi l n p.high).map Pq.av).length)*32<=140737488355328:=by simp;omega
     simp only[oB_s,hd_self,cond_t,g1,g2,decide_true]
     rw[List.map_append]
theorem qp6 {l:LA}(hl:qq l)(ht:qcz l):qea l:=fun y hy=>by
 obtain⟨j,hj⟩:=List.getElem?_of_mem hy
 exact⟨(ht j y hj).p,(hl.2 y hy).2.1,(hl.2 y hy).2.2.1⟩
theorem qp7 {p q:Pq}(hp:p.good)(hq:q.good):qd9 p.v p.hi p.lo p.bits q.v q.hi q.lo q.bits=true↔p.np.sub q.np/\p.np.k<q.np.k:=by
 unfold qd9
 rw[Bool.and_eq_true,decide_eq_true_eq,show qjx p.v p.hi p.lo p.bits q.v q.hi q.lo q.bits=winP p q from rfl,qf5 hp hq]
 obtain⟨a1,a2,a3,_⟩:=hp.range
 obtain⟨b1,b2,b3,_⟩:=hq.range
 constructor
 · rintro⟨h1,h2⟩
   refine⟨h2,?_⟩
   have:p.v=q.v:=h2.1
   rw[this]at a3;omega
 · rintro⟨h1,h2⟩
   refine⟨?_,h1⟩
   have:p.v=q.v:=h1.1
   rw[this]at a3;omega
def qng (l:LA)(p:Pq):List AV:=l.filter fun y=>qd9 (gB y.cells 0) (gI y.cells 1) (gI y.cells 2) (gI y.cells 3) p.v p.hi p.lo p.bits
theorem qbng {l:LA}(hg:qea l){p:Pq}(hp:p.good):∀(n:Nat) (y:AV),y∈l->(pqY y).np.sub p.np->(pqY y).np.k<p.np.k->p.np.k-(pqY y).np.k<=n->∃c,c∈qyv l p.v p.hi p.lo p.bits/\(pqY y).np.sub (pqY c).np
 |0,y,hy,h1,h2,h3=>by omega
 |n+1,y,hy,h1,h2,h3=>by
  have hyg:=hg y hy
  by_cases hc:qbi1 l p.v p.hi p.lo p.bits y=true
  · exact⟨y,List.mem_filter.2 ⟨hy,hc⟩,Np.sub_refl hyg.np_ok⟩
  · unfold qbi1 at hc
    have hlp:qd9 (gB y.cells 0) (gI y.cells 1) (gI y.cells 2) (gI y.cells 3) p.v p.hi p.lo p.bits=true:=(qp7 hyg hp).2 ⟨h1,h2⟩
    rw[hlp]at hc
    simp only[Bool.true_and,Bool.not_eq_true',Bool.not_eq_false,List.any_eq_true]at hc
    obtain⟨o,ho,hoo⟩:=hc
    rw[Bool.and_eq_true]at hoo
    have hog:=hg o ho
    obtain⟨a1,a2⟩:=(qp7 hog hp).1 hoo.1
    obtain⟨b1,b2⟩:=(qp7 hyg hog).1 (show qd9 (pqY y).v (pqY y).hi (pqY y).lo (pqY y).bits (pqY o).v (pqY o).hi (pqY o).lo (pqY o).bits=true from hoo.2)
    obtain⟨c,hc1,hc2⟩:=qbng hg hp n o ho a1 a2 (by omega)
    exact⟨c,hc1,Np.sub_trans b1 hc2⟩
theorem qbug {l:LA}(hg:qea l){p:Pq}(hp:p.good):qdi (qng l p) (p.np.k+1) p=qdi (qyv l p.v p.hi p.lo p.bits) (p.np.k+1) p:=by
 have hd:∀y,y∈qng l p↔y∈l/\(pqY y).np.sub p.np/\(pqY y).np.k<p.np.k:=fun y=>by
  unfold qng
  rw[List.mem_filter]
  constructor
  · rintro⟨h1,h2⟩;exact⟨h1,(qp7 (hg y h1) hp).1 h2⟩
  · rintro⟨h1,h2⟩;exact⟨h1,(qp7 (hg y h1) hp).2 h2⟩
 have hcd:∀y,y∈qyv l p.v p.hi p.lo p.bits->y∈qng l p:=fun y hy=>by
  unfold qyv at hy
  rw[List.mem_filter]at hy
  unfold qbi1 at hy
  simp only[Bool.and_eq_true]at hy
  exact List.mem_filter.2 ⟨hy.1,hy.2.1⟩
 have hgd:qea (qng l p):=fun y hy=>hg y ((hd y).1 hy).1
 have hgc:qea (qyv l p.v p.hi p.lo p.bits):=fun y hy=>hgd y (hcd y hy)
 refine q0r hgd hgc hp (fun q hq hs=> ?_) (fun q hq hs=> ?_) _ p hp (Np.sub_refl hp.np_ok)
 · rw[Bool.eq_iff_iff,List.any_eq_true,List.any_eq_true]
   constructor
   · rintro⟨b,hb,h⟩
     obtain⟨h1,h2,h3⟩:=(hd b).1 hb
     obtain⟨c,hc,hs2⟩:=qbng hg hp _ b h1 h2 h3 (Nat.le_refl _)
     exact⟨c,hc,(qf5 hq (hgc c hc)).2 (Np.sub_trans ((qf5 hq (hgd b hb)).1 h) hs2)⟩
   · rintro⟨c,hc,h⟩;exact⟨c,hcd c hc,h⟩
 · rw[Bool.eq_iff_iff,List.any_eq_true,List.any_eq_true]
   constructor
   · rintro⟨b,hb,h⟩
     obtain⟨h1,h2,h3⟩:=(hd b).1 hb
     obtain⟨c,hc,hs2⟩:=qbng hg hp _ b h1 h2 h3 (Nat.le_refl _)
     refine⟨c,hc,?_⟩
     unfold ovP at h⊢
     rw[Bool.or_eq_true,qf5 (hgd b hb) hq,qf5 hq (hgd b hb)]at h
     rw[Bool.or_eq_true,qf5 (hgc c hc) hq,qf5 hq (hgc c hc)]
     rcases h with h|h
     · rcases Nat.lt_or_ge (pqY c).np.k q.np.k with hk|hk
       · exact .inl (Np.nest hs2 h (by omega))
       · exact .inr (Np.nest h hs2 hk)
     · exact .inr (Np.sub_trans h hs2)
   · rintro⟨c,hc,h⟩;exact⟨c,hcd c hc,h⟩
def qbi2 (l:LA)(p:Pq):List AV:=
 bif(match l.find? (atP p.v p.hi p.lo p.bits)with|some y=>gI y.cells 4==1|none=>false)then(qdi (qng l p) (p.np.k+1) p).map Pq.av else[]
theorem q1q {l:LA}(hg:qea l){p:Pq}{y:AV}(hy:l.find? (atP p.v p.hi p.lo p.bits)=some y):p.good/\pqY y=p:=by
 have h1:=List.find?_some hy
 obtain⟨a,b,c,d⟩:=qor.1 h1
 have e:pqY y=p:=by unfold pqY;rw[a,b,c,d]
 have:=hg y (List.mem_of_find?_eq_some hy)
 rw[e]at this
 exact⟨this,e⟩
theorem qb4o {n:Nat}(h:n<=1000):n<=FU:=by rw[qb4h];omega
theorem qbth (y:AV):gI (blkV y).cells 4=gI y.cells 4:=rfl
theorem qb63 (l:LA)(hl:qq l)(hg:qea l)(hn:l.length<=1000)(p:Pq):q0e l p.v p.hi p.lo p.bits=some (qbi2 l p):=by
 rw[qbq0];unfold qvr qbi2
 rw[qbyk l hl]
 simp only[oB_s]
 unfold qsb
 cases hf:l.find? (atP p.v p.hi p.lo p.bits)with
 |none=>rfl
 |some y=>
  obtain⟨hp,_⟩:=q1q hg hf
  simp only[qbth,Bool.not_true,Bool.false_or]
  cases hk:gI y.cells 4==1 with
  |false=>
   have:(gI y.cells 4 != 1)=true:=by unfold bne;rw[hk];rfl
   rw[this];rfl
  |true=>
   have:(gI y.cells 4 != 1)=false:=by unfold bne;rw[hk];rfl
   rw[this]
   simp only[cond_f,qqn,List.length_nil,Bool.and_self,cond_t]
   have lp:∀kx:List AV->Option (List AV),qxr l (l.length:Int) p.v p.hi p.lo p.bits kx FU 0 []=kx (qng l p):=by
    intro kx
    rw[qbf2]
    have key:=qcj (σ:=List AV) l hl.1 (fun n i s=>qj6 l (l.length:Int) p.v p.hi p.lo p.bits kx n i s) (fun i s nx=>qj5 l (l.length:Int) i p.v p.hi p.lo p.bits s nx kx) (fun _ _ _=>rfl)
     (fun i s=>s.length<=i) (fun r s=>kx (s++qng r p)) ?_ ?_ [] FU (by simp) (qcq (by have:=hl.1;omega))
    · exact key
    · intro s nx _;simp[qj5,qng]
    · intro i y r s nx g1 g2 g3 g4 h2 h5
      have hy:=hl.2 y (List.mem_of_getElem? g2)
      have h6:(i:Int)<(l.length:Int):=by omega
      have hyy:=qnk hy.1
      unfold mkB at hyy
      have n1:=h5 (s++[y]) (by simp;omega)
      have n2:=h5 s (by omega)
      unfold qj5
      simp only[h6,decide_true,cond_t,ixB_nat,g2,oB_s,hy.1,g4,qbwk,hyy,hd_self]
      rw[q5h y (a:=s) (by omega),n1,n2]
      unfold qng
      rw[List.filter_cons]
      cases qd9 (gB y.cells 0) (gI y.cells 1) (gI y.cells 2) (gI y.cells 3) p.v p.hi p.lo p.bits<;>simp
   rw[lp]
   simp only[hd_self,cond_t]
   have hf2:qq (qng l p):=⟨Nat.le_trans (List.length_filter_le _ _) hl.1,fun y hy=>hl.2 y (List.mem_filter.1 hy).1⟩
   have hfg:qea (qng l p):=fun y hy=>hg y (List.mem_filter.1 hy).1
   have hfn:(qng l p).length<=1000:=Nat.le_trans (List.length_filter_le _ _) hn
   have hk2:=hp.range.2.2.2
   have:=qbws (p.np.k+1) p hp rfl FU (qb4o (by omega)) [] (qng l p) hf2 hfg hfn (by have:=qbnf hfg hfn (n:=p.np.k+1) (by omega) hp;simp;omega)
   rw[q8a,this]
   simp
theorem qb5x (l:LA)(hl:qq l)(hg:qea l)(hn:l.length<=1000)(p:Pq):qv0 l p.v p.hi p.lo p.bits=some (qbi2 l p):=by
 rw[qbmv];unfold qr7 qbi2
 rw[qbiz l hl]
 simp only[oB_s]
 unfold qsb
 cases hf:l.find? (atP p.v p.hi p.lo p.bits)with
 |none=>simp only[qy7,qja];rfl
 |some y=>
  obtain⟨hp,_⟩:=q1q hg hf
  simp only[qy7,qja,qbth,Bool.not_true,Bool.false_or]
  cases hk:gI y.cells 4==1 with
  |false=>
   have:(gI y.cells 4 != 1)=true:=by unfold bne;rw[hk];rfl
   rw[this];rfl
  |true=>
   have:(gI y.cells 4 != 1)=false:=by unfold bne;rw[hk];rfl
   rw[this]
   simp only[cond_f,qxc,hp.1,oB_s,Bool.not_true,qbxw l hl (by omega),cond_t]
   have hcd:∀y,y∈qyv l p.v p.hi p.lo p.bits->y∈l:=fun y hy=>(List.mem_filter.1 hy).1
   have hf2:qq (qyv l p.v p.hi p.lo p.bits):=⟨Nat.le_trans (List.length_filter_le _ _) hl.1,fun y hy=>hl.2 y (hcd y hy)⟩
   have hfg:qea (qyv l p.v p.hi p.lo p.bits):=fun y hy=>hg y (hcd y hy)
   have hfn:(qyv l p.v p.hi p.lo p.bits).length<=1000:=Nat.le_trans (List.length_filter_le _ _) hn
   have hk2:=hp.range.2.2.2
   have:=qbrt (p.np.k+1) p hp rfl FU (qb4o (by omega)) (qyv l p.v p.hi p.lo p.bits) hf2 hfg (by have:=qbnf hfg hfn (n:=p.np.k+1) (by omega) hp;omega)
   rw[q4o,this,qbug hg hp]
   rfl
theorem q3i {l:LA}:qcz l↔(∀y,y∈l->qod y=true/\mayB y=true)/\l.Pairwise fun x y=>ltY x y/\qbi y x=false:=by
 constructor
 · intro h
   refine⟨fun y hy=> ?_,List.pairwise_iff_getElem.2 fun i j hi hj hij=> ?_⟩
   · obtain⟨j,hj⟩:=List.getElem?_of_mem hy
     exact⟨(h j y hj).p,(h j y hj).may⟩
   · have h1:l[i]?=some l[i]:=by simp
     have h2:l[j]?=some l[j]:=by simp
     exact⟨h.sorted i _ h1 j _ hij h2,(h j _ h2).bar i _ hij h1⟩
 · rintro⟨h1,h2⟩ j y hy
   rw[List.pairwise_iff_getElem]at h2
   obtain⟨hj,rfl⟩:=List.getElem?_eq_some_iff.1 hy
   refine⟨(h1 _ (List.getElem_mem hj)).1,(h1 _ (List.getElem_mem hj)).2,fun i z hji hz=> ?_,fun k z hk hz=> ?_⟩
   · obtain⟨hi,rfl⟩:=List.getElem?_eq_some_iff.1 hz
     exact(h2 i j hi hj (by omega)).1
   · obtain⟨hi,rfl⟩:=List.getElem?_eq_some_iff.1 hz
     exact(h2 k j hi hj hk).2
theorem qcz.rem {l:LA}(ht:qcz l)(v:Bool)(hi lo bits:Int):qcz (remF l v hi lo bits):=by
 rw[q3i]at ht⊢
 exact⟨fun y hy=>ht.1 y (List.mem_filter.1 hy).1,ht.2.filter _⟩
theorem qb3j {l:LA}(hl:qq l)(v:Bool)(hi lo bits:Int):qq (remF l v hi lo bits):=⟨Nat.le_trans (List.length_filter_le _ _) hl.1,fun y hy=>hl.2 y (List.mem_filter.1 hy).1⟩
theorem qbwt {l:LA}(hl:qq l)(hn:l.length<=100000){b:AV}(hb:qlh b):qq (insF b l):=⟨by rw[qbc0];omega,fun y hy=>by
 rcases qtc.1 hy with rfl|h
 · exact hb
 · exact hl.2 y h⟩
theorem qbp6 {l:LA}(hl:qq l){v:Bool}{hi lo bits:Int}{y:AV}(h:l.find? (atP v hi lo bits)=some y):qsb l v hi lo bits=(y,true):=by
 unfold qsb;rw[h];simp only
 rw[qb1m (hl.2 y (List.mem_of_find?_eq_some h)).1]
theorem qbp7 {l:LA}{v:Bool}{hi lo bits:Int}(h:l.find? (atP v hi lo bits)=none):qsb l v hi lo bits=(blk0,false):=by
 unfold qsb;rw[h]
theorem pick {l:LA}{n:Int}(hn:0<=n/\n<=255)(h0:0<l.length)(hl:l.length<=1000):
 ∃y,ixB l ((IntKind.i64.wrap n).tmod (l.length:Int))=some y/\y∈l:=by
 obtain⟨m,rfl⟩:=Int.eq_ofNat_of_zero_le hn.1
 rw[w64 (by omega) (by omega),<-Int.ofNat_tmod,ixB_nat]
 have hlt:=Nat.mod_lt m h0
 refine⟨l[m%l.length],?_,List.getElem_mem _⟩
 simp[hlt]
def atY (b y:AV):Bool:=atP (gB b.cells 0) (gI b.cells 1) (gI b.cells 2) (gI b.cells 3) y
theorem qbru {b y:AV}:atY b y=true↔pqY y=pqY b:=by
 unfold atY;rw[qor];unfold pqY
 constructor
 · rintro⟨h1,h2,h3,h4⟩;rw[h1,h2,h3,h4]
 · intro h;injection h with h1 h2 h3 h4;exact⟨h1,h2,h3,h4⟩
theorem qb64 {y b:AV}(h:cmpY y b>0):ltY b y:=(qow b y).2.2.1 ((qow y b).1.1 h)
theorem qb65 {y b:AV}(h:¬cmpY y b>0)(hne:atY b y=false):ltY y b:=by
 refine(qow y b).2.2.1 ?_
 have:cmpY y b≠0:=fun h0=>by
  have:=qbcx.1 (qbcy.2 h0)
  rw[show atY b y=true from qor.2 this]at hne;cases hne
 omega
theorem qb66 {y b:AV}(h:ltY y b):¬cmpY y b>0:=by
 have:=(qow y b).2.2.2 h
 omega
theorem qbrv {y b:AV}(h:ltY b y):cmpY y b>0:=(qow y b).1.2 ((qow b y).2.2.2 h)
theorem qbti {b:AV}:∀{l:LA},l.Pairwise (fun x y=>ltY x y/\qbi y x=false)->(∀z,z∈l->atY b z=false/\qbi b z=false/\qbi z b=false)->(insF b l).Pairwise fun x y=>ltY x y/\qbi y x=false
 |[],_,_=>by simp[insF]
 |y::r,hp,h=>by
  rw[List.pairwise_cons]at hp
  rw[q1o]
  by_cases hc:cmpY y b>0
  · simp only[hc,decide_true,cond_t]
    have hby:=qb64 hc
    refine List.pairwise_cons.2 ⟨fun z hz=> ?_,List.pairwise_cons.2 hp⟩
    refine⟨?_,(h z hz).2.2⟩
    rcases List.mem_cons.1 hz with rfl|hz'
    · exact hby
    · exact q1n hby (hp.1 z hz').1
  · simp only[hc,decide_false,cond_f]
    have h0:=h y (by simp)
    refine List.pairwise_cons.2 ⟨fun z hz=> ?_,qbti hp.2 fun z hz=>h z (List.mem_cons_of_mem _ hz)⟩
    rcases qtc.1 hz with rfl|hz'
    · exact⟨qb65 hc h0.1,h0.2.1⟩
    · exact hp.1 z hz'
theorem qcz.ins {l:LA}(ht:qcz l){b:AV}(h1:qod b=true)(h2:mayB b=true)(h:∀z,z∈l->atY b z=false/\qbi b z=false/\qbi z b=false):qcz (insF b l):=by
 obtain⟨a1,a2⟩:=q3i.1 ht
 refine q3i.2 ⟨fun y hy=> ?_,qbti a2 h⟩
 rcases qtc.1 hy with rfl|hy'
 · exact⟨h1,h2⟩
 · exact a1 y hy'
theorem qbwu {q:AV->Bool}{b:AV}(hb:q b=false):∀l:List AV,(insF b l).filter q=l.filter q
 |[]=>by simp[insF,hb]
 |y::r=>by
  rw[q1o]
  cases decide (cmpY y b>0)with
  |true=>simp only[cond_t];rw[List.filter_cons];simp[hb]
  |false=>simp only[cond_f];rw[List.filter_cons,List.filter_cons,qbwu hb r]
theorem qbp8 {q:AV->Bool}{l:LA}(h:∀z,z∈l->q z=true):l.filter q=l:=List.filter_eq_self.2 h
theorem qbyo {y:AV}:∀{l:LA},l.Pairwise ltY->y∈l->insF y (l.filter fun z=> !atY y z)=l
 |[],_,h=>by simp at h
 |x::r,hp,hm=>by
  rw[List.pairwise_cons]at hp
  have hyy:atY y y=true:=qbru.2 rfl
  have nat:∀a b:AV,ltY a b->atY b a=false/\atY a b=false:=fun a b hab=>by
   constructor
   · cases hq:atY b a with
     |false=>rfl
     |true=>
      have:=qbrv hab
      have h0:=qbcy.1 (qbcx.2 (qor.1 hq))
      have h1:=(qow a b).2.2.2 hab
      omega
   · cases hq:atY a b with
     |false=>rfl
     |true=>
      have h0:=qbcy.1 (qbcx.2 (qor.1 hq))
      have:=qbrv hab
      omega
  rcases List.mem_cons.1 hm with rfl|hm'
  · have e:(r.filter fun z=> !atY y z)=r:=qbp8 fun z hz=>by rw[(nat y z (hp.1 z hz)).2];rfl
    rw[List.filter_cons,hyy]
    simp only[Bool.not_true,Bool.false_eq_true,if_false,e]
    cases r with
    |nil=>rfl
    |cons z r=>rw[q1o];simp only[qbrv (hp.1 z (by simp)),decide_true,cond_t]
  · have hxy:=hp.1 y hm'
    rw[List.filter_cons,(nat x y hxy).1]
    simp only[Bool.not_false,if_true]
    rw[q1o]
    simp only[qb66 hxy,decide_false,cond_f]
    rw[qbyo hp.2 hm']
theorem qb5y {l:LA}(ht:qcz l):l.Pairwise ltY:=(q3i.1 ht).2.imp fun h=>h.1
theorem qb3k {l:LA}(ht:qcz l){y:AV}(hy:y∈l):(remF l (pqY y).v (pqY y).hi (pqY y).lo (pqY y).bits).length+1=l.length:=by
 have:=congrArg List.length (qbyo (qb5y ht) hy)
 rw[qbc0]at this
 exact this
def barK (ky kz:Int):Bool:=bif kz==3 then true else bif kz==2 then ky != 3 else false
theorem qbi3 {y z:AV}(hy:(pqY y).good)(hz:(pqY z).good):qbi y z=false↔((pqY y).np.sub (pqY z).np->(pqY y).np.k<(pqY z).np.k->barK (gI y.cells 4) (gI z.cells 4)=false):=by
 have e:qbi y z=bif qd9 (pqY y).v (pqY y).hi (pqY y).lo (pqY y).bits (pqY z).v (pqY z).hi (pqY z).lo (pqY z).bits then barK (gI y.cells 4) (gI z.cells 4)else false:=by
  unfold qbi qd9
  rw[Bool.and_comm];rfl
 rw[e]
 cases hl:qd9 (pqY y).v (pqY y).hi (pqY y).lo (pqY y).bits (pqY z).v (pqY z).hi (pqY z).lo (pqY z).bits with
 |true=>obtain⟨h1,h2⟩:=(qp7 hy hz).1 hl;simp[h1,h2]
 |false=>
  simp only[cond_f,true_iff]
  intro h1 h2
  rw[(qp7 hy hz).2 ⟨h1,h2⟩]at hl;cases hl
theorem qcz.bars {l:LA}(hl:qq l)(ht:qcz l){y z:AV}(hy:y∈l)(hz:z∈l):qbi y z=false:=by
 have hg:=qp6 hl ht
 refine(qbi3 (hg y hy) (hg z hz)).2 fun h1 h2=> ?_
 have hw:winP (pqY y) (pqY z)=true:=(qf5 (hg y hy) (hg z hz)).2 h1
 obtain⟨j,hj⟩:=List.getElem?_of_mem hy
 obtain⟨i,hi⟩:=List.getElem?_of_mem hz
 have hne:atP (gB z.cells 0) (gI z.cells 1) (gI z.cells 2) (gI z.cells 3) y=false:=by
  cases hq:atP (gB z.cells 0) (gI z.cells 1) (gI z.cells 2) (gI z.cells 3) y with
  |false=>rfl
  |true=>rw[qbru.1 hq]at h2;omega
 obtain⟨h3,_⟩:=qbuf (hl.2 y hy) hw hne
 have hij:i<j:=by
  rcases Nat.lt_trichotomy i j with h|h|h
  · exact h
  · subst h;rw[hi]at hj;cases hj;exact absurd h3 qfm
  · exact absurd (q1n h3 (ht.sorted j y hj i z h hi)) qfm
 exact(qbi3 (hg y hy) (hg z hz)).1 ((ht j y hj).bar i z hij hi) h1 h2
theorem qbyp {l:LA}(hg:qea l){p:Pq}(hp:p.good):occF l p.v p.hi p.lo p.bits=false↔∀y,y∈l->¬((pqY y).np.sub p.np/\(pqY y).np.k<p.np.k):=by
 unfold occF
 rw[List.any_eq_false]
 constructor
 · intro h y hy h2;exact h y hy ((qp7 (p:=pqY y) (hg y hy) hp).2 h2)
 · intro h y hy h2;exact h y hy ((qp7 (p:=pqY y) (hg y hy) hp).1 h2)
theorem qb5z {l:LA}{b:AV}:l.any (atP (gB b.cells 0) (gI b.cells 1) (gI b.cells 2) (gI b.cells 3))=false↔∀z,z∈l->atY b z=false:=by
 rw[List.any_eq_false]
 constructor
 · intro h z hz;have:=h z hz;unfold atY;simpa using this
 · intro h z hz;have:=h z hz;unfold atY at this;rw[this];simp
theorem qb3l {l:LA}(hl:qq l)(ht:qcz l){b:AV}(hb:qlh b)(h:(addF l b).2=0):
 (addF l b).1=insF b l/\qcz (insF b l)/\qb6 (insF b l) (gB b.cells 0) (gI b.cells 1) (gI b.cells 2) (gI b.cells 3)=(l,0):=by
 have hg:=qp6 hl ht
 unfold addF at*
 cases hp:qod b with
 |false=>simp[hp]at h
 |true=>
 cases hm:mayB b with
 |false=>simp[hp,hm]at h
 |true=>
 cases ha:l.any (atP (gB b.cells 0) (gI b.cells 1) (gI b.cells 2) (gI b.cells 3))with
 |true=>simp[hp,hm,ha]at h
 |false=>
 cases hbr:(l.any (qbi b)||occF l (gB b.cells 0) (gI b.cells 1) (gI b.cells 2) (gI b.cells 3))with
 |true=>simp only[hp,hm,ha,hbr,Bool.not_true,cond_f,cond_t]at h;cases h
 |false=>
 rw[hp,hm,ha,hbr]at h
 simp only[Bool.not_true,cond_f]at*
 cases h512:decide ((l.length:Int)>=512)with
 |true=>rw[h512]at h;simp at h
 |false=>
 simp only[cond_f]
 rw[Bool.or_eq_false_iff]at hbr
 have hbg:(pqY b).good:=⟨hp,hb.2.1,hb.2.2.1⟩
 have ho:=(qbyp (p:=pqY b) hg hbg).1 hbr.2
 have hat:=qb5z.1 ha
 have key:∀z,z∈l->atY b z=false/\qbi b z=false/\qbi z b=false:=fun z hz=>by
  refine⟨hat z hz,?_,?_⟩
  · have:=List.any_eq_false.1 hbr.1 z hz;simpa using this
  · exact(qbi3 (hg z hz) hbg).2 fun h1 h2=>absurd ⟨h1,h2⟩ (ho z hz)
 have hT:=ht.ins hp hm key
 refine⟨trivial,hT,?_⟩
 unfold qb6
 have e1:(insF b l).any (atP (gB b.cells 0) (gI b.cells 1) (gI b.cells 2) (gI b.cells 3))=true:=List.any_eq_true.2 ⟨b,qtc.2 (.inl rfl),qor.2 ⟨rfl,rfl,rfl,rfl⟩⟩
 have e2:occF (insF b l) (gB b.cells 0) (gI b.cells 1) (gI b.cells 2) (gI b.cells 3)=false:=by
  refine(qbyp (p:=pqY b) (l:=insF b l) (fun y hy=> ?_) hbg).2 fun y hy=> ?_
  · rcases qtc.1 hy with rfl|hy'
    · exact hbg
    · exact hg y hy'
  · rcases qtc.1 hy with rfl|hy'
    · intro h;omega
    · exact ho y hy'
 have e3:remF (insF b l) (gB b.cells 0) (gI b.cells 1) (gI b.cells 2) (gI b.cells 3)=l:=by
  unfold remF
  rw[qbwu (b:=b) (by simp[atP]) l]
  exact qbp8 fun z hz=>by have:=hat z hz;unfold atY at this;rw[this];rfl
 rw[e1,e2,e3];rfl
theorem qbwv {p:Pq}(hp:p.good)(h:p.half=true):p.low.np.sub p.np/\p.high.np.sub p.np/\p.low.np.k+1=p.np.k/\p.high.np.k+1=p.np.k:=by
 have hk:=(Pq.half_iff hp).1 h
 rw[Pq.low_np hp h,Pq.high_np hp h]
 refine⟨Np.low_sub hp.np_ok hk,Np.high_sub hp.np_ok hk,?_,?_⟩
 · show p.np.k-1+1=p.np.k;omega
 · show p.np.k-1+1=p.np.k;omega
theorem q0s {l:LA}(hl:qq l)(ht:qcz l){v:Bool}{hi lo bits:Int}(h:(qb6 l v hi lo bits).2=0):
 qq (qb6 l v hi lo bits).1/\qcz (qb6 l v hi lo bits).1/\(qb6 l v hi lo bits).1.length+1=l.length:=by
 unfold qb6 at*
 cases h1:l.any (atP v hi lo bits)with
 |false=>rw[h1]at h;cases h
 |true=>
 cases h2:occF l v hi lo bits with
 |true=>rw[h1,h2]at h;cases h
 |false=>
 simp only[Bool.not_true,cond_f]
 obtain⟨y,hy,ha⟩:=List.any_eq_true.1 h1
 obtain⟨a,b,c,d⟩:=qor.1 ha
 have:=qb3k ht hy
 unfold pqY at this
 simp only[a,b,c,d]at this
 exact⟨qb3j hl v hi lo bits,ht.rem v hi lo bits,this⟩
def betR (b0:Option AV)(y:AV):Bool:=match b0 with
 |none=>true
 |some x=>decide (gI y.cells 3>gI x.cells 3)
theorem qbp9 (q:AV->Bool)(b0:Option AV)(y:AV)(r:LA):qof q b0 (y::r)=qof q (bif q y&&betR b0 y then some y else b0) r:=by cases b0<;>rfl
theorem qbc3 {q:AV->Bool}{b:AV}:∀{l:LA} {b0:Option AV},qof q b0 l=some b->(b0=some b\/b∈l/\q b=true)/\(∀z,z∈l->q z=true->gI z.cells 3<=gI b.cells 3)/\∀x,b0=some x->gI x.cells 3<=gI b.cells 3
 |[],b0,h=>by
  unfold qof at h;subst h
  exact⟨.inl rfl,fun z hz=>by simp at hz,fun x hx=>by cases hx;exact Int.le_refl _⟩
 |y::r,b0,h=>by
  rw[qbp9]at h
  cases hc:(q y&&betR b0 y)with
  |true=>
   rw[hc]at h
   simp only[cond_t]at h
   obtain⟨h1,h2,h3⟩:=qbc3 h
   rw[Bool.and_eq_true]at hc
   have hy:=h3 y rfl
   refine⟨?_,?_,?_⟩
   · rcases h1 with h1|⟨h1,h1'⟩
     · cases h1;exact .inr ⟨by simp,hc.1⟩
     · exact .inr ⟨List.mem_cons_of_mem _ h1,h1'⟩
   · intro z hz hq
     rcases List.mem_cons.1 hz with rfl|hz
     · exact hy
     · exact h2 z hz hq
   · intro x hx
     subst hx
     have:=hc.2
     simp only[betR,decide_eq_true_eq]at this
     omega
  |false=>
   rw[hc]at h
   simp only[cond_f]at h
   obtain⟨h1,h2,h3⟩:=qbc3 h
   refine⟨?_,?_,h3⟩
   · rcases h1 with h1|⟨h1,h1'⟩
     · exact .inl h1
     · exact .inr ⟨List.mem_cons_of_mem _ h1,h1'⟩
   · intro z hz hq
     rcases List.mem_cons.1 hz with rfl|hz
     · rw[hq]at hc
       cases b0 with
       |none=>simp[betR]at hc
       |some x=>
        have:=h3 x rfl
        simp only[betR,Bool.true_and,decide_eq_false_iff_not]at hc
        omega
     · exact h2 z hz hq
theorem qbqa {q:AV->Bool}:∀{l:LA} {b0:Option AV},qof q b0 l=none->b0=none/\∀z,z∈l->q z=false
 |[],b0,h=>by unfold qof at h;exact⟨h,fun z hz=>by simp at hz⟩
 |y::r,b0,h=>by
  rw[qbp9]at h
  obtain⟨h1,h2⟩:=qbqa h
  cases hq:q y with
  |true=>
   rw[hq]at h1
   cases b0 with
   |none=>simp[betR]at h1
   |some x=>cases hd:betR (some x) y<;>simp[hd]at h1
  |false=>
   rw[hq]at h1
   simp only[Bool.false_and,cond_f]at h1
   refine⟨h1,fun z hz=> ?_⟩
   rcases List.mem_cons.1 hz with rfl|hz
   · exact hq
   · exact h2 z hz
theorem qbzy {l:LA}(ht:qcz l){y z:AV}(hy:y∈l)(hz:z∈l)(h:pqY z=pqY y):z=y:=by
 obtain⟨i,hi⟩:=List.getElem?_of_mem hy
 obtain⟨j,hj⟩:=List.getElem?_of_mem hz
 have h1:atP (gB y.cells 0) (gI y.cells 1) (gI y.cells 2) (gI y.cells 3) z=true:=qbru.2 h
 have:=qcz.uniq ht hi hj (qor.2 ⟨rfl,rfl,rfl,rfl⟩) h1
 subst this
 rw[hi]at hj;cases hj;rfl
theorem qbww {z:AV}(hz:(pqY z).good){w:Bool}{ahi alo:Int}(u3:uok ahi)(u4:uok alo):qf7 (gB z.cells 0) (gI z.cells 1) (gI z.cells 2) (gI z.cells 3) w ahi alo=true↔qew w ahi alo=true/\(⟨w,numP ahi alo,0⟩:Np).sub (pqY z).np:=by
 refine(qbs8 (v6:=gB z.cells 0) (hi:=gI z.cells 1) (lo:=gI z.cells 2) (bits:=gI z.cells 3) hz.2.1 hz.2.2 u3 u4).trans ?_
 unfold Np.sub
 constructor
 · rintro⟨_,h2,h3,h4⟩;exact⟨h2,h3.symm,Nat.zero_le _,h4.symm⟩
 · rintro⟨h1,h2,_,h4⟩;exact⟨hz.1,h1,h2.symm,h4.symm⟩
def hasA (w:Bool)(ahi alo:Int)(z:AV):Bool:=qf7 (gB z.cells 0) (gI z.cells 1) (gI z.cells 2) (gI z.cells 3) w ahi alo
theorem qbc4 {C:LA}(hC:qea C):∀(n:Nat) (p:Pq),p.good->∀q,q∈qdi C n p->q.good/\q.np.sub p.np/\∀c,c∈C->ovP (pqY c) q=false
 |0,p,hp,q,hq=>by simp[qdi]at hq
 |n+1,p,hp,q,hq=>by
  unfold qdi at hq
  cases hW:C.any fun b=>winP p (pqY b)with
  |true=>simp[hW]at hq
  |false=>
   cases hO:C.any fun b=>ovP (pqY b) p with
   |false=>
    simp[hW,hO]at hq
    subst hq
    exact⟨hp,Np.sub_refl hp.np_ok,fun c hc=>by have:=List.any_eq_false.1 hO c hc;simpa using this⟩
   |true=>
    cases hh:p.half with
    |false=>simp[hW,hO,hh]at hq
    |true=>
     rw[hW,hO,hh]at hq
     simp only[cond_f,Bool.not_true,cond_t,List.mem_append]at hq
     obtain⟨s1,s2,_,_⟩:=qbwv hp hh
     rcases hq with hq|hq
     · obtain⟨a,b,c⟩:=qbc4 hC n p.low (Pq.low_good hp hh) q hq
       exact⟨a,Np.sub_trans b s1,c⟩
     · obtain⟨a,b,c⟩:=qbc4 hC n p.high (Pq.high_good hp hh) q hq
       exact⟨a,Np.sub_trans b s2,c⟩
theorem qbqb (q:Pq):fitC qe q.av.cells=true:=rfl
theorem av_w (q:Pq):gB q.av.cells 0=q.v/\gI q.av.cells 1=q.hi/\gI q.av.cells 2=q.lo/\gI q.av.cells 3=q.bits:=⟨rfl,rfl,rfl,rfl⟩
def betQ (better:Int->Int->Bool)(b:Option Pq)(x:Pq):Bool:=match b with
 |none=>true
 |some q=>better x.bits q.bits
def qex (better:Int->Int->Bool)(bits:Int):Option Pq->List Pq->Option Pq
 |b,[]=>b
 |b,x::r=>qex better bits (bif decide (x.bits<=bits)&&betQ better b x then some x else b) r
theorem qvi (better:Int->Int->Bool)(bits:Int)(b:Option Pq)(x:Pq)(r:List Pq):qex better bits b (x::r)=qex better bits (bif decide (x.bits<=bits)&&betQ better b x then some x else b) r:=rfl
def pq0:Pq:=⟨false,0,0,0⟩
def outQ:Option Pq->AV×Bool
 |some q=>(q.av,true)
 |none=>(qoe,false)
theorem q6z {better:Int->Int->Bool}{bits:Int}{q:Pq}:∀{F:List Pq} {b:Option Pq},qex better bits b F=some q->(b=some q\/(q∈F/\q.bits<=bits))
 |[],b,h=>.inl h
 |x::r,b,h=>by
  rw[qvi]at h
  rcases q6z h with h1|⟨h1,h2⟩
  · cases hc:decide (x.bits<=bits)&&betQ better b x with
    |true=>
     rw[hc]at h1
     simp only[cond_t]at h1
     cases h1
     rw[Bool.and_eq_true,decide_eq_true_eq]at hc
     exact .inr ⟨by simp,hc.1⟩
    |false=>rw[hc]at h1;exact .inl h1
  · exact .inr ⟨List.mem_cons_of_mem _ h1,h2⟩
theorem q5i (F:List Pq)(hF:F.length<=1000000000)(bits:Int):qfp (F.map Pq.av) bits=some (outQ (qex (fun _ _=>false) bits none F)):=by
 rw[qtp];unfold qdq
 rw[qq2]
 have hlen:(F.map Pq.av).length=F.length:=List.length_map _
 have key:=qcj (σ:=Bool×Pq) F (by omega) (fun n i s=>qcd bits (F.map Pq.av) ((F.map Pq.av).length:Int) false 0 0 0 (fun v b0 b1 b2 b3=>some ((.agg [(.bool b0),(.int .u64 b1),(.int .u64 b2),(.int .i64 b3)]),v)) n s.1 i s.2.v s.2.hi s.2.lo s.2.bits)
  (fun i s nx=>qcc bits s.1 (F.map Pq.av) ((F.map Pq.av).length:Int) i false 0 0 0 s.2.v s.2.hi s.2.lo s.2.bits (fun e i v hi lo b=>nx i (e,⟨v,hi,lo,b⟩)) (fun v b0 b1 b2 b3=>some ((.agg [(.bool b0),(.int .u64 b1),(.int .u64 b2),(.int .i64 b3)]),v))) (fun _ _ _=>rfl)
  (fun _ s=>s.1=false->s.2=pq0) (fun r s=>some (outQ (qex (fun _ _=>false) bits (bif s.1 then some s.2 else none) r))) ?_ ?_ (false,pq0) FU (fun _=>rfl) (qcq (by omega))
 · exact key
 · rintro⟨e,q⟩ nx h
   rw[<-hlen]
   unfold qcc
   simp only[Int.lt_irrefl,decide_false,cond_f]
   cases e with
   |false=>rw[show q=pq0 from h rfl];rfl
   |true=>rfl
 · rintro i x r ⟨e,q⟩ nx g1 g2 g3 g4 h h5
   have ga:(F.map Pq.av)[i]?=some x.av:=by rw[List.getElem?_map,g2];rfl
   have h6:(i:Int)<((F.map Pq.av).length:Int):=by omega
   obtain⟨w0,w1,w2,w3⟩:=av_w x
   unfold qcc
   simp only[h6,decide_true,cond_t,ixB_nat,ga,oB_s,qbqb,w0,w1,w2,w3,g4]
   rw[qqh];unfold qcy
   rw[qbaq];unfold qlm
   rw[qvi]
   cases hb:decide (x.bits<=bits)with
   |false=>simp only[cond_f,Bool.false_and];exact h5 (e,q) h
   |true=>
    cases e with
    |false=>simp only[Bool.not_false,cond_t,cond_f,Bool.true_and,betQ];exact h5 (true,x) (fun h=>by cases h)
    |true=>
     simp only[Bool.not_true,cond_t,cond_f,Bool.true_and,betQ,oB_s]
     exact h5 (true,q) (fun h=>by cases h)
theorem q5j (F:List Pq)(hF:F.length<=1000000000)(bits:Int):qfo (F.map Pq.av) bits=some (outQ (qex (fun a b=>decide (a>b)) bits none F)):=by
 rw[qto];unfold qdp
 rw[qq0]
 have hlen:(F.map Pq.av).length=F.length:=List.length_map _
 have key:=qcj (σ:=Bool×Pq) F (by omega) (fun n i s=>qcb bits (F.map Pq.av) ((F.map Pq.av).length:Int) false 0 0 0 (fun v b0 b1 b2 b3=>some ((.agg [(.bool b0),(.int .u64 b1),(.int .u64 b2),(.int .i64 b3)]),v)) n s.1 i s.2.v s.2.hi s.2.lo s.2.bits)
  (fun i s nx=>qca bits s.1 (F.map Pq.av) ((F.map Pq.av).length:Int) i false 0 0 0 s.2.v s.2.hi s.2.lo s.2.bits (fun e i v hi lo b=>nx i (e,⟨v,hi,lo,b⟩)) (fun v b0 b1 b2 b3=>some ((.agg [(.bool b0),(.int .u64 b1),(.int .u64 b2),(.int .i64 b3)]),v))) (fun _ _ _=>rfl)
  (fun _ s=>s.1=false->s.2=pq0) (fun r s=>some (outQ (qex (fun a b=>decide (a>b)) bits (bif s.1 then some s.2 else none) r))) ?_ ?_ (false,pq0) FU (fun _=>rfl) (qcq (by omega))
 · exact key
 · rintro⟨e,q⟩ nx h
   rw[<-hlen]
   unfold qca
   simp only[Int.lt_irrefl,decide_false,cond_f]
   cases e with
   |false=>rw[show q=pq0 from h rfl];rfl
   |true=>rfl
 · rintro i x r ⟨e,q⟩ nx g1 g2 g3 g4 h h5
   have ga:(F.map Pq.av)[i]?=some x.av:=by rw[List.getElem?_map,g2];rfl
   have h6:(i:Int)<((F.map Pq.av).length:Int):=by omega
   obtain⟨w0,w1,w2,w3⟩:=av_w x
   unfold qca
   simp only[h6,decide_true,cond_t,ixB_nat,ga,oB_s,qbqb,w0,w1,w2,w3,g4]
   rw[qqf];unfold qcx
   rw[qbap];unfold qll
   rw[qvi]
   cases hb:decide (x.bits<=bits)with
   |false=>simp only[cond_f,Bool.false_and];exact h5 (e,q) h
   |true=>
    cases e with
    |false=>simp only[Bool.not_false,cond_t,cond_f,Bool.true_and,betQ];exact h5 (true,x) (fun h=>by cases h)
    |true=>
     simp only[Bool.not_true,cond_t,cond_f,Bool.true_and,betQ,oB_s]
     by_cases hc:x.bits>q.bits
     · simp only[hc,decide_true,cond_t];exact h5 (true,x) (fun h=>by cases h)
     · simp only[hc,decide_false,cond_f];exact h5 (true,q) (fun h=>by cases h)
theorem q5k (F:List Pq)(hF:F.length<=1000000000)(bits:Int):qfn (F.map Pq.av) bits=some (outQ (qex (fun a b=>decide (a<b)) bits none F)):=by
 rw[qtn];unfold qdo
 rw[qqy]
 have hlen:(F.map Pq.av).length=F.length:=List.length_map _
 have key:=qcj (σ:=Bool×Pq) F (by omega) (fun n i s=>qb9 bits (F.map Pq.av) ((F.map Pq.av).length:Int) false 0 0 0 (fun v b0 b1 b2 b3=>some ((.agg [(.bool b0),(.int .u64 b1),(.int .u64 b2),(.int .i64 b3)]),v)) n s.1 i s.2.v s.2.hi s.2.lo s.2.bits)
  (fun i s nx=>qb8 bits s.1 (F.map Pq.av) ((F.map Pq.av).length:Int) i false 0 0 0 s.2.v s.2.hi s.2.lo s.2.bits (fun e i v hi lo b=>nx i (e,⟨v,hi,lo,b⟩)) (fun v b0 b1 b2 b3=>some ((.agg [(.bool b0),(.int .u64 b1),(.int .u64 b2),(.int .i64 b3)]),v))) (fun _ _ _=>rfl)
  (fun _ s=>s.1=false->s.2=pq0) (fun r s=>some (outQ (qex (fun a b=>decide (a<b)) bits (bif s.1 then some s.2 else none) r))) ?_ ?_ (false,pq0) FU (fun _=>rfl) (qcq (by omega))
 · exact key
 · rintro⟨e,q⟩ nx h
   rw[<-hlen]
   unfold qb8
   simp only[Int.lt_irrefl,decide_false,cond_f]
   cases e with
   |false=>rw[show q=pq0 from h rfl];rfl
   |true=>rfl
 · rintro i x r ⟨e,q⟩ nx g1 g2 g3 g4 h h5
   have ga:(F.map Pq.av)[i]?=some x.av:=by rw[List.getElem?_map,g2];rfl
   have h6:(i:Int)<((F.map Pq.av).length:Int):=by omega
   obtain⟨w0,w1,w2,w3⟩:=av_w x
   unfold qb8
   simp only[h6,decide_true,cond_t,ixB_nat,ga,oB_s,qbqb,w0,w1,w2,w3,g4]
   rw[qqd];unfold qcw
   rw[qbao];unfold qlk
   rw[qvi]
   cases hb:decide (x.bits<=bits)with
   |false=>simp only[cond_f,Bool.false_and];exact h5 (e,q) h
   |true=>
    cases e with
    |false=>simp only[Bool.not_false,cond_t,cond_f,Bool.true_and,betQ];exact h5 (true,x) (fun h=>by cases h)
    |true=>
     simp only[Bool.not_true,cond_t,cond_f,Bool.true_and,betQ,oB_s]
     by_cases hc:x.bits<q.bits
     · simp only[hc,decide_true,cond_t];exact h5 (true,x) (fun h=>by cases h)
     · simp only[hc,decide_false,cond_f];exact h5 (true,q) (fun h=>by cases h)
theorem qbrw (F:List Pq)(hF:F.length<=1000000000)(bits sign:Int)(better:Int->Int->Bool)(hg:∀q,q∈F->0<=q.bits/\q.bits<=128)(hb:∀a b:Int,0<=a/\a<=128->0<=b/\b<=128->decide (IntKind.i64.wrap (IntKind.i64.wrap (a-b)*sign)>0)=better a b):
 qk9 (F.map Pq.av) bits sign=some (outQ (qex better bits none F)):=by
 rw[qbkt];unfold qpu
 rw[q9g]
 have hlen:(F.map Pq.av).length=F.length:=List.length_map _
 have key:=qcj (σ:=Bool×Pq) F (by omega) (fun n i s=>qg1 (F.map Pq.av) bits sign false 0 0 0 (fun v b0 b1 b2 b3=>some ((.agg [(.bool b0),(.int .u64 b1),(.int .u64 b2),(.int .i64 b3)]),v)) n s.1 i s.2.v s.2.hi s.2.lo s.2.bits)
  (fun i s nx=>qg0 (F.map Pq.av) bits sign s.1 i false 0 0 0 s.2.v s.2.hi s.2.lo s.2.bits (fun e i v hi lo b=>nx i (e,⟨v,hi,lo,b⟩)) (fun v b0 b1 b2 b3=>some ((.agg [(.bool b0),(.int .u64 b1),(.int .u64 b2),(.int .i64 b3)]),v))) (fun _ _ _=>rfl)
  (fun _ s=>(s.1=false->s.2=pq0)/\(s.1=true->0<=s.2.bits/\s.2.bits<=128)) (fun r s=>some (outQ (qex better bits (bif s.1 then some s.2 else none) r))) ?_ ?_ (false,pq0) FU ⟨fun _=>rfl,fun h=>by cases h⟩ (qcq (by omega))
 · exact key
 · rintro⟨e,q⟩ nx ⟨h,_⟩
   rw[<-hlen]
   unfold qg0
   simp only[Int.lt_irrefl,decide_false,cond_f]
   cases e with
   |false=>rw[show q=pq0 from h rfl];rfl
   |true=>rfl
 · rintro i x r ⟨e,q⟩ nx g1 g2 g3 g4 ⟨h,h'⟩ h5
   have ga:(F.map Pq.av)[i]?=some x.av:=by rw[List.getElem?_map,g2];rfl
   have h6:(i:Int)<((F.map Pq.av).length:Int):=by omega
   obtain⟨w0,w1,w2,w3⟩:=av_w x
   have hx:=hg x (List.mem_of_getElem? g2)
   unfold qg0
   simp only[h6,decide_true,cond_t]
   rw[q9f];unfold qkw
   simp only[ixB_nat,ga,oB_s,qbqb,cond_t,w0,w1,w2,w3,g4]
   rw[qvi]
   have n1:=h5 (true,x) ⟨fun h=>(by cases h),fun _=>hx⟩
   have n2:=h5 (e,q) ⟨h,h'⟩
   cases hd:decide (x.bits<=bits)with
   |false=>simp only[cond_f,Bool.false_and];exact n2
   |true=>
    cases e with
    |false=>simp only[Bool.not_false,cond_t,cond_f,Bool.true_and,betQ];exact n1
    |true=>
     simp only[Bool.not_true,cond_t,cond_f,Bool.true_and,betQ]
     rw[hb x.bits q.bits hx (h' rfl)]
     cases hc:better x.bits q.bits with
     |true=>exact n1
     |false=>exact n2
def frQ (l:LA)(p:Pq):List Pq:=qdi (qng l p) (p.np.k+1) p
def qfs (policy:Int)(a b:Int):Bool:=bif policy==1 then false else bif policy==2 then decide (a>b)else decide (a<b)
def qib (policy bits:Int)(q:Pq):Pq:=bif(policy==3&&decide (q.bits<bits))then q.high else q
def qvj (p:Pq)(bits policy:Int):Bool:=decide (bits<p.bits)||((decide (bits>qi p.v)||decide (policy<1))||decide (policy>3))
def qbi4 (l:LA)(p:Pq)(bits policy:Int):AV×Int:=match qex (qfs policy) bits none (frQ l p)with
 |none=>(qoe,22)
 |some q=>(mkP (qib policy bits q).v (qib policy bits q).hi (qib policy bits q).lo bits,0)
def qd0 (l:LA)(p:Pq)(bits policy:Int):AV×Int:=match l.find? (atP p.v p.hi p.lo p.bits)with
 |none=>(qoe,11)
 |some y=>bif gI y.cells 4 != 1 then(qoe,21)else bif qvj p bits policy then(qoe,1)else qbi4 l p bits policy
theorem q60 {l:LA}(hg:qea l)(p:Pq):qea (qng l p):=fun y hy=>hg y (List.mem_filter.1 hy).1
theorem qbwx {l:LA}(hg:qea l){p:Pq}(hp:p.good){q:Pq}(hq:q∈frQ l p):q.good/\q.np.sub p.np:=by
 obtain⟨a,b,_⟩:=qbc4 (q60 hg p) _ p hp q hq
 exact⟨a,b⟩
theorem qbyq {l:LA}(hg:qea l)(hn:l.length<=1000){p:Pq}(hp:p.good):(frQ l p).length<=200001:=
 qbnf (q60 hg p) (Nat.le_trans (List.length_filter_le _ _) hn) (by have:=hp.range.2.2.2;omega) hp
theorem qbyr {s:Pq}(hs:s.good){n:Int}(h1:s.bits<=n)(h2:n<=qi s.v):qkg s.v s.hi s.lo s.bits n=true:=by
 unfold qkg
 rw[hs.1];simp[h1,h2]
theorem qbi5 {q:Pq}(hq:q.good){n:Int}(h1:q.bits<n)(h2:n<=qi q.v):q.half=true:=by
 refine(Pq.half_iff hq).2 ?_
 obtain⟨_,_,a3,_⟩:=hq.range
 omega
theorem qbc5 {q:Pq}(hq:q.good){policy bits:Int}(h1:q.bits<=bits)(h2:bits<=qi q.v):(qib policy bits q).good/\(qib policy bits q).bits<=bits/\(qib policy bits q).v=q.v:=by
 unfold qib
 cases hc:(policy==3&&decide (q.bits<bits))with
 |false=>exact⟨hq,h1,rfl⟩
 |true=>
  rw[Bool.and_eq_true,decide_eq_true_eq]at hc
  exact⟨Pq.high_good hq (qbi5 hq hc.2 h2),by show q.bits+1<=bits;omega,rfl⟩
noncomputable def qbzz (policy bits:Int)(x:AV):Option (AV×Int):=(bif((policy==(3:Int))&&(decide ((gI x.cells 3)<bits)))then(oB (qj0 (gB x.cells 0) (gI x.cells 1) (gI x.cells 2) (gI x.cells 3)) fun r16=>(oB (qec (gB r16.2.1.cells 0) (gI r16.2.1.cells 1) (gI r16.2.1.cells 2) (gI r16.2.1.cells 3) bits (0:Int)) fun r17=>(some ((.agg [(.bool (gB r17.1.cells 0)),(.int .u64 (gI r17.1.cells 1)),(.int .u64 (gI r17.1.cells 2)),(.int .i64 (gI r17.1.cells 3))]),(0:Int)))))else(oB (qec (gB x.cells 0) (gI x.cells 1) (gI x.cells 2) (gI x.cells 3) bits (0:Int)) fun r18=>(some ((.agg [(.bool (gB r18.1.cells 0)),(.int .u64 (gI r18.1.cells 1)),(.int .u64 (gI r18.1.cells 2)),(.int .i64 (gI r18.1.cells 3))]),(0:Int)))))
theorem qb50 {q:Pq}(hq:q.good){policy bits:Int}(h1:q.bits<=bits)(h2:bits<=qi q.v):qbzz policy bits q.av=some (mkP (qib policy bits q).v (qib policy bits q).hi (qib policy bits q).lo bits,0):=by
 unfold qbzz
 obtain⟨w0,w1,w2,w3⟩:=av_w q
 rw[w0,w1,w2,w3]
 obtain⟨sg,sb,sv⟩:=qbc5 (policy:=policy) hq h1 h2
 have sp:=qbyr sg sb (by rw[sv];exact h2)
 unfold qib at*
 by_cases hp3:policy=3
 · by_cases hlt:q.bits<bits
   · have hh:=qbi5 hq hlt h2
     have c:(policy==3&&decide (q.bits<bits))=true:=by simp[hp3,hlt]
     rw[c]at sg sp⊢
     simp only[cond_t]at sg sp⊢
     rw[qbtf _ _ _ _ hq.2.1 hq.2.2]
     have hv:qqs q.v q.hi q.lo q.bits=(q.low.av,q.high.av,true):=by
      unfold qqs
      rw[show qkh q.v q.hi q.lo q.bits=true from hh];rfl
     rw[hv]
     simp only[oB_s]
     obtain⟨z0,z1,z2,z3⟩:=av_w q.high
     rw[z0,z1,z2,z3,qbc2 sg.2.1 sg.2.2,sp]
     rfl
   · have c:(policy==3&&decide (q.bits<bits))=false:=by simp[hlt]
     rw[c]at sg sp⊢
     simp only[cond_f]at sg sp⊢
     rw[qbc2 hq.2.1 hq.2.2,sp];rfl
 · have c:(policy==3&&decide (q.bits<bits))=false:=by simp[hp3]
   rw[c]at sg sp⊢
   simp only[cond_f]at sg sp⊢
   rw[qbc2 hq.2.1 hq.2.2,sp];rfl
theorem qb3m (l:LA)(hl:qq l)(hg:qea l)(hn:l.length<=1000)(p:Pq)(bits policy:Int):qxs l p.v p.hi p.lo p.bits bits policy=some (qd0 l p bits policy):=by
 rw[qbf3];unfold qns qd0
 rw[qbyk l hl,oB_s]
 cases hf:l.find? (atP p.v p.hi p.lo p.bits)with
 |none=>rw[qbp7 hf];rfl
 |some y=>
  rw[qbp6 hl hf]
  obtain⟨hp,_⟩:=q1q hg hf
  simp only[Bool.not_true,cond_f]
  cases hk:gI y.cells 4 != 1 with
  |true=>rfl
  |false=>
   simp only[cond_f]
   have hlen:qxo p.v p.hi p.lo p.bits=some (qi p.v):=by
    rw[qbfw];unfold qnr qi
    cases p.v<;>rfl
   rw[hlen]
   simp only[oB_s]
   cases hb:qvj p bits policy with
   |true=>
    unfold qvj at hb
    by_cases h1:bits<p.bits
    · simp only[h1,decide_true,cond_t];rfl
    · simp only[h1,decide_false,cond_f,Bool.false_or]at hb⊢
      rw[hb];rfl
   |false=>
    unfold qvj at hb
    by_cases h1:bits<p.bits
    · simp[h1]at hb
    · simp only[h1,decide_false,cond_f,Bool.false_or]at hb⊢
      rw[hb]
      simp only[cond_f]
      simp only[Bool.or_eq_false_iff,decide_eq_false_iff_not]at hb
      obtain⟨⟨h2,h3⟩,h4⟩:=hb
      have hF:=qbyq hg hn hp
      have e1:q0e l p.v p.hi p.lo p.bits=some ((frQ l p).map Pq.av):=by
       rw[qb63 l hl hg hn p]
       unfold qbi2
       rw[hf]
       have:(gI y.cells 4==1)=true:=by simpa using hk
       simp only[this,cond_t];rfl
      rw[e1]
      simp only[oB_s]
      have fin:∀b:Int->Int->Bool,qfs policy=b->(bif(!(outQ (qex b bits none (frQ l p))).2)then(some (qoe,(22:Int)))else qbzz policy bits (outQ (qex b bits none (frQ l p))).1)=some (qbi4 l p bits policy):=by
       intro b hb
       unfold qbi4
       rw[hb]
       cases hq:qex b bits none (frQ l p)with
       |none=>rfl
       |some q=>
        rcases q6z hq with h|⟨h,h'⟩
        · cases h
        · obtain⟨qg,qs⟩:=qbwx hg hp h
          have hv:q.v=p.v:=qs.1
          simp only[outQ,Bool.not_true,cond_f]
          exact qb50 qg h' (by rw[hv];omega)
      have hpol:policy=1\/policy=2\/policy=3:=by omega
      rcases hpol with rfl|rfl|rfl
      · refine Eq.trans ?_ (fin (fun _ _=>false) (by funext a b;rfl))
        rw[q5i _ (by omega)];rfl
      · refine Eq.trans ?_ (fin (fun a b=>decide (a>b)) (by funext a b;rfl))
        rw[q5j _ (by omega)];rfl
      · refine Eq.trans ?_ (fin (fun a b=>decide (a<b)) (by funext a b;rfl))
        rw[q5k _ (by omega)];rfl
theorem qb51 {q:Pq}(hq:q.good){policy bits:Int}(h1:q.bits<=bits)(h2:bits<=qi q.v)(a:Bool)(b c d:Int):
 qlx bits policy a b c d (gB q.av.cells 0) (gI q.av.cells 1) (gI q.av.cells 2) (gI q.av.cells 3) (fun b1_0 b1_1 b1_2 b1_3=>(oB (qhk b1_0 b1_1 b1_2 b1_3 bits (0:Int)) fun r11=>(some ((.agg [(.bool (gB r11.1.cells 0)),(.int .u64 (gI r11.1.cells 1)),(.int .u64 (gI r11.1.cells 2)),(.int .i64 (gI r11.1.cells 3))]),(0:Int)))))=some (mkP (qib policy bits q).v (qib policy bits q).hi (qib policy bits q).lo bits,0):=by
 rw[q7o];unfold qjt
 obtain⟨w0,w1,w2,w3⟩:=av_w q
 rw[w0,w1,w2,w3]
 obtain⟨sg,sb,sv⟩:=qbc5 (policy:=policy) hq h1 h2
 have sp:=qbyr sg sb (by rw[sv];exact h2)
 unfold qib at*
 by_cases hp3:policy=3
 · by_cases hlt:q.bits<bits
   · have hh:=qbi5 hq hlt h2
     have c:(policy==3&&decide (q.bits<bits))=true:=by simp[hp3,hlt]
     rw[c]at sg sp⊢
     simp only[cond_t]at sg sp⊢
     rw[qbte _ _ _ _ hq.2.1 hq.2.2]
     have hv:qqs q.v q.hi q.lo q.bits=(q.low.av,q.high.av,true):=by
      unfold qqs
      rw[show qkh q.v q.hi q.lo q.bits=true from hh];rfl
     rw[hv]
     simp only[oB_s]
     obtain⟨z0,z1,z2,z3⟩:=av_w q.high
     rw[z0,z1,z2,z3,qbc1 sg.2.1 sg.2.2,sp]
     rfl
   · have c:(policy==3&&decide (q.bits<bits))=false:=by simp[hlt]
     rw[c]at sg sp⊢
     simp only[cond_f]at sg sp⊢
     rw[qbc1 hq.2.1 hq.2.2,sp];rfl
 · have c:(policy==3&&decide (q.bits<bits))=false:=by simp[hp3]
   rw[c]at sg sp⊢
   simp only[cond_f]at sg sp⊢
   rw[qbc1 hq.2.1 hq.2.2,sp];rfl
theorem qb67 (a b:Int)(ha:0<=a/\a<=128)(hb:0<=b/\b<=128):decide (IntKind.i64.wrap (IntKind.i64.wrap (a-b)*0)>0)=qfs 1 a b:=by
 rw[w64 (i:=a-b) (by omega) (by omega),w64 (by omega) (by omega)]
 have:¬((a-b)*0>0):=by omega
 simp only[this,decide_false];rfl
theorem qb68 (a b:Int)(ha:0<=a/\a<=128)(hb:0<=b/\b<=128):decide (IntKind.i64.wrap (IntKind.i64.wrap (a-b)*1)>0)=qfs 2 a b:=by
 rw[w64 (i:=a-b) (by omega) (by omega),w64 (by omega) (by omega)]
 show _=decide (a>b)
 by_cases h:a>b
 · have:(a-b)*1>0:=by omega
   simp only[this,h,decide_true]
 · have:¬((a-b)*1>0):=by omega
   simp only[this,h,decide_false]
theorem qb69 (a b:Int)(ha:0<=a/\a<=128)(hb:0<=b/\b<=128):decide (IntKind.i64.wrap (IntKind.i64.wrap (a-b)*(-1))>0)=qfs 3 a b:=by
 rw[w64 (i:=a-b) (by omega) (by omega),w64 (by omega) (by omega)]
 show _=decide (a<b)
 by_cases h:a<b
 · have:(a-b)*(-1)>0:=by omega
   simp only[this,h,decide_true]
 · have:¬((a-b)*(-1)>0):=by omega
   simp only[this,h,decide_false]
theorem qb3n {l:LA}(hg:qea l){p:Pq}(hp:p.good):∀q,q∈frQ l p->0<=q.bits/\q.bits<=128:=fun q hq=>by
 obtain⟨a1,a2,_⟩:=(qbwx hg hp hq).1.range
 have:=qfa q.v
 omega
theorem qb3o {l:LA}(hl:qq l)(hg:qea l)(hn:l.length<=1000){p:Pq}{y:AV}(hf:l.find? (atP p.v p.hi p.lo p.bits)=some y)(hk:(gI y.cells 4 != 1)=false):qv0 l p.v p.hi p.lo p.bits=some ((frQ l p).map Pq.av):=by
 rw[qb5x l hl hg hn p]
 unfold qbi2
 rw[hf]
 have:(gI y.cells 4==1)=true:=by simpa using hk
 simp only[this,cond_t];rfl
theorem qb1r (l:LA)(hl:qq l)(hg:qea l)(hn:l.length<=1000)(p:Pq)(bits policy:Int):qyd l p.v p.hi p.lo p.bits bits policy=some (qd0 l p bits policy):=by
 rw[qbha];unfold qn9 qd0
 rw[qbiz l hl,oB_s]
 cases hf:l.find? (atP p.v p.hi p.lo p.bits)with
 |none=>rw[qbp7 hf];rfl
 |some y=>
  rw[qbp6 hl hf]
  obtain⟨hp,_⟩:=q1q hg hf
  simp only[Bool.not_true,cond_f]
  cases hk:gI y.cells 4 != 1 with
  |true=>rfl
  |false=>
   simp only[cond_f]
   have hlen:qya p.v p.hi p.lo p.bits=some (qi p.v):=by
    rw[qbg4];unfold qn7 qi
    cases p.v<;>rfl
   rw[q9d];unfold qku
   rw[hlen]
   have e0:(bif decide (bits>=p.bits)then(oB (some (qi p.v)) fun r1=>some (decide (bits<=r1)))else some false)=some (decide (bits>=p.bits)&&decide (bits<=qi p.v)):=by
    by_cases h:bits>=p.bits
    · simp only[h,decide_true,cond_t,oB_s,Bool.true_and]
    · simp only[h,decide_false,cond_f,Bool.false_and]
   rw[e0]
   simp only[oB_s]
   have e1:(((!(decide (bits>=p.bits)&&decide (bits<=qi p.v)))||decide (policy<1))||decide (policy>3))=qvj p bits policy:=by
    unfold qvj
    by_cases a:bits<p.bits
    · have:¬bits>=p.bits:=by omega
      simp[a,this]
    · have:bits>=p.bits:=by omega
      by_cases b:bits>qi p.v
      · have hb:¬bits<=qi p.v:=by omega
        simp[a,b,this,hb]
      · have hb:bits<=qi p.v:=by omega
        simp[a,b,this,hb]
   rw[e1]
   cases hb:qvj p bits policy with
   |true=>rfl
   |false=>
    simp only[cond_f]
    unfold qvj at hb
    simp only[Bool.or_eq_false_iff,decide_eq_false_iff_not]at hb
    obtain⟨h1,⟨h2,h3⟩,h4⟩:=hb
    have hF:=qbyq hg hn hp
    have fin:(bif(!(outQ (qex (qfs policy) bits none (frQ l p))).2)then(some (qoe,(22:Int)))else qlx bits policy false 0 0 0 (gB (outQ (qex (qfs policy) bits none (frQ l p))).1.cells 0) (gI (outQ (qex (qfs policy) bits none (frQ l p))).1.cells 1) (gI (outQ (qex (qfs policy) bits none (frQ l p))).1.cells 2) (gI (outQ (qex (qfs policy) bits none (frQ l p))).1.cells 3) (fun b1_0 b1_1 b1_2 b1_3=>(oB (qhk b1_0 b1_1 b1_2 b1_3 bits (0:Int)) fun r11=>(some ((.agg [(.bool (gB r11.1.cells 0)),(.int .u64 (gI r11.1.cells 1)),(.int .u64 (gI r11.1.cells 2)),(.int .i64 (gI r11.1.cells 3))]),(0:Int))))))=some (qbi4 l p bits policy):=by
     unfold qbi4
     cases hq:qex (qfs policy) bits none (frQ l p)with
     |none=>rfl
     |some q=>
      rcases q6z hq with h|⟨h,h'⟩
      · cases h
      · obtain⟨qg,qs⟩:=qbwx hg hp h
        have hv:q.v=p.v:=qs.1
        simp only[outQ,Bool.not_true,cond_f]
        exact qb51 qg h' (by rw[hv];omega) _ _ _ _
    have hb:=qb3n hg hp
    have hpol:policy=1\/policy=2\/policy=3:=by omega
    rw[q7k];unfold qjr
    simp only[q7m];unfold qjs
    rw[qb3o hl hg hn hf hk]
    rcases hpol with rfl|rfl|rfl
    · refine Eq.trans ?_ fin
      show(oB (qk9 ((frQ l p).map Pq.av) bits 0) fun r6=>_)=_
      rw[qbrw _ (by omega) bits 0 (qfs 1) hb qb67];rfl
    · refine Eq.trans ?_ fin
      show(oB (qk9 ((frQ l p).map Pq.av) bits 1) fun r6=>_)=_
      rw[qbrw _ (by omega) bits 1 (qfs 2) hb qb68];rfl
    · refine Eq.trans ?_ fin
      show(oB (qk9 ((frQ l p).map Pq.av) bits (-1)) fun r6=>_)=_
      rw[qbrw _ (by omega) bits (-1) (qfs 3) hb qb69];rfl
structure Chosen (l:LA)(p q:Pq)(bits:Int):Prop where
 good:q.good
 bits:q.bits=bits
 sub:q.np.sub p.np
 pg:p.good
 free:∀d,d∈qng l p->ovP (pqY d) q=false
theorem qyw {l:LA}(hg:qea l)(p:Pq)(bits policy:Int):(∃e,qd0 l p bits policy=(qoe,e)/\e≠0)\/∃q,qd0 l p bits policy=(q.av,0)/\Chosen l p q bits:=by
 unfold qd0
 cases hf:l.find? (atP p.v p.hi p.lo p.bits)with
 |none=>exact .inl ⟨11,rfl,by decide⟩
 |some y=>
  obtain⟨hp,_⟩:=q1q hg hf
  simp only
  cases hk:gI y.cells 4 != 1 with
  |true=>exact .inl ⟨21,rfl,by decide⟩
  |false=>
   simp only[cond_f]
   cases hb:qvj p bits policy with
   |true=>exact .inl ⟨1,rfl,by decide⟩
   |false=>
    simp only[cond_f]
    unfold qvj at hb
    simp only[Bool.or_eq_false_iff,decide_eq_false_iff_not]at hb
    obtain⟨h1,⟨h2,h3⟩,h4⟩:=hb
    unfold qbi4
    cases hq:qex (qfs policy) bits none (frQ l p)with
    |none=>exact .inl ⟨22,rfl,by decide⟩
    |some q=>
     rcases q6z hq with h|⟨h,h'⟩
     · cases h
     · obtain⟨qg,qs,qf⟩:=qbc4 (q60 hg p) _ p hp q h
       have hv:q.v=p.v:=qs.1
       obtain⟨sg,sb,sv⟩:=qbc5 (policy:=policy) qg h' (by rw[hv];omega)
       have ss:(qib policy bits q).np.sub q.np:=by
        unfold qib
        cases hc:(policy==3&&decide (q.bits<bits))with
        |false=>exact Np.sub_refl qg.np_ok
        |true=>
         rw[Bool.and_eq_true,decide_eq_true_eq]at hc
         exact(qbwv qg (qbi5 qg hc.2 (by rw[hv];omega))).2.1
       simp only
       generalize qib policy bits q=s at*
       obtain⟨b1,b2,b3,b4⟩:=sg.range
       have hkk:kOf s.v bits<=s.np.k:=by
        show kOf s.v bits<=kOf s.v s.bits
        unfold kOf;omega
       have gq:(⟨s.v,s.hi,s.lo,bits⟩:Pq).good:=by
        refine⟨(qyt sg.2.1 sg.2.2).2 ⟨(qd7 sg.1).2.2,by show 0<=bits;omega,by show bits<=qi s.v;rw[sv,hv];omega,?_⟩,sg.2⟩
        exact Nat.mod_eq_zero_of_dvd (Nat.dvd_trans (qbi0 hkk) (Nat.dvd_of_mod_eq_zero sg.np_ok))
       have gs:(⟨s.v,s.hi,s.lo,bits⟩:Pq).np.sub s.np:=⟨rfl,hkk,by
        have:=sg.np_ok
        unfold Np.ok at this
        show s.np.n-s.np.n%2^s.np.k=s.np.n
        rw[this];rfl⟩
       refine .inr ⟨⟨s.v,s.hi,s.lo,bits⟩,rfl,gq,rfl,Np.sub_trans gs (Np.sub_trans ss qs),hp,fun d hd=> ?_⟩
       cases ho:ovP (pqY d) ⟨s.v,s.hi,s.lo,bits⟩with
       |false=>rfl
       |true=>
        have:=qbii qg gq (q60 hg p d hd) (Np.sub_trans gs ss) ho
        rw[qf d hd]at this;cases this
def qic (l:LA)(p:Pq)(bits policy:Int)(nm ow:LU):List AV×AV×Int:=
 bif(qd0 l p bits policy).2 != 0 then([],qoe,(qd0 l p bits policy).2)else
 bif(addF l (mkB (gB (qd0 l p bits policy).1.cells 0) (gI (qd0 l p bits policy).1.cells 1) (gI (qd0 l p bits policy).1.cells 2) (gI (qd0 l p bits policy).1.cells 3) 2 nm ow 0)).2 != 0 then([],qoe,(addF l (mkB (gB (qd0 l p bits policy).1.cells 0) (gI (qd0 l p bits policy).1.cells 1) (gI (qd0 l p bits policy).1.cells 2) (gI (qd0 l p bits policy).1.cells 3) 2 nm ow 0)).2)
 else((addF l (mkB (gB (qd0 l p bits policy).1.cells 0) (gI (qd0 l p bits policy).1.cells 1) (gI (qd0 l p bits policy).1.cells 2) (gI (qd0 l p bits policy).1.cells 3) 2 nm ow 0)).1,(qd0 l p bits policy).1,0)
theorem qbi6 {q:Pq}(hq:q.good){nm ow:LU}(h1:nm.length<=9223372036854775807)(h2:ow.length<=9223372036854775807):qlh (mkB q.v q.hi q.lo q.bits 2 nm ow 0):=
 ⟨rfl,hq.2.1,hq.2.2,by show nm.length<=_;omega,by show ow.length<=_;omega⟩
theorem qbz0 (l:LA)(hl:qq l)(ht:qcz l)(hn:l.length<=1000)(p:Pq)(bits policy:Int)(nm ow:LU)(h1:nm.length<=9223372036854775807)(h2:ow.length<=9223372036854775807):
 qnt l p.v p.hi p.lo p.bits bits policy nm ow=some (qic l p bits policy nm ow):=by
 have hg:=qp6 hl ht
 rw[qbar];unfold qln qic
 rw[qb3m l hl hg hn]
 simp only[oB_s]
 rcases qyw hg p bits policy with⟨e,he,hne⟩|⟨q,hq,hc⟩
 · rw[he]
   have:(e != 0)=true:=by simpa using hne
   simp only[this,cond_t];rfl
 · rw[hq]
   obtain⟨w0,w1,w2,w3⟩:=av_w q
   simp only[bne_self_eq_false,cond_f,w0,w1,w2,w3]
   rw[qb4n l hl (by omega) ht q.v q.hi q.lo q.bits 2 nm ow 0 (qbi6 hc.good h1 h2)]
   simp only[oB_s]
   cases(addF l (mkB q.v q.hi q.lo q.bits 2 nm ow 0)).2 != 0<;>rfl
theorem qbxx (l:LA)(hl:qq l)(ht:qcz l)(hn:l.length<=1000)(p:Pq)(bits policy:Int)(nm ow:LU)(h1:nm.length<=9223372036854775807)(h2:ow.length<=9223372036854775807):
 quv l p.v p.hi p.lo p.bits bits policy nm ow=some (qic l p bits policy nm ow):=by
 have hg:=qp6 hl ht
 rw[qbbs];unfold qly qic
 rw[qb1r l hl hg hn]
 simp only[oB_s]
 rcases qyw hg p bits policy with⟨e,he,hne⟩|⟨q,hq,hc⟩
 · rw[he]
   have:(e != 0)=true:=by simpa using hne
   simp only[this,cond_t];rfl
 · rw[hq]
   obtain⟨w0,w1,w2,w3⟩:=av_w q
   simp only[bne_self_eq_false,cond_f,w0,w1,w2,w3]
   rw[qbwn l hl (by omega) q.v q.hi q.lo q.bits 2 nm ow 0 (qbi6 hc.good h1 h2)]
   simp only[oB_s]
   cases(addF l (mkB q.v q.hi q.lo q.bits 2 nm ow 0)).2 != 0<;>rfl
theorem qb3p {l:LA}{b:AV}:(addF l b).1=[]\/(addF l b).1=insF b l:=by
 unfold addF
 cases !qod b with
 |true=>exact .inl rfl
 |false=>
 cases !mayB b with
 |true=>exact .inl rfl
 |false=>
 cases l.any (atP (gB b.cells 0) (gI b.cells 1) (gI b.cells 2) (gI b.cells 3))with
 |true=>exact .inl rfl
 |false=>
 cases(l.any (qbi b)||occF l (gB b.cells 0) (gI b.cells 1) (gI b.cells 2) (gI b.cells 3))with
 |true=>exact .inl rfl
 |false=>
 cases decide ((l.length:Int)>=512)with
 |true=>exact .inl rfl
 |false=>exact .inr rfl
def labC (c:UInt8):Bool:=(decide (97<=c.toNat)&&decide (c.toNat<=122))||(decide (48<=c.toNat)&&decide (c.toNat<=57))||c.toNat==45||c.toNat==95
def q61 (x:LU):Bool:=x==[42]||(decide (1<=x.length)&&decide (x.length<=63)&&x.all labC)
theorem qb1s (x:LU)(hx:x.length<=9223372036854775807):qv9 x=some (q61 x):=by
 rw[qbef]
 unfold qms
 rw[q5x,qeg x hx (qff x fun _=>some true) (fun i nx=>qfe x i nx fun _=>some true) (fun _ _=>rfl) (fun r=>some (r.all labC))]
 · unfold q61
   by_cases h1:x=[42]
   · simp[h1]
   · have e1:(x==[42])=false:=by simpa using h1
     rw[e1]
     by_cases h2:x.length<1
     · have:x.length=0:=by omega
       simp[this]
     · by_cases h3:63<x.length
       · have e:¬x.length<=63:=by omega
         have e':(63:Int)<(x.length:Int):=by omega
         simp[e,e']
       · have a1:¬((x.length:Int)<1):=by omega
         have a2:¬((63:Int)<(x.length:Int)):=by omega
         have a3:1<=x.length:=by omega
         have a4:x.length<=63:=by omega
         simp[a1,a2,a3,a4]
 · intro nx;simp[qfe]
 · intro i a r nx h1 h2 h3 h4 h5
   have h6:(i:Int)<(x.length:Int):=by omega
   have key:∀kn:Bool->Option Bool,qpl x i (a.toNat:Int) kn=kn (!labC a):=by
    intro kn
    have co:∀(p a b:Bool),(bif p then kn a else kn b)=kn (bif p then a else b):=by intro p;cases p<;>intros<;>rfl
    rw[q5w]
    unfold qiu labC
    simp only[co]
    have fin:∀n:Fin 256,(bif(decide ((n.val:Int)>=(97:Int)))&&(decide ((n.val:Int)<=(122:Int)))then false else(bif(decide ((n.val:Int)>=(48:Int)))then(!(((decide ((n.val:Int)<=(57:Int)))||((n.val:Int)==(45:Int)))||((n.val:Int)==(95:Int))))else(!(((n.val:Int)==(45:Int))||((n.val:Int)==(95:Int))))))=
     !((decide (97<=n.val)&&decide (n.val<=122))||(decide (48<=n.val)&&decide (n.val<=57))||n.val==45||n.val==95):=by decide+kernel
    exact congrArg kn (fin ⟨a.toNat,a.toNat_lt⟩)
   unfold qfe
   simp only[h6,decide_true,cond_t,ixB_nat,h2,oB_s,key,h4]
   cases h7:labC a
   · simp[h7]
   · simp only[Bool.not_true,cond_t,cond_f,h5,List.all_cons,h7,Bool.true_and]
def spl:List UInt8->List UInt8->List (List UInt8)
 |_,[]=>[]
 |cur,c::r=>if c=46 then cur::spl [] r else spl (cur++[c]) r
def qos (x:LU):Bool:=decide (2<=x.length)&&decide (x.length<=254)&&x.getLast? ==some 46
def qot:Bool->List (List UInt8)->Bool
 |_,[]=>true
 |f,l::ls=>q61 l&&(f|| !(l==[42]))&&qot false ls
def qjd (x:LU):List (List UInt8)×Bool:=
 if x=[46]then([],true)else if qos x=true/\qot true (spl [] x)=true then(spl [] x,true)else([],false)
def qbd (x:LU):Bool:=(qjd x).2
def avS (l:List (List UInt8)):List AV:=l.map AV.str
theorem qbrx:∀(r cur:LU),(spl cur r).length<=r.length
 |[],_=>by simp[spl]
 |c::r,cur=>by
  unfold spl;split
  · have:=qbrx r [];simp;omega
  · have:=qbrx r (cur++[c]);simp;omega
theorem qb3q (x:LU)(hx:x.length<=254)(kx:List AV->Option (List AV×Bool)):
 qst x kx FU 0 0 []=if qot true (spl [] x)=true then kx (avS (spl [] x))else some ([],false):=by
 rw[q8x]
 let S:(Int×Int×List AV)->Option (List AV×Bool):=fun s=>
  if qot (decide (s.1=0)) (spl ((x.take s.2.1.toNat).drop s.1.toNat) (x.drop s.2.1.toNat))=true then kx (s.2.2++avS (spl ((x.take s.2.1.toNat).drop s.1.toNat) (x.drop s.2.1.toNat)))else some ([],false)
 have key:=qbix (fun n (s:Int×Int×List AV)=>qgs x kx n s.1 s.2.1 s.2.2) (fun s nx=>qgr x s.1 s.2.1 s.2.2 (fun a b c=>nx (a,b,c)) kx) (fun _ _=>rfl)
  (fun s=>0<=s.1/\s.1<=s.2.1/\s.2.1<=x.length/\s.2.2.length<=s.2.1) (fun s=>(x.length-s.2.1).toNat) S ?_ FU (0,0,[]) (by simp) (qcq (by simp;omega))
 · have e:S (0,0,[])=if qot true (spl [] x)=true then kx (avS (spl [] x))else some ([],false):=by simp[S]
   rw[<-e];exact key
 · rintro⟨st,i,acc⟩ ⟨h0,h1,h2,h3⟩ nx hn
   simp only at h0 h1 h2 h3
   obtain⟨i,rfl⟩:∃j:Nat,i=j:=⟨i.toNat,by omega⟩
   obtain⟨st,rfl⟩:∃j:Nat,st=j:=⟨st.toNat,by omega⟩
   have hw:IntKind.i64.wrap ((i:Int)+1)=((i+1:Nat):Int):=w64 (by omega) (by omega)
   simp only[S,Int.toNat_natCast]
   by_cases hlt:i<x.length
   · have hd:x.drop i=x[i]::x.drop (i+1):=List.drop_eq_getElem_cons hlt
     have hi:x[i]?=some x[i]:=by simp[hlt]
     have ht:x.take (i+1)=x.take i++[x[i]]:=(List.take_append_getElem hlt).symm
     have hlt':(i:Int)<(x.length:Int):=by omega
     unfold qgr
     simp only[hlt',decide_true,cond_t,ixB_nat,hi,oB_s,hw]
     by_cases hc:x[i]=46
     · have hc':(((x[i]).toNat:Int) != 46)=false:=by rw[hc];rfl
       have hcut:cutI x (some (st:Int)) (some (i:Int))=some ((x.take i).drop st):=by
        simp only[cutI,Option.getD_some,Int.toNat_natCast]
        rw[if_pos ⟨by omega,by omega,by omega⟩]
       have hsl:((x.take i).drop st).length<=9223372036854775807:=by simp;omega
       simp only[hc',cond_f,hcut,oB_s,hd_self,Bool.and_true,cond_t,q8w,qkp,qb1s _ hsl]
       have hsz:(acc.length+1)*16<=140737488355328:=by omega
       have hnx:=hn (((i+1:Nat):Int),((i+1:Nat):Int),acc++[.str ((x.take i).drop st)]) ⟨by simp;omega,by simp,by simp;omega,by simp;omega⟩ (by simp;omega)
       simp only[S,Int.toNat_natCast]at hnx
       have hz:(x.take (i+1)).drop (i+1)=[]:=by simp
       rw[hz]at hnx
       have hne:decide (((i+1:Nat):Int)=0)=false:=by simp;omega
       rw[hne]at hnx
       rw[hd]
       simp only[spl,hc,if_true,qot]
       cases hl:q61 ((x.take i).drop st)
       · simp
       · by_cases hstar:(x.take i).drop st=[42]
         · rw[hstar]at hnx⊢
           by_cases h00:st=0
           · have e1:decide ((st:Int)>0)=false:=by simp;omega
             have e2:decide ((st:Int)=0)=true:=by simp;omega
             simp only[e1,e2,Bool.not_true,cond_f,cond_t,beq_self_eq_true,List.length_singleton,hsz,decide_true,Bool.true_or,Bool.and_true,Bool.true_and]
             rw[hnx]
             simp[avS,List.append_assoc]
           · have e1:decide ((st:Int)>0)=true:=by simp;omega
             have e2:decide ((st:Int)=0)=false:=by simp;omega
             have e3:0<st:=by omega
             simp[e1,e2,e3,h00]
         · have e1:((x.take i).drop st==[42])=false:=by simpa using hstar
           simp only[e1,Bool.not_true,cond_f,cond_t,Bool.not_false,Bool.or_true,Bool.and_true,Bool.true_and,List.length_singleton,hsz,decide_true]
           rw[hnx]
           simp[avS,List.append_assoc]
     · have hc':(((x[i]).toNat:Int) != 46)=true:=by
        have:(x[i]).toNat≠46:=fun h=>hc (by rw[<-UInt8.toNat_inj];exact h)
        simp;omega
       simp only[hc',cond_t]
       have hnx:=hn ((st:Int),((i+1:Nat):Int),acc) ⟨by simp,by simp;omega,by simp;omega,by simp;omega⟩ (by simp;omega)
       simp only[S,Int.toNat_natCast]at hnx
       rw[hnx,hd]
       simp only[spl,hc,if_false]
       have e:(x.take (i+1)).drop st=(x.take i).drop st++[x[i]]:=by
        rw[ht,List.drop_append_of_le_length (by simp;omega)]
       rw[e]
   · have:i=x.length:=by omega
     subst this
     unfold qgr
     simp[spl,qot,avS]
theorem q3s (x:LU)(hx:x.length<=9223372036854775807):qfu x=some (avS (qjd x).1,(qjd x).2):=by
 rw[qbkh]
 unfold qpm qjd
 by_cases h1:x=[46]
 · simp[h1,avS]
 · have e1:(x==[46])=false:=by simpa using h1
   rw[if_neg h1]
   simp only[e1,cond_f,q8u,qko,hd_self,Bool.and_true,cond_t]
   by_cases h2:2<=x.length/\x.length<=254
   · have a1:¬((x.length:Int)<2):=by omega
     have a2:¬((254:Int)<(x.length:Int)):=by omega
     have hw:IntKind.i64.wrap ((x.length:Int)-1)=((x.length-1:Nat):Int):=by rw[w64 (by omega) (by omega)];omega
     have hi:x[x.length-1]?=some (x[x.length-1]'(by omega)):=by simp<;>omega
     have hl:x.getLast? =some (x[x.length-1]'(by omega)):=by rw[List.getLast?_eq_getElem?,hi]
     simp only[a1,gt_iff_lt,a2,decide_false,Bool.or_false,cond_f,hw,ixB_nat,hi,oB_s]
     by_cases h3:x[x.length-1]'(by omega)=46
     · have h3':(((x[x.length-1]'(by omega)).toNat:Int) != 46)=false:=by rw[h3];rfl
       have hok:qos x=true:=by simp[qos,h2.1,h2.2,hl,h3]
       simp only[h3',cond_f]
       rw[qb3q x h2.2]
       by_cases h4:qot true (spl [] x)=true
       · simp[hok,h4]
       · simp[hok,h4,avS]
     · have h3':(((x[x.length-1]'(by omega)).toNat:Int) != 46)=true:=by
        have:(x[x.length-1]'(by omega)).toNat≠46:=fun h=>h3 (by rw[<-UInt8.toNat_inj];exact h)
        simp;omega
       have hok:qos x=false:=by simp[qos,hl,h3]
       simp only[h3',cond_t]
       simp[hok,avS]
   · have hok:qos x=false:=by
      unfold qos
      by_cases h:2<=x.length
      · have:¬x.length<=254:=fun h'=>h2 ⟨h,h'⟩
        simp[this]
      · simp[h]
     have a:(decide ((x.length:Int)<2)||decide ((x.length:Int)>254))=true:=by
      simp;omega
     simp only[a,cond_t]
     simp[hok,avS]
theorem qbil (x:LU)(hx:x.length<=9223372036854775807):qoj x=some (qbd x):=by
 rw[qbki]
 unfold qpn
 rw[q3s x hx];rfl
def qem:List UInt8->List UInt8->List (List UInt8)
 |cur,[]=>[cur]
 |cur,c::r=>if c=46 then cur::qem [] r else qem (cur++[c]) r
theorem q1r:∀(s cur:LU),(qem cur s).length=s.count 46+1
 |[],cur=>rfl
 |c::r,cur=>by
  unfold qem
  split
  · rename_i h;subst h;simp[q1r r]
  · rename_i h
    rw[q1r r,List.count_cons_of_ne (fun e=>h e)]
theorem qbqc:∀(s cur:LU),s.count 46=0->qem cur s=[cur++s]
 |[],cur,_=>by simp[qem]
 |c::r,cur,h=>by
  unfold qem
  split
  · rename_i h';subst h';simp at h
  · rename_i h'
    rw[List.count_cons_of_ne (fun e=>h' e)]at h
    rw[qbqc r _ h]
    simp
theorem qbqd:∀(s cur:LU),0<s.count 46->∃pre post,s=pre++46::post/\Lib.indexByte s 46=(pre.length:Int)/\qem cur s=(cur++pre)::qem [] post
 |[],cur,h=>by simp at h
 |c::r,cur,h=>by
  by_cases h':c=46
  · subst h'
    exact⟨[],r,rfl,by simp[Lib.indexByte],by simp[qem]⟩
  · rw[List.count_cons_of_ne (fun e=>h' e)]at h
    obtain⟨pre,post,h1,h2,h3⟩:=qbqd r (cur++[c]) h
    refine⟨c::pre,post,by simp[h1],?_,?_⟩
    · have hb:(c==46)=false:=by simpa using h'
      have hn:¬((Lib.indexByte r 46)= -1):=by omega
      unfold Lib.indexByte
      simp[hb,hn,h2]
    · show(if c=46 then cur::qem [] r else qem (cur++[c]) r)=_
      rw[if_neg h',h3]
      simp
theorem qb52 (s:LU):qvs s [46]=some (Lib.indexByte s 46):=by
 rw[qbl4];unfold qrl
 rw[qbat];unfold qlp
 rw[q34];unfold qht q3f
 by_cases h:([46]:List UInt8)=s
 · subst h;rfl
 · have hb:(([46]:List UInt8)==s)=false:=by simpa using h
   rw[hb]
   rfl
theorem qb53 (s:LU):q13 s [46]=some ((s.count 46:Nat):Int):=by
 rw[qbl5];unfold qrm q3e Lib.countByte
 rfl
theorem qb54 (pre post:LU):cutI (pre++46::post) none (some ((pre.length:Nat):Int))=some pre:=by
 unfold cutI
 simp only[Option.getD_none,Option.getD_some]
 rw[if_pos ⟨by omega,by omega,by simp;omega⟩]
 simp
theorem qb3r (pre post:LU):cutI (pre++46::post) (some ((pre.length+1:Nat):Int)) none=some post:=by
 unfold cutI
 simp only[Option.getD_none,Option.getD_some]
 rw[if_pos ⟨by omega,by simp;omega,by omega⟩]
 rw[Int.toNat_natCast,Int.toNat_natCast,List.take_length]
 rw[List.drop_append]
 simp
theorem qbys (s:LU)(hs:s.length<=1000000000):qvt s [46]=some ((qem [] s).map AV.str):=by
 rw[qbl6];unfold qrn
 rw[qbdz];unfold qmi
 have hc:s.count 46<=s.length:=List.count_le_length
 have w1:IntKind.i64.wrap (((s.count 46:Nat):Int)+1)=((s.count 46+1:Nat):Int):=w64 (by omega) (by omega)
 have w2:IntKind.i64.wrap ((s.length:Int)+1)=((s.length+1:Nat):Int):=w64 (by omega) (by omega)
 have hm:(if((s.length+1:Nat):Int)<((s.count 46+1:Nat):Int)then((s.length+1:Nat):Int)else((s.count 46+1:Nat):Int))=((s.count 46+1:Nat):Int):=if_neg (by omega)
 have hd1:decide (0<=((s.count 46+1:Nat):Int)/\((s.count 46+1:Nat):Int)<=((s.count 46+1:Nat):Int)/\((s.count 46+1:Nat):Int)*16<=281474976710656)=true:=decide_eq_true ⟨by omega,by omega,by omega⟩
 have w3:IntKind.i64.wrap (((s.count 46+1:Nat):Int)-1)=((s.count 46:Nat):Int):=by rw[w64 (by omega) (by omega)];omega
 have b1:(((-1:Int))==0)=false:=rfl
 have b2:(([46]:List UInt8)==([]:List UInt8))=false:=rfl
 have b3:decide ((-1:Int)<0)=true:=rfl
 simp only[b1,b2,cond_f,q5p,qis,b3,cond_t,qb53,oB_s,w1,w2,hm,hd1,hd_self,Bool.and_true,w3,Int.toNat_natCast]
 generalize hn:s.count 46=n at*
 rw[q5q]
 let kx:List UInt8->Int->List AV->Option (List AV):=fun v0 v10 a0=>(bif decide (0<=v10/\v10<a0.length)then(oB (a0[v10.toNat]?) fun y1=>(oB (putE y1 0 1 [(.str v0)]) fun z2=>(bif hd (a0.set v10.toNat z2) a0.length then(oB (cutI (a0.set v10.toNat z2) none (some (IntKind.i64.wrap (v10+1)))) fun s3=>(some s3))else none)))else none)
 have key:=qbix (fun k (q:List UInt8×Int×List AV)=>qdg [46] 0 (n:Int) kx k q.1 q.2.1 q.2.2)
  (fun q nx=>qfc q.1 [46] 0 (n:Int) q.2.1 q.2.2 (fun a b c=>nx (a,(b,c))) kx) (fun _ _=>rfl)
  (fun q=>∃dn:List (List UInt8),q.2.1=dn.length/\q.2.2=dn.map AV.str++List.replicate (n+1-dn.length) (AV.str [])/\dn.length<=n/\q.1.count 46=n-dn.length/\dn++qem [] q.1=qem [] s/\q.1.length<=1000000000)
  (fun q=>n-q.2.1.toNat) (fun q=>some ((qem [] s).map AV.str)) ?_ FU (s,(0,List.replicate (n+1) (AV.str []))) ⟨[],rfl,by simp,by simp,by simpa using hn,rfl,hs⟩ (qcq (by simp;omega))
 · have key':qdg [46] 0 (n:Int) kx FU s 0 (List.replicate (n+1) (AV.str []))=some ((qem [] s).map AV.str):=key
   show oB (qdg [46] 0 (n:Int) kx FU s 0 (List.replicate (n+1) (AV.str []))) _=_
   rw[key']
   rfl
 · rintro⟨v0,v10,a0⟩ ⟨dn,rfl,rfl,h1,h2,h3,h5⟩ nx hnx
   simp only at h1 h2 h3 h5
   show qfc v0 [46] 0 (n:Int) (dn.length:Int) (dn.map AV.str++List.replicate (n+1-dn.length) (AV.str [])) (fun a b c=>nx (a,(b,c))) kx=some ((qem [] s).map AV.str)
   have hlen:(dn.map AV.str++List.replicate (n+1-dn.length) (AV.str [])).length=n+1:=by simp;omega
   have hget:(dn.map AV.str++List.replicate (n+1-dn.length) (AV.str []))[dn.length]?=some (.str []):=by
    rw[List.getElem?_append_right (by simp)]
    simp only[List.length_map,Nat.sub_self]
    rw[List.getElem?_replicate,if_pos (by omega)]
   have hdec:decide (0<=(dn.length:Int)/\(dn.length:Int)<((dn.map AV.str++List.replicate (n+1-dn.length) (AV.str [])).length:Int))=true:=decide_eq_true ⟨by omega,by rw[hlen];omega⟩
   have hset:∀x,(dn.map AV.str++List.replicate (n+1-dn.length) (AV.str [])).set dn.length (.str x)=(dn++[x]).map AV.str++List.replicate (n+1-(dn.length+1)) (AV.str []):=by
    intro x
    rw[List.set_append_right _ _ (by simp)]
    simp only[List.length_map,Nat.sub_self]
    rw[show n+1-dn.length=(n+1-(dn.length+1))+1 by omega,List.replicate_succ]
    simp
   have hhd:∀x,hd ((dn.map AV.str++List.replicate (n+1-dn.length) (AV.str [])).set dn.length (.str x)) (dn.map AV.str++List.replicate (n+1-dn.length) (AV.str [])).length=true:=fun x=>by simp[hd]
   unfold qfc
   by_cases hlt:dn.length<n
   · have c1:decide ((dn.length:Int)<(n:Int))=true:=decide_eq_true (by omega)
     obtain⟨pre,post,e1,e2,e3⟩:=qbqd v0 [] (by omega)
     subst e1
     have hpl:pre.length+1+post.length=(pre++46::post).length:=by simp;omega
     generalize hv:pre++46::post=v0 at*
     have c2:decide (Lib.indexByte v0 46<0)=false:=decide_eq_false (by omega)
     have w4:IntKind.i64.wrap (Lib.indexByte v0 46+0)=(pre.length:Int):=by rw[e2,w64 (by omega) (by omega)];omega
     have w5:IntKind.i64.wrap (Lib.indexByte v0 46+(([46]:List UInt8).length:Int))=((pre.length+1:Nat):Int):=by rw[e2];simp;rw[w64 (by omega) (by omega)]
     have w6:IntKind.i64.wrap ((dn.length:Int)+1)=((dn.length+1:Nat):Int):=w64 (by omega) (by omega)
     have k1:cutI v0 none (some ((pre.length:Nat):Int))=some pre:=by rw[<-hv];exact qb54 pre post
     have k2:cutI v0 (some ((pre.length+1:Nat):Int)) none=some post:=by rw[<-hv];exact qb3r pre post
     have hp:putE (.str []) 0 1 [AV.str pre]=some (.str pre):=rfl
     simp only[c1,cond_t,qb52,oB_s,c2,cond_f,w4,k1,hd_self,hdec,Int.toNat_natCast,hget,hp,w5,k2,hhd,w6]
     refine hnx _ ⟨dn++[pre],by simp,by rw[hset];simp,by simp;omega,?_,?_,by show post.length<=1000000000;omega⟩ (by simp;omega)
     · have hcp:v0.count 46=(qem [] v0).length-1:=by rw[q1r];simp
       have:(qem [] post).length=post.count 46+1:=q1r post []
       rw[e3]at hcp
       simp at hcp
       simp
       omega
     · rw[<-h3,e3]
       simp
   · have hdn:dn.length=n:=by omega
     have c1:decide ((dn.length:Int)<(n:Int))=false:=decide_eq_false (by omega)
     have hp:putE (.str []) 0 1 [AV.str v0]=some (.str v0):=rfl
     have w6:IntKind.i64.wrap ((dn.length:Int)+1)=((n+1:Nat):Int):=by rw[w64 (by omega) (by omega)];omega
     have k3:cutI ((dn++[v0]).map AV.str++List.replicate (n+1-(dn.length+1)) (AV.str [])) none (some ((n+1:Nat):Int))=some ((dn++[v0]).map AV.str):=by
      have hz:n+1-(dn.length+1)=0:=by omega
      rw[hz]
      simp only[List.replicate_zero,List.append_nil]
      have hL:((dn++[v0]).map AV.str).length=n+1:=by simp;omega
      generalize (dn++[v0]).map AV.str=L at hL⊢
      unfold cutI
      simp only[Option.getD_none,Option.getD_some]
      rw[if_pos ⟨by omega,by omega,by omega⟩,Int.toNat_natCast,<-hL,List.take_length]
      rfl
     simp only[c1,cond_f]
     show kx v0 (dn.length:Int) _=_
     simp only[kx,cond_t,hdec,Int.toNat_natCast,hget,oB_s,hp,hhd,w6]
     rw[hset,k3]
     simp only[oB_s]
     rw[<-h3,qbqc v0 [] (by omega)]
     simp
def ordB (x:LU):Bool:=decide (1<=x.length)&&decide (x.length<=63)&&x.all labC
theorem qbz1 (x:LU)(hx:x.length<=9223372036854775807):qzk x=some (ordB x):=by
 rw[qbj1];unfold qo8
 rw[q8g,qeg x hx (qgm x (x.length:Int) fun _=>some true) (fun i nx=>qgl x (x.length:Int) i nx fun _=>some true) (fun _ _=>rfl) (fun r=>some (r.all labC))]
 · unfold ordB
   by_cases h1:x=[]
   · subst h1;rfl
   · have e1:(x==[])=false:=by simpa using h1
     have h2:1<=x.length:=by
      cases x with
      |nil=>exact absurd rfl h1
      |cons a r=>simp
     by_cases h3:x.length<=63
     · have:¬(x.length:Int)>63:=by omega
       simp only[e1,this,h2,h3,decide_true,decide_false,Bool.or_self,cond_f,Bool.true_and]
     · have:(x.length:Int)>63:=by omega
       simp[e1,this,h3]
 · intro nx;simp[qgl]
 · intro i a r nx h1 h2 h3 h4 h5
   have h6:(i:Int)<(x.length:Int):=by omega
   have key:∀kn:Bool->Option Bool,qsn x (a.toNat:Int) (x.length:Int) i kn=kn (!labC a):=by
    intro kn
    have co:∀(p a b:Bool),(bif p then kn a else kn b)=kn (bif p then a else b):=by intro p;cases p<;>intros<;>rfl
    rw[q8f]
    unfold qkj labC
    simp only[co]
    have fin:∀n:Fin 256,(bif((decide ((n.val:Int)<(97:Int)))||(decide ((n.val:Int)>(122:Int))))then(bif(decide ((n.val:Int)<(48:Int)))then(((n.val:Int) != (45:Int))&&((n.val:Int) != (95:Int)))else(((decide ((n.val:Int)>(57:Int)))&&((n.val:Int) != (45:Int)))&&((n.val:Int) != (95:Int))))else false)=
     !((decide (97<=n.val)&&decide (n.val<=122))||(decide (48<=n.val)&&decide (n.val<=57))||n.val==45||n.val==95):=by decide+kernel
    exact congrArg kn (fin ⟨a.toNat,a.toNat_lt⟩)
   unfold qgl
   simp only[h6,decide_true,cond_t,ixB_nat,h2,oB_s,key,h4]
   cases h7:labC a
   · simp[h7]
   · simp only[Bool.not_true,cond_t,cond_f,h5,List.all_cons,h7,Bool.true_and]
def sufB (x y:LU):Bool:=decide (y.length<=x.length)&&x.drop (x.length-y.length)==y
theorem qblk (x y:LU)(hx:x.length<=9223372036854775807):qnu x y=some (sufB x y):=by
 rw[qbas];unfold qlo
 rw[q33];unfold qhs sufB
 by_cases h:y.length<=x.length
 · have h1:(x.length:Int)>=(y.length:Int):=by omega
   have w:IntKind.i64.wrap ((x.length:Int)-(y.length:Int))=((x.length-y.length:Nat):Int):=by rw[w64 (by omega) (by omega)];omega
   have hc:cutI x (some ((x.length-y.length:Nat):Int)) none=some (x.drop (x.length-y.length)):=by
    unfold cutI
    simp only[Option.getD_none,Option.getD_some]
    rw[if_pos ⟨by omega,by omega,by omega⟩,Int.toNat_natCast,Int.toNat_natCast,List.take_length]
   simp only[h1,decide_true,cond_t,w,hc,oB_s,h,Bool.true_and]
 · have h1:¬(x.length:Int)>=(y.length:Int):=by omega
   simp[h1,h]
def q62:Bool->List (List UInt8)->Bool
 |_,[]=>true
 |f,l::ls=>(ordB l||(f&&l==[42]))&&q62 false ls
def valB (x:LU):Bool:=x==[46]||(decide (x.length<255)&&sufB x [46]&&q62 true (qem [] (x.take (x.length-1))))
theorem qbnh:∀(s cur:LU),∀l,l∈qem cur s->l.length<=cur.length+s.length
 |[],cur,l,h=>by simp[qem]at h;subst h;simp
 |c::r,cur,l,h=>by
  unfold qem at h
  split at h
  · rcases List.mem_cons.1 h with rfl|h
    · simp<;>omega
    · have:=qbnh r [] l h;simp at this⊢;omega
  · have:=qbnh r _ l h;simp at this⊢;omega
theorem qb7a (ps:List (List UInt8))(hps:ps.length<=9223372036854775807)(hl:∀l,l∈ps->l.length<=9223372036854775807):
 qxv (ps.map AV.str) ((ps.map AV.str).length:Int) (fun _=>some true) FU 0=some (q62 true ps):=by
 have hlen:(ps.map AV.str).length=ps.length:=by simp
 rw[qbf9,hlen]
 have key:=qcj (σ:=Unit) ps hps (fun n i _=>qkb (ps.map AV.str) (ps.length:Int) (fun _=>some true) n i) (fun i _ nx=>qka (ps.map AV.str) (ps.length:Int) i (fun j=>nx j ()) (fun _=>some true)) (fun _ _ _=>rfl)
  (fun _ _=>True) (fun r _=>some (q62 (decide (r.length=ps.length)) r)) ?_ ?_ () FU trivial (qcq (by omega))
 · simpa using key
 · intro s nx _
   simp[qka,q62]
 · intro i l r s nx h1 h2 h3 h4 _ h5
   have h6:(i:Int)<(ps.length:Int):=by omega
   have hg:(ps.map AV.str)[i]?=some (.str l):=by simp[h2]
   have hr:r.length=ps.length-(i+1):=by
    have:=congrArg List.length h1
    simp at this
    omega
   unfold qka
   simp only[h6,decide_true,cond_t,ixB_nat,hg,oB_s]
   rw[show fitC [.s] (AV.str l).cells=true from rfl,show gS (AV.str l).cells 0=l from rfl]
   simp only[cond_t,qbf8,qnw,qbz1 l (hl l (List.mem_of_getElem? h2)),oB_s,h4,h5 () trivial,q62]
   have e1:decide (r.length=ps.length)=false:=decide_eq_false (by omega)
   have e2:decide ((l::r).length=ps.length)=decide (i=0):=decide_eq_decide.2 (by simp;omega)
   rw[e1,e2]
   by_cases hi:i=0
   · subst hi
     cases ordB l<;>cases(l==[42])<;>rfl
   · have a1:decide ((i:Int)>0)=true:=decide_eq_true (by omega)
     have a2:decide (i=0)=false:=decide_eq_false hi
     rw[a1,a2]
     cases ordB l<;>rfl
theorem qb3s (x:LU)(hx:x.length<=9223372036854775807):qgg x=some (valB x):=by
 rw[qbq1];unfold qvu valB
 by_cases h1:x=[46]
 · subst h1;rfl
 · have e1:(x==[46])=false:=by simpa using h1
   rw[e1]
   simp only[cond_f,qbf6,qnv,qblk x _ hx,oB_s,Bool.false_or]
   by_cases h2:x.length<255
   · have e2:¬(x.length:Int)>=255:=by omega
     simp only[e2,decide_false,cond_f,h2,decide_true,Bool.true_and]
     cases h3:sufB x [46]with
     |false=>rfl
     |true=>
      have h4:1<=x.length:=by
       simp[sufB]at h3
       exact h3.1
      have w:IntKind.i64.wrap ((x.length:Int)-1)=((x.length-1:Nat):Int):=by rw[w64 (by omega) (by omega)];omega
      have hc:cutI x none (some ((x.length-1:Nat):Int))=some (x.take (x.length-1)):=by
       unfold cutI
       simp only[Option.getD_none,Option.getD_some]
       rw[if_pos ⟨by omega,by omega,by omega⟩,Int.toNat_natCast]
       rfl
      have hpl:=q1r (x.take (x.length-1)) []
      have hcl:(x.take (x.length-1)).count 46<=(x.take (x.length-1)).length:=List.count_le_length
      have htl:(x.take (x.length-1)).length<=254:=by simp;omega
      simp only[Bool.not_true,cond_f,w,hc,oB_s,qbys _ (by omega:(x.take (x.length-1)).length<=1000000000)]
      rw[qb7a _ (by omega) (fun l hl=>by have:=qbnh _ _ l hl;simp only[List.length_nil]at this;omega)]
      simp
   · have e2:(x.length:Int)>=255:=by omega
     simp[e2,h2]
theorem q63:∀(y cur:LU),spl cur (y++[46])=qem cur y
 |[],cur=>by simp[spl,qem]
 |c::r,cur=>by
  simp only[List.cons_append,spl,qem]
  split
  · rw[q63 r]
  · rw[q63 r]
theorem qbyt:∀(ls:List (List UInt8)) (f:Bool),q62 f ls=qot f ls
 |[],f=>rfl
 |l::ls,f=>by
  unfold q62 qot
  rw[qbyt ls false]
  by_cases h:l=[42]
  · subst h
    rw[show ordB [42]=false from by decide,show q61 [42]=true from by decide]
    cases f<;>rfl
  · have e:(l==[42])=false:=by simpa using h
    rw[e]
    rw[show q61 l=ordB l by simp[q61,ordB,e]]
    cases ordB l<;>cases f<;>rfl
theorem qb7b (x:LU):valB x=qbd x:=by
 unfold valB qbd qjd
 by_cases h1:x=[46]
 · subst h1;rfl
 · have e1:(x==[46])=false:=by simpa using h1
   rw[e1,if_neg h1,Bool.false_or]
   rcases List.eq_nil_or_concat x with rfl|⟨y,c,rfl⟩
   · rfl
   · rw[List.concat_eq_append]at*
     have hl:(y++[c]).length-1=y.length:=by simp
     have hs:sufB (y++[c]) [46]=(c==46):=by
      unfold sufB
      have:(y++[c]).length-([46]:List UInt8).length=y.length:=by simp
      rw[this]
      simp
     have he:qos (y++[c])=(decide (1<=y.length)&&decide ((y++[c]).length<255)&&(c==46)):=by
      unfold qos
      have a1:decide (2<=(y++[c]).length)=decide (1<=y.length):=decide_eq_decide.2 (by simp)
      have a2:decide ((y++[c]).length<=254)=decide ((y++[c]).length<255):=decide_eq_decide.2 (by omega)
      rw[a1,a2]
      simp
     rw[hl,hs,he,List.take_left]
     by_cases hc:c=46
     · subst hc
       rw[q63,qbyt]
       have hy:1<=y.length:=by
        cases y with
        |nil=>exact absurd rfl h1
        |cons a r=>simp
       rw[decide_eq_true hy]
       cases decide ((y++[46]).length<255)<;>cases qot true (qem [] y)<;>simp
     · have hb:(c==46)=false:=by simpa using hc
       rw[hb]
       simp
theorem qtd (x:LU)(hx:x.length<=9223372036854775807):qgg x=some (qbd x):=by rw[qb3s x hx,qb7b]
def qvk (x y:LU):Bool:=qbd x&&(qbd y&&(y==[46]||x==y||sufB x (46::y)))
theorem qbqe {x:LU}(h:qbd x=true):x.length<=254:=by
 unfold qbd qjd at h
 split at h
 · rename_i h1;subst h1;simp
 · split at h
   · rename_i h2
     have:=h2.1
     simp[qos]at this
     omega
   · cases h
theorem qb55 (x y:LU)(hx:x.length<=9223372036854775807)(hy:y.length<=9223372036854775807):q7a x y=some (qvk x y):=by
 rw[qbq3];unfold qvx qvk
 simp only[qtd x hx,qtd y hy,oB_s]
 cases h1:qbd x with
 |false=>rfl
 |true=>
  cases h2:qbd y with
  |false=>rfl
  |true=>
   have hl:=qbqe h2
   simp only[cond_t,Bool.true_and]
   rw[qbt5];unfold qxw
   have hd:decide (([46]:List UInt8).length+y.length<=9223372036854775807)=true:=decide_eq_true (by simp;omega)
   cases h3:(y==[46]||x==y)with
   |true=>rfl
   |false=>
    simp only[cond_f,hd,cond_t,qblk x _ hx,oB_s,Bool.false_or]
    rfl
def ql (x:LU):List (List UInt8):=(qjd x).1
theorem qbni (x:LU)(hx:x.length<=9223372036854775807):qso x=some (avS (ql x)):=by
 rw[qbn0];unfold qtq
 simp only[qbgd,qny,qtd x hx,oB_s]
 by_cases h1:x=[46]
 · subst h1;rfl
 · have e1:(x==[46])=false:=by simpa using h1
   rw[e1]
   simp only[cond_f]
   cases h2:qbd x with
   |false=>
    unfold ql
    unfold qbd qjd at h2
    unfold qjd
    rw[if_neg h1]at h2⊢
    split at h2
    · cases h2
    · rename_i h3
      rw[if_neg h3]
      rfl
   |true=>
    have hl:=qbqe h2
    have h5:=h2
    unfold qbd qjd at h5
    rw[if_neg h1]at h5
    split at h5
    · rename_i h3
      have hend:=h3.1
      simp only[qos,Bool.and_eq_true,decide_eq_true_eq,beq_iff_eq]at hend
      have h4:1<=x.length:=by omega
      have w:IntKind.i64.wrap ((x.length:Int)-1)=((x.length-1:Nat):Int):=by rw[w64 (by omega) (by omega)];omega
      have hc:cutI x none (some ((x.length-1:Nat):Int))=some (x.take (x.length-1)):=by
       unfold cutI
       simp only[Option.getD_none,Option.getD_some]
       rw[if_pos ⟨by omega,by omega,by omega⟩,Int.toNat_natCast]
       rfl
      have htl:(x.take (x.length-1)).length<=254:=by simp;omega
      simp only[Bool.not_true,cond_f,w,hc,oB_s,qbys _ (by omega:(x.take (x.length-1)).length<=1000000000)]
      unfold ql qjd
      rw[if_neg h1,if_pos h3]
      rcases List.eq_nil_or_concat x with rfl|⟨y,c,rfl⟩
      · simp at h4
      · rw[List.concat_eq_append]at*
        have hc46:c=46:=by have:=hend.2;simpa using this
        subst hc46
        have hlen:(y++[46]).length-1=y.length:=by simp
        rw[hlen,List.take_left,q63]
        rfl
    · cases h5
theorem qbi7 {α R:Type}(l:List α)(hl:l.length<=9223372036854775807)(L:Nat->Int->Option R)(B:Int->(Int->Option R)->Option R)(hL:∀n i,L (n+1) i=B i (L n))
 (S:Nat->List α->Option R) (h0:∀nx,B (l.length:Int) nx=S l.length [])
 (hs:∀(i:Nat) (a:α) (r:List α) nx,l.drop i=a::r->l[i]?=some a->i<l.length->IntKind.i64.wrap ((i:Int)+1)=((i+1:Nat):Int)->nx ((i+1:Nat):Int)=S (i+1) r->B (i:Int) nx=S i (a::r)):
 L FU 0=S 0 l:=by
 have:=qeg l hl L B hL (fun r=>S (l.length-r.length) r) (fun nx=>by simpa using h0 nx) (fun i a r nx h1 h2 h3 h4 h5=>by
  have hr:r.length=l.length-(i+1):=by
   have:=congrArg List.length h1
   simp at this;omega
  have e1:l.length-r.length=i+1:=by omega
  have e2:l.length-(a::r).length=i:=by simp;omega
  simp only[e1]at h5
  simp only[e2]
  exact hs i a r nx h1 h2 h3 h4 h5)
 simpa using this
theorem q1s {l:LT}{ls:List LT}{cs:LA}(h:fitC (l::ls) cs=true):∃x r,cs=x::r/\fitL l x=true/\fitC ls r=true:=by
 cases cs with
 |nil=>simp[fitC]at h
 |cons x r=>
  simp only[fitC]at h
  cases hl:fitL l x
  · rw[hl]at h;cases h
  · rw[hl]at h;exact⟨x,r,rfl,hl,h⟩
theorem qb3t {cs:LA}(h:fitC [] cs=true):cs=[]:=by
 cases cs with
 |nil=>rfl
 |cons x r=>simp[fitC]at h
theorem qbry:∀(q cur y:LU),spl cur (q++46::y)=spl cur (q++[46])++spl [] y
 |[],cur,y=>by simp[spl]
 |c::r,cur,y=>by
  simp only[List.cons_append,spl]
  split
  · simp[qbry r [] y]
  · exact qbry r _ y
theorem qp8:∀(x cur:LU),x.getLast? =some 46->(spl cur x).flatMap (· ++[46])=cur++x
 |[],cur,h=>by simp at h
 |[c],cur,h=>by
  have:c=46:=by simpa using h
  subst this
  simp[spl]
 |c::d::r,cur,h=>by
  have h':(d::r).getLast? =some 46:=by simpa using h
  unfold spl
  split
  · rename_i hc
    subst hc
    simp[qp8 (d::r) [] h']
  · rw[qp8 (d::r) _ h']
    simp
theorem qou {x:LU}(h:qbd x=true):x=[46]/\ql x=[]\/x≠[46]/\2<=x.length/\x.getLast? =some 46/\qot true (spl [] x)=true/\ql x=spl [] x:=by
 unfold qbd at h
 unfold ql
 unfold qjd at h⊢
 by_cases h1:x=[46]
 · left;exact⟨h1,by rw[if_pos h1]⟩
 · right
   rw[if_neg h1]at h⊢
   split at h
   · rename_i h2
     rw[if_pos h2]
     have h3:=h2.1
     simp only[qos,Bool.and_eq_true,decide_eq_true_eq,beq_iff_eq]at h3
     exact⟨h1,h3.1.1,h3.2,h2.2,rfl⟩
   · cases h
theorem qb3u {x y:LU}:sufB x y=true↔y<:+x:=by
 unfold sufB
 rw[Bool.and_eq_true,decide_eq_true_eq,beq_iff_eq,List.suffix_iff_eq_drop]
 constructor
 · rintro⟨_,h⟩;exact h.symm
 · intro h
   refine⟨?_,h.symm⟩
   have:=congrArg List.length h
   simp at this;omega
theorem qb1t {x y:LU}(hx:qbd x=true)(hy:qbd y=true):ql y<:+ql x↔(y==[46]||x==y||sufB x (46::y))=true:=by
 simp only[Bool.or_eq_true,beq_iff_eq,qb3u]
 rcases qou hy with⟨rfl,e⟩|⟨y1,y2,y3,y4,y5⟩
 · simp[e]
 · have jy:=qp8 y [] y3
   rw[List.nil_append]at jy
   rcases qou hx with⟨rfl,e⟩|⟨x1,x2,x3,x4,x5⟩
   · rw[e,y5]
     constructor
     · intro h
       have:spl [] y=[]:=List.suffix_nil.1 h
       rw[this]at jy
       simp at jy
       subst jy
       simp at y2
     · rintro((h|h)|h)
       · exact absurd h y1
       · exact absurd h.symm y1
       · have:=h.length_le
         rw[List.length_cons,List.length_singleton]at this
         omega
   · have jx:=qp8 x [] x3
     rw[List.nil_append]at jx
     rw[x5,y5]
     constructor
     · rintro⟨p,hp⟩
       rw[<-hp,List.flatMap_append,jy]at jx
       rcases List.eq_nil_or_concat p with rfl|⟨q,l,rfl⟩
       · left;right;simpa using jx.symm
       · right
         rw[List.concat_eq_append]at jx
         refine⟨q.flatMap (· ++[46])++l,?_⟩
         rw[<-jx];simp
     · rintro((h|h)|⟨q,h⟩)
       · exact absurd h y1
       · subst h;exact List.suffix_refl _
       · rw[<-h,qbry]
         exact⟨_,rfl⟩
def comm:List (List UInt8)->List (List UInt8)->Nat
 |a::r,b::s=>if a=b then comm r s+1 else 0
 |_,_=>0
theorem qbwy:∀(a b:List (List UInt8)),comm a b=b.length↔b<+:a
 |[],[]=>by simp[comm]
 |[],_::_=>by simp[comm]
 |_::_,[]=>by simp[comm]
 |a::r,b::s=>by
  unfold comm
  by_cases h:a=b
  · subst h
    rw[if_pos rfl,List.cons_prefix_cons]
    simp[qbwy r s]
  · rw[if_neg h,List.cons_prefix_cons]
    simp
    exact fun e=>absurd e.symm h
theorem qz8 (l:List (List UInt8))(i:Nat)(h:i<l.length):(avS l)[l.length-1-i]?=some (.str (l.reverse[i]'(by simpa using h))):=by
 unfold avS
 rw[List.getElem?_map,List.getElem_reverse,List.getElem?_eq_getElem (by omega)]
 rfl
theorem qbwz (xs ys:List (List UInt8))(hx:xs.length<=1000000000)(hy:ys.length<=1000000000):qqk (avS xs) (avS ys)=some ((comm xs.reverse ys.reverse:Nat):Int):=by
 rw[qbmn];unfold qrz
 rw[qbej]
 have lx:(avS xs).length=xs.length:=by simp[avS]
 have ly:(avS ys).length=ys.length:=by simp[avS]
 have key:=qbix (fun n (i:Int)=>qfv (avS xs) (avS ys) (fun v5=>some v5) n i) (fun i nx=>qmw (avS xs) (avS ys) i nx (fun v5=>some v5)) (fun _ _=>rfl)
  (fun i=>0<=i/\i<=xs.length) (fun i=>(xs.length-i).toNat) (fun i=>some (i+((comm (xs.reverse.drop i.toNat) (ys.reverse.drop i.toNat):Nat):Int))) ?_ FU 0 (by simp) (qcq (by simp;omega))
 · rw[show qfv (avS xs) (avS ys) (fun v5=>some v5) FU 0=_ from key]
   simp
 · rintro i ⟨h0,h1⟩ nx hn
   obtain⟨i,rfl⟩:∃j:Nat,i=j:=⟨i.toNat,by omega⟩
   unfold qmw
   rw[qbei];unfold qmv
   simp only[lx,ly,Int.toNat_natCast]
   have hw:IntKind.i64.wrap ((i:Int)+1)=((i+1:Nat):Int):=w64 (by omega) (by omega)
   by_cases hi:i<xs.length
   · have hdx:xs.reverse.drop i=xs.reverse[i]'(by simpa using hi)::xs.reverse.drop (i+1):=List.drop_eq_getElem_cons (by simpa using hi)
     by_cases hj:i<ys.length
     · have hdy:ys.reverse.drop i=ys.reverse[i]'(by simpa using hj)::ys.reverse.drop (i+1):=List.drop_eq_getElem_cons (by simpa using hj)
       have w1:IntKind.i64.wrap (IntKind.i64.wrap ((xs.length:Int)-1)-(i:Int))=((xs.length-1-i:Nat):Int):=by
        rw[w64 (i:=(xs.length:Int)-1) (by omega) (by omega),w64 (by omega) (by omega)];omega
       have w2:IntKind.i64.wrap (IntKind.i64.wrap ((ys.length:Int)-1)-(i:Int))=((ys.length-1-i:Nat):Int):=by
        rw[w64 (i:=(ys.length:Int)-1) (by omega) (by omega),w64 (by omega) (by omega)];omega
       have d1:decide ((i:Int)<(xs.length:Int))=true:=decide_eq_true (by omega)
       have d2:decide ((i:Int)<(ys.length:Int))=true:=decide_eq_true (by omega)
       simp only[d1,d2,cond_t,w1,w2,ixB_nat,qz8 _ _ hi,qz8 _ _ hj,oB_s,hw]
       have f:∀s:List UInt8,fitC [.s] (AV.str s).cells=true:=fun _=>rfl
       have g:∀s:List UInt8,gS (AV.str s).cells 0=s:=fun _=>rfl
       simp only[f,cond_t,g]
       have hnx:=hn ((i+1:Nat):Int) ⟨by omega,by omega⟩ (by omega)
       simp only[Int.toNat_natCast]at hnx
       rw[hdx,hdy]
       unfold comm
       by_cases he:xs.reverse[i]'(by simpa using hi)=ys.reverse[i]'(by simpa using hj)
       · have hb:(xs.reverse[i]'(by simpa using hi)==ys.reverse[i]'(by simpa using hj))=true:=beq_iff_eq.2 he
         rw[hb,cond_t,hnx,if_pos he]
         congr 1;omega
       · have hb:(xs.reverse[i]'(by simpa using hi)==ys.reverse[i]'(by simpa using hj))=false:=by simpa using he
         rw[hb,cond_f,if_neg he]
         simp
     · have d1:decide ((i:Int)<(xs.length:Int))=true:=decide_eq_true (by omega)
       have d2:decide ((i:Int)<(ys.length:Int))=false:=decide_eq_false (by omega)
       have e:ys.reverse.drop i=[]:=List.drop_eq_nil_of_le (by simp;omega)
       rw[e,hdx]
       simp only[d1,d2,cond_t,cond_f]
       simp[comm]
   · have d1:decide ((i:Int)<(xs.length:Int))=false:=decide_eq_false (by omega)
     have e:xs.reverse.drop i=[]:=List.drop_eq_nil_of_le (by simp;omega)
     rw[e]
     simp only[d1,cond_f]
     simp[comm]
theorem qud {x:LU}:(ql x).length<=254:=by
 unfold ql qjd
 split
 · simp
 · split
   · rename_i h
     have h3:=h.1
     simp only[qos,Bool.and_eq_true,decide_eq_true_eq,beq_iff_eq]at h3
     have:=qbrx x []
     simp;omega
   · simp
theorem qb1u (x:LU)(hx:x.length<=9223372036854775807):qx2 x=some (avS (ql x)):=by
 rw[qbgq];unfold qn3
 rw[q3s x hx];rfl
theorem qb3v (x y:LU)(hx:x.length<=9223372036854775807)(hy:y.length<=9223372036854775807):qzp x y=some (qvk x y):=by
 rw[qbkm];unfold qpq qvk
 rw[q3s x hx,q3s y hy]
 simp only[oB_s]
 show(bif qbd x&&qbd y then oB (qqk (avS (ql x)) (avS (ql y))) _ else _)=_
 cases h1:qbd x
 · rfl
 cases h2:qbd y
 · rfl
 have l1:=qud (x:=x)
 have l2:=qud (x:=y)
 rw[qbwz _ _ (by omega) (by omega)]
 simp only[Bool.and_self,cond_t,oB_s,Bool.true_and]
 have ly:(avS (qjd y).1).length=(ql y).length:=by simp[avS,ql]
 rw[ly]
 congr 1
 rw[Bool.eq_iff_iff,beq_iff_eq,<-qb1t h1 h2,<-List.reverse_prefix,<-qbwy,List.length_reverse]
 omega
theorem qb1v {x:LU}(h:qbd x=true):((ql x).head? =some [42])↔x.head? =some 42:=by
 rcases qou h with⟨rfl,e⟩|⟨y1,y2,y3,y4,y5⟩
 · simp[e]
 · rw[y5]
   have jy:=qp8 x [] y3
   rw[List.nil_append]at jy
   cases hs:spl [] x with
   |nil=>rw[hs]at jy;simp at jy;subst jy;simp at y2
   |cons l ls=>
    rw[hs]at jy y4
    simp only[qot,Bool.and_eq_true]at y4
    have hl:=y4.1.1
    simp only[List.head?_cons,Option.some.injEq]
    constructor
    · intro e;subst e;rw[<-jy];simp
    · intro e
      unfold q61 at hl
      simp only[Bool.or_eq_true,beq_iff_eq,Bool.and_eq_true,decide_eq_true_eq]at hl
      rcases hl with hl|⟨⟨hl1,_⟩,hl2⟩
      · exact hl
      · cases l with
        |nil=>simp at hl1
        |cons c r=>
         rw[<-jy]at e
         have:c=42:=by simpa using e
         subst this
         simp[labC]at hl2
def cmpS (a b:LU):Int:=Lib.compareBytes a b
theorem q64:∀a b,cmpS a b= -1\/cmpS a b=0\/cmpS a b=1
 |[],[]=>by simp[cmpS,Lib.compareBytes]
 |[],_::_=>by simp[cmpS,Lib.compareBytes]
 |_::_,[]=>by simp[cmpS,Lib.compareBytes]
 |a::as_,b::bs=>by
  have ih:=q64 as_ bs
  show(if a<b then(-1:Int)else if b<a then 1 else cmpS as_ bs)= -1\/_\/_
  have e:cmpS (a::as_) (b::bs)=if a<b then(-1:Int)else if b<a then 1 else cmpS as_ bs:=rfl
  rw[e]
  split
  · simp
  · split
    · simp
    · exact ih
theorem qz9 (a b:UInt8):a<b\/a=b\/b<a:=by
 rcases Nat.lt_trichotomy a.toNat b.toNat with h|h|h
 · exact .inl h
 · exact .inr (.inl (UInt8.toNat_inj.1 h))
 · exact .inr (.inr h)
theorem qfb {a b:UInt8}(h:a<b):¬b<a:=fun h2=>by
 have h1:a.toNat<b.toNat:=h
 have h2:b.toNat<a.toNat:=h2
 omega
theorem qb3w {a b c:UInt8}(h:a<b)(h2:b<c):a<c:=Nat.lt_trans (show a.toNat<b.toNat from h) h2
theorem q1t (a b:UInt8)(r s:LU):cmpS (a::r) (b::s)=if a<b then-1 else if b<a then 1 else cmpS r s:=rfl
theorem qk5:∀{a b},cmpS a b=0↔a=b
 |[],[]=>by simp[cmpS,Lib.compareBytes]
 |[],_::_=>by simp[cmpS,Lib.compareBytes]
 |_::_,[]=>by simp[cmpS,Lib.compareBytes]
 |a::r,b::s=>by
  rw[q1t]
  rcases qz9 a b with h|rfl|h
  · rw[if_pos h]
    simp only[List.cons.injEq]
    exact⟨fun h=>by omega,fun e=>by rw[e.1]at h;exact absurd h (qfb h)⟩
  · rw[if_neg (fun h=>qfb h h),if_neg (fun h=>qfb h h),qk5]
    simp
  · rw[if_neg (qfb h),if_pos h]
    simp only[List.cons.injEq]
    exact⟨fun h=>by omega,fun e=>by rw[e.1]at h;exact absurd h (qfb h)⟩
theorem qbim:∀a b,cmpS b a= -cmpS a b
 |[],[]=>by simp[cmpS,Lib.compareBytes]
 |[],_::_=>by simp[cmpS,Lib.compareBytes]
 |_::_,[]=>by simp[cmpS,Lib.compareBytes]
 |a::r,b::s=>by
  rw[q1t,q1t]
  rcases qz9 a b with h|rfl|h
  · simp[h,qfb h]
  · simp[fun h=>qfb (a:=a) (b:=a) h h,qbim r s]
  · simp[h,qfb h]
theorem qbc6:∀{a b c},cmpS a b<0->cmpS b c<0->cmpS a c<0
 |[],[],_,h,_=>by simp[cmpS,Lib.compareBytes]at h
 |[],_::_,[],_,h=>by simp[cmpS,Lib.compareBytes]at h
 |[],_::_,_::_,_,_=>by simp[cmpS,Lib.compareBytes]
 |_::_,[],_,h,_=>by simp[cmpS,Lib.compareBytes]at h
 |_::_,_::_,[],_,h=>by simp[cmpS,Lib.compareBytes]at h
 |a::r,b::s,c::t,h1,h2=>by
  rw[q1t]at h1 h2⊢
  rcases qz9 a b with h|rfl|h
  · rcases qz9 b c with k|rfl|k
    · rw[if_pos (qb3w h k)];omega
    · rw[if_pos h];omega
    · rw[if_neg (qfb k),if_pos k]at h2;omega
  · rw[if_neg (fun h=>qfb h h),if_neg (fun h=>qfb h h)]at h1
    rcases qz9 a c with k|rfl|k
    · rw[if_pos k];omega
    · rw[if_neg (fun h=>qfb h h),if_neg (fun h=>qfb h h)]at h2⊢
      exact qbc6 h1 h2
    · rw[if_neg (qfb k),if_pos k]at h2;omega
  · rw[if_neg (qfb h),if_pos h]at h1;omega
theorem qbtj:∀a b,Op.bytesLess a b=decide (cmpS a b<0)
 |[],[]=>by simp[Op.bytesLess,cmpS,Lib.compareBytes]
 |[],_::_=>by simp[Op.bytesLess,cmpS,Lib.compareBytes]
 |_::_,[]=>by simp[Op.bytesLess,cmpS,Lib.compareBytes]
 |a::r,b::s=>by
  rw[q1t]
  unfold Op.bytesLess
  rw[qbtj r s]
  rcases qz9 a b with h|rfl|h
  · simp[h]
  · simp[fun h=>qfb (a:=a) (b:=a) h h]
  · have hne:a≠b:=fun e=>by rw[e]at h;exact qfb h h
    simp[h,qfb h,hne]
theorem qbqf (a b:LU):qrp a b=some (cmpS a b):=by
 rw[qbgb]
 unfold qnx
 rw[q37]
 rfl
theorem qb7c (a b:LU):qvz a b=some (cmpS a b):=by
 rw[qbmm]
 unfold qry
 rw[qbtj]
 rcases q64 a b with h|h|h
 · simp[h]
 · have e:=qk5.1 h
   subst e
   simp[h]
 · have e:(a==b)=false:=by
    have:a≠b:=fun e=>by rw[qk5.2 e]at h;omega
    simpa using this
   simp[h,e]
def cmpZ:List (List UInt8)->List (List UInt8)->Option Int
 |a::r,b::s=>if cmpS a b=0 then cmpZ r s else some (cmpS a b)
 |_,_=>none
def cmpR (x y:List (List UInt8)):Int:=(cmpZ x y).getD (if x.length<y.length then-1 else if x.length>y.length then 1 else 0)
def cmpN (x y:LU):Int:=
 if qbd x=true/\qbd y=false then-1 else if qbd y=true/\qbd x=false then 1 else if qbd x=false then cmpS x y else cmpR (ql x).reverse (ql y).reverse
theorem q1u (a b:LU)(r s:List (List UInt8)):cmpR (a::r) (b::s)=if cmpS a b=0 then cmpR r s else cmpS a b:=by
 unfold cmpR
 simp only[cmpZ]
 split
 · simp
 · rfl
theorem qbtk:∀{x y},cmpR x y=0↔x=y
 |[],[]=>by simp[cmpR,cmpZ]
 |[],_::_=>by simp[cmpR,cmpZ]
 |_::_,[]=>by simp[cmpR,cmpZ]
 |a::r,b::s=>by
  rw[q1u]
  split
  · rename_i h
    rw[qbtk,qk5.1 h];simp
  · rename_i h
    simp only[List.cons.injEq]
    exact⟨fun e=>absurd e h,fun e=>absurd (qk5.2 e.1) h⟩
theorem qbtl:∀x y,cmpR y x= -cmpR x y
 |[],[]=>by simp[cmpR,cmpZ]
 |[],_::_=>by simp[cmpR,cmpZ]
 |_::_,[]=>by simp[cmpR,cmpZ]
 |a::r,b::s=>by
  rw[q1u,q1u,qbim a b,qbtl r s]
  split<;>split<;>omega
theorem qbqg:∀{x y z},cmpR x y<0->cmpR y z<0->cmpR x z<0
 |[],[],_,h,_=>by simp[cmpR,cmpZ]at h
 |[],_::_,[],_,h=>by simp[cmpR,cmpZ]at h
 |[],_::_,_::_,_,_=>by simp[cmpR,cmpZ]
 |_::_,[],_,h,_=>by simp[cmpR,cmpZ]at h
 |_::_,_::_,[],_,h=>by simp[cmpR,cmpZ]at h
 |a::r,b::s,c::t,h1,h2=>by
  rw[q1u]at h1 h2⊢
  by_cases e1:cmpS a b=0
  · have:=qk5.1 e1
    subst this
    rw[if_pos e1]at h1
    by_cases e2:cmpS a c=0
    · rw[if_pos e2]at h2⊢
      exact qbqg h1 h2
    · rw[if_neg e2]at h2⊢;exact h2
  · rw[if_neg e1]at h1
    by_cases e2:cmpS b c=0
    · have:=qk5.1 e2
      subst this
      rw[if_neg e1];exact h1
    · rw[if_neg e2]at h2
      have:=qbc6 h1 h2
      rw[if_neg (by omega)];exact this
theorem qbtm:∀x y,cmpR x y= -1\/cmpR x y=0\/cmpR x y=1
 |[],[]=>by simp[cmpR,cmpZ]
 |[],_::_=>by simp[cmpR,cmpZ]
 |_::_,[]=>by simp[cmpR,cmpZ]
 |a::r,b::s=>by
  rw[q1u]
  split
  · exact qbtm r s
  · exact q64 a b
theorem qbz2 {x y:LU}(hx:qbd x=true)(hy:qbd y=true)(h:ql x=ql y):x=y:=by
 rcases qou hx with⟨a1,a2⟩|⟨a1,a2,a3,a4,a5⟩<;>rcases qou hy with⟨b1,b2⟩|⟨b1,b2,b3,b4,b5⟩
 · rw[a1,b1]
 · exfalso
   have h2:=qp8 y [] b3
   rw[<-b5,<-h,a2]at h2
   simp at h2
   subst h2
   simp at b2
 · exfalso
   have h2:=qp8 x [] a3
   rw[<-a5,h,b2]at h2
   simp at h2
   subst h2
   simp at a2
 · have h1:=qp8 x [] a3
   have h2:=qp8 y [] b3
   rw[<-a5,h,b5]at h1
   simp only[List.nil_append]at h1 h2
   exact h1.symm.trans h2
theorem qbtn {x y:LU}:cmpN x y=0↔x=y:=by
 unfold cmpN
 cases hx:qbd x<;>cases hy:qbd y
 · simp[qk5]
 · simp only[Bool.true_eq_false,and_self,Bool.false_eq_true,false_and,if_false,if_true]
   exact⟨fun h=>by omega,fun e=>by rw[e,hy]at hx;cases hx⟩
 · simp only[and_self,if_true]
   exact⟨fun h=>by omega,fun e=>by rw[e,hy]at hx;cases hx⟩
 · simp only[Bool.true_eq_false,and_false,if_false,qbtk]
   exact⟨fun h=>qbz2 hx hy (by simpa using congrArg List.reverse h),fun e=>by rw[e]⟩
theorem qb1w (x y:LU):cmpN y x= -cmpN x y:=by
 unfold cmpN
 cases hx:qbd x<;>cases hy:qbd y<;>simp
 · exact qbim x y
 · exact qbtl _ _
theorem qbz3 {x y z:LU}(h1:cmpN x y<0)(h2:cmpN y z<0):cmpN x z<0:=by
 unfold cmpN at*
 cases hx:qbd x<;>cases hy:qbd y<;>cases hz:qbd z<;>simp[hx,hy,hz]at h1 h2⊢
 · exact qbc6 h1 h2
 · exact qbqg h1 h2
theorem qb1x (x y:LU):cmpN x y= -1\/cmpN x y=0\/cmpN x y=1:=by
 unfold cmpN
 split
 · simp
 · split
   · simp
   · split
     · exact q64 x y
     · exact qbtm _ _
theorem qbto (xs ys:List (List UInt8))(hx:xs.length<=1000000000)(hy:ys.length<=1000000000)(kx:Unit->Option Int):∀(n j:Nat),j<=xs.length->j<=ys.length->xs.length-j<n->
 qe8 (avS xs) (avS ys) kx n ((j+1:Nat):Int)=match cmpZ (xs.reverse.drop j) (ys.reverse.drop j)with
  |some c=>some c
  |none=>kx ()
 |0,j,_,_,h=>by omega
 |n+1,j,h1,h2,h3=>by
  unfold qe8 qq4
  have hlx:(avS xs).length=xs.length:=by simp[avS]
  have hly:(avS ys).length=ys.length:=by simp[avS]
  rw[hlx,hly]
  by_cases hc:j<xs.length/\j<ys.length
  · have e1:(decide (((j+1:Nat):Int)<=(xs.length:Int))&&decide (((j+1:Nat):Int)<=(ys.length:Int)))=true:=by simp;omega
    rw[e1,cond_t,w64 (by omega) (by omega),qbpu (j:=xs.length-1-j) (by omega),qz8 xs j hc.1,oB_s]
    rw[show fitC [.s] (AV.str (xs.reverse[j]'(by simpa using hc.1))).cells=true from rfl,cond_t,w64 (by omega) (by omega),qbpu (j:=ys.length-1-j) (by omega),qz8 ys j hc.2,oB_s]
    rw[show fitC [.s] (AV.str (ys.reverse[j]'(by simpa using hc.2))).cells=true from rfl,cond_t]
    rw[show gS (AV.str (xs.reverse[j]'(by simpa using hc.1))).cells 0=xs.reverse[j]'(by simpa using hc.1)from rfl,show gS (AV.str (ys.reverse[j]'(by simpa using hc.2))).cells 0=ys.reverse[j]'(by simpa using hc.2)from rfl,qbqf,oB_s]
    rw[List.drop_eq_getElem_cons (l:=xs.reverse) (i:=j) (by simpa using hc.1),List.drop_eq_getElem_cons (l:=ys.reverse) (i:=j) (by simpa using hc.2)]
    simp only[cmpZ]
    by_cases h0:cmpS (xs.reverse[j]'(by simpa using hc.1)) (ys.reverse[j]'(by simpa using hc.2))=0
    · rw[if_pos h0,h0]
      simp only[bne_self_eq_false,cond_f]
      have ih:=qbto xs ys hx hy kx n (j+1) (by omega) (by omega) (by omega)
      rw[w64 (by omega) (by omega)]
      rw[show((j+1:Nat):Int)+1=((j+1+1:Nat):Int) by omega]
      exact ih
    · rw[if_neg h0]
      have:(cmpS (xs.reverse[j]'(by simpa using hc.1)) (ys.reverse[j]'(by simpa using hc.2)) != 0)=true:=by simpa using h0
      rw[this,cond_t]
  · have e1:(decide (((j+1:Nat):Int)<=(xs.length:Int))&&decide (((j+1:Nat):Int)<=(ys.length:Int)))=false:=by
     rw[Bool.and_eq_false_iff];simp;omega
    rw[e1,cond_f]
    have:cmpZ (xs.reverse.drop j) (ys.reverse.drop j)=none:=by
     rcases Classical.not_and_iff_not_or_not.1 hc with h|h
     · rw[List.drop_eq_nil_of_le (by simp;omega)];simp[cmpZ]
     · have e:ys.reverse.drop j=[]:=List.drop_eq_nil_of_le (by simp;omega)
       rw[e]
       cases xs.reverse.drop j<;>simp[cmpZ]
    rw[this]
theorem lenC (a b:Nat):(bif decide ((a:Int)<(b:Int))then some (-1:Int)else bif decide ((a:Int)>(b:Int))then some 1 else some 0)=some (if a<b then-1 else if a>b then 1 else 0):=by
 rcases Nat.lt_trichotomy a b with h|h|h
 · have:(a:Int)<b:=by omega
   simp[h,this]
 · subst h;simp
 · have h1:¬(a:Int)<b:=by omega
   have h2:(b:Int)<a:=by omega
   have h3:¬a<b:=by omega
   simp[h1,h2,h3,h]
theorem qbqh (x y:LU)(hx:x.length<=9223372036854775807)(hy:y.length<=9223372036854775807):qvv x y=some (cmpN x y):=by
 rw[qbl9]
 unfold qrq cmpN
 rw[qtd x hx,oB_s,qtd y hy,oB_s,qbni x hx,oB_s,qbni y hy,oB_s,qbaw]
 have hlx:=qud (x:=x)
 have hly:=qud (x:=y)
 have hL:=qbto (ql x) (ql y) (by omega) (by omega) (fun _=>(bif(decide (((avS (ql x)).length:Int)<((avS (ql y)).length:Int)))then(some (-1:Int))else(bif(decide (((avS (ql x)).length:Int)>((avS (ql y)).length:Int)))then(some (1:Int))else(some (0:Int))))) FU 0 (by omega) (by omega) (qcq (by omega))
 rw[show((0+1:Nat):Int)=1 from rfl]at hL
 rw[hL]
 cases qbd x<;>cases qbd y<;>simp only[Bool.not_true,Bool.not_false,Bool.and_true,Bool.and_false,Bool.and_self,cond_t,cond_f,qbqf,oB_s,and_self,if_true,Bool.true_eq_false,Bool.false_eq_true,and_false,false_and,if_false]
 simp only[List.drop_zero]
 unfold cmpR
 cases cmpZ (ql x).reverse (ql y).reverse with
 |some c=>rfl
 |none=>
  simp only[avS,List.length_map,Option.getD_none,List.length_reverse]
  exact lenC _ _
theorem qbtp:∀(a b:List (List UInt8)),cmpZ a b=if h:comm a b<a.length/\comm a b<b.length then some (cmpS (a[comm a b]'h.1) (b[comm a b]'h.2))else none
 |[],b=>by simp[cmpZ,comm]
 |a::r,[]=>by simp[cmpZ,comm]
 |a::r,b::s=>by
  unfold cmpZ comm
  by_cases e:a=b
  · subst e
    rw[if_pos (qk5.2 rfl),qbtp r s]
    simp only[if_true]
    by_cases h:comm r s<r.length/\comm r s<s.length
    · rw[dif_pos h,dif_pos (by simp;omega)]
      simp
    · rw[dif_neg h,dif_neg (by simp;omega)]
  · rw[if_neg (fun h=>e (qk5.1 h))]
    simp[e]
theorem qb1y (x:LU):(qjd x).2=qbd x:=rfl
theorem qbqi (x y:LU)(hx:x.length<=9223372036854775807)(hy:y.length<=9223372036854775807):qpo x y=some (cmpN x y):=by
 rw[qbek]
 unfold qmx cmpN
 rw[q3s x hx,oB_s,q3s y hy,oB_s]
 simp only[qb1y,qb7c,oB_s]
 have hlx:=qud (x:=x)
 have hly:=qud (x:=y)
 rw[show(qjd x).1=ql x from rfl,show(qjd y).1=ql y from rfl,qbwz _ _ (by omega) (by omega),oB_s]
 cases qbd x<;>cases qbd y<;>simp only[Bool.not_true,Bool.not_false,Bool.or_true,Bool.or_false,Bool.or_self,cond_t,cond_f,and_self,if_true,Bool.true_eq_false,Bool.false_eq_true,and_false,false_and,if_false]
 have hax:(avS (ql x)).length=(ql x).length:=by simp[avS]
 have hay:(avS (ql y)).length=(ql y).length:=by simp[avS]
 rw[hax,hay]
 unfold cmpR
 rw[qbtp]
 by_cases h:comm (ql x).reverse (ql y).reverse<(ql x).length/\comm (ql x).reverse (ql y).reverse<(ql y).length
 · have e1:(decide (((comm (ql x).reverse (ql y).reverse:Nat):Int)<((ql x).length:Int))&&decide (((comm (ql x).reverse (ql y).reverse:Nat):Int)<((ql y).length:Int)))=true:=by simp;omega
   rw[e1,cond_t,dif_pos (by simpa using h)]
   rw[w64 (i:=((ql x).length:Int)-1) (by omega) (by omega),w64 (by omega) (by omega),qbpu (j:=(ql x).length-1-comm (ql x).reverse (ql y).reverse) (by omega),qz8 _ _ h.1,oB_s]
   rw[show fitC [.s] (AV.str ((ql x).reverse[comm (ql x).reverse (ql y).reverse]'(by simpa using h.1))).cells=true from rfl,cond_t]
   rw[w64 (i:=((ql y).length:Int)-1) (by omega) (by omega),w64 (by omega) (by omega),qbpu (j:=(ql y).length-1-comm (ql x).reverse (ql y).reverse) (by omega),qz8 _ _ h.2,oB_s]
   rw[show fitC [.s] (AV.str ((ql y).reverse[comm (ql x).reverse (ql y).reverse]'(by simpa using h.2))).cells=true from rfl,cond_t]
   rfl
 · have e1:(decide (((comm (ql x).reverse (ql y).reverse:Nat):Int)<((ql x).length:Int))&&decide (((comm (ql x).reverse (ql y).reverse:Nat):Int)<((ql y).length:Int)))=false:=by
    rw[Bool.and_eq_false_iff];simp;omega
   rw[e1,cond_f,dif_neg (by simpa using h)]
   simp only[Option.getD_none,List.length_reverse]
   exact lenC _ _
theorem qb7d (v:Bool)(hi lo:Int)(w:Bool)(whi wlo:Int):cmpA v hi lo w whi wlo=cmpP v hi lo 0 w whi wlo 0:=by
 unfold cmpP
 cases h:(cmpA v hi lo w whi wlo != 0)
 · simp at h;simp[h]
 · simp
theorem qbz4 (v:Bool)(hi lo:Int)(w:Bool)(whi wlo:Int):(cmpA v hi lo w whi wlo<0/\ltP v hi lo 0 w whi wlo 0)\/(cmpA v hi lo w whi wlo=0/\v=w/\hi=whi/\lo=wlo)\/(cmpA v hi lo w whi wlo>0/\ltP w whi wlo 0 v hi lo 0):=by
 rw[qb7d]
 rcases q3g v hi lo 0 w whi wlo 0 with h|⟨h1,h2,h3,h4,_⟩|h
 · exact .inl h
 · exact .inr (.inl ⟨h1,h2,h3,h4⟩)
 · exact .inr (.inr h)
def qbqj (y:AV):Prop:=fitC qj y.cells=true/\uok (gI y.cells 2)/\uok (gI y.cells 3)/\(gS y.cells 0).length<=9223372036854775807
def qim (l:LA):Prop:=l.length<=9223372036854775807/\∀y,y∈l->qbqj y
def mkH (n:LU)(v:Bool)(hi lo t:Int):AV:=.agg [(.str n),(.bool v),(.int .u64 hi),(.int .u64 lo),(.int .i64 t)]
theorem qb76 {cs:LA}(h:fitC qj cs=true):cs=(mkH (gS cs 0) (gB cs 1) (gI cs 2) (gI cs 3) (gI cs 4)).cells:=by
 unfold qj at h
 obtain⟨x0,r,rfl,h0,h⟩:=q1s h
 obtain⟨x1,r,rfl,h1,h⟩:=q1s h
 obtain⟨x2,r,rfl,h2,h⟩:=q1s h
 obtain⟨x3,r,rfl,h3,h⟩:=q1s h
 obtain⟨x4,r,rfl,h4,h⟩:=q1s h
 have:=qb3t h
 subst this
 cases x0<;>simp[fitL]at h0
 cases x1<;>simp[fitL]at h1
 cases x2<;>simp[fitL]at h2
 cases x3<;>simp[fitL]at h3
 cases x4<;>simp[fitL]at h4
 subst h2 h3 h4
 rfl
theorem qbc7 {y:AV}(h:fitC qj y.cells=true):mkH (gS y.cells 0) (gB y.cells 1) (gI y.cells 2) (gI y.cells 3) (gI y.cells 4)=y:=by
 have h5:=qb76 h
 cases y with
 |agg cs=>exact congrArg AV.agg h5.symm
 |_=>
  exfalso
  have:=congrArg List.length h5
  simp[AV.cells,mkH]at this
def qeb (n:LU)(v:Bool)(hi lo:Int)(m:LU)(w:Bool)(whi wlo:Int):Int:=bif(cmpA v hi lo w whi wlo != 0)then cmpA v hi lo w whi wlo else cmpN n m
def cmpH (y z:AV):Int:=qeb (gS y.cells 0) (gB y.cells 1) (gI y.cells 2) (gI y.cells 3) (gS z.cells 0) (gB z.cells 1) (gI z.cells 2) (gI z.cells 3)
def ltHr (n:LU)(v:Bool)(hi lo:Int)(m:LU)(w:Bool)(whi wlo:Int):Prop:=ltP v hi lo 0 w whi wlo 0\/(v=w/\hi=whi/\lo=wlo/\cmpN n m<0)
def ltH (y z:AV):Prop:=ltHr (gS y.cells 0) (gB y.cells 1) (gI y.cells 2) (gI y.cells 3) (gS z.cells 0) (gB z.cells 1) (gI z.cells 2) (gI z.cells 3)
theorem q3j (n:LU)(v:Bool)(hi lo:Int)(m:LU)(w:Bool)(whi wlo:Int):
 (qeb n v hi lo m w whi wlo<0/\ltHr n v hi lo m w whi wlo)\/(qeb n v hi lo m w whi wlo=0/\n=m/\v=w/\hi=whi/\lo=wlo)\/(qeb n v hi lo m w whi wlo>0/\ltHr m w whi wlo n v hi lo):=by
 unfold qeb
 rcases qbz4 v hi lo w whi wlo with⟨h1,h2⟩|⟨h1,rfl,rfl,rfl⟩|⟨h1,h2⟩
 · have:(cmpA v hi lo w whi wlo != 0)=true:=by simp;omega
   rw[this,cond_t]
   exact .inl ⟨h1,.inl h2⟩
 · rw[h1,show((0:Int) != 0)=false from rfl,cond_f]
   have hs:=qb1w n m
   rcases qb1x n m with h|h|h
   · exact .inl ⟨by omega,.inr ⟨rfl,rfl,rfl,by omega⟩⟩
   · exact .inr (.inl ⟨h,qbtn.1 h,rfl,rfl,rfl⟩)
   · exact .inr (.inr ⟨by omega,.inr ⟨rfl,rfl,rfl,by omega⟩⟩)
 · have:(cmpA v hi lo w whi wlo != 0)=true:=by simp;omega
   rw[this,cond_t]
   exact .inr (.inr ⟨h1,.inl h2⟩)
theorem qk6 {n:LU}{v:Bool}{hi lo:Int}:¬ltHr n v hi lo n v hi lo:=fun h=>by
 rcases h with h|⟨_,_,_,h⟩
 · exact qfm h
 · rw[qbtn.2 rfl]at h;omega
theorem q1v {x y z:AV}(h1:ltH x y)(h2:ltH y z):ltH x z:=by
 unfold ltH at*
 rcases h1 with h1|⟨a1,a2,a3,a4⟩
 · rcases h2 with h2|⟨b1,b2,b3,b4⟩
   · exact .inl (q1n h1 h2)
   · left;rw[<-b1,<-b2,<-b3];exact h1
 · rcases h2 with h2|⟨b1,b2,b3,b4⟩
   · left;rw[a1,a2,a3];exact h2
   · exact .inr ⟨a1.trans b1,a2.trans b2,a3.trans b3,qbz3 a4 b4⟩
theorem qbqk {y:AV}:¬ltH y y:=qk6
theorem qbah {y z:AV}:ltH y z↔cmpH y z<0:=by
 unfold ltH cmpH
 rcases q3j (gS y.cells 0) (gB y.cells 1) (gI y.cells 2) (gI y.cells 3) (gS z.cells 0) (gB z.cells 1) (gI z.cells 2) (gI z.cells 3)with⟨h1,h2⟩|⟨h1,h2,h3,h4,h5⟩|⟨h1,h2⟩
 · exact⟨fun _=>h1,fun _=>h2⟩
 · refine⟨fun h=> ?_,fun h=>by omega⟩
   rw[h2,h3,h4,h5]at h
   exact absurd h qk6
 · refine⟨fun h=> ?_,fun h=>by omega⟩
   exact absurd (q1v (x:=y) (y:=z) (z:=y) h h2) qbqk
def samH (y z:AV):Bool:=gS y.cells 0==gS z.cells 0&&((gB y.cells 1==gB z.cells 1)&&((gI y.cells 2==gI z.cells 2)&&((gI y.cells 3==gI z.cells 3)&&true)))
def atH (n:LU)(v:Bool)(hi lo:Int)(y:AV):Bool:=gS y.cells 0==n&&((gB y.cells 1==v)&&((gI y.cells 2==hi)&&((gI y.cells 3==lo)&&true)))
theorem q0a {n:LU}{v:Bool}{hi lo:Int}{y:AV}:atH n v hi lo y=true↔gS y.cells 0=n/\gB y.cells 1=v/\gI y.cells 2=hi/\gI y.cells 3=lo:=by
 unfold atH;simp[and_assoc]
theorem q0b {n:LU}{v:Bool}{hi lo:Int}{y:AV}:atH n v hi lo y=true↔qeb (gS y.cells 0) (gB y.cells 1) (gI y.cells 2) (gI y.cells 3) n v hi lo=0:=by
 rw[q0a]
 rcases q3j (gS y.cells 0) (gB y.cells 1) (gI y.cells 2) (gI y.cells 3) n v hi lo with⟨h1,h2⟩|⟨h1,h2,h3,h4,h5⟩|⟨h1,h2⟩
 · refine⟨fun h=> ?_,fun h=>by omega⟩
   rw[h.1,h.2.1,h.2.2.1,h.2.2.2]at h2
   exact absurd h2 qk6
 · exact⟨fun _=>h1,fun _=>⟨h2,h3,h4,h5⟩⟩
 · refine⟨fun h=> ?_,fun h=>by omega⟩
   rw[h.1,h.2.1,h.2.2.1,h.2.2.2]at h2
   exact absurd h2 qk6
theorem q3k (n:LU)(v:Bool)(hi lo:Int)(m:LU)(w:Bool)(whi wlo:Int):(qeb n v hi lo m w whi wlo<0↔qeb m w whi wlo n v hi lo>0)/\(qeb n v hi lo m w whi wlo=0↔qeb m w whi wlo n v hi lo=0):=by
 have tr:∀{n v hi lo m w whi wlo},ltHr n v hi lo m w whi wlo->ltHr m w whi wlo n v hi lo->False:=fun {n v hi lo m w whi wlo} h1 h2=>
  qbqk (q1v (x:=mkH n v hi lo 0) (y:=mkH m w whi wlo 0) (z:=mkH n v hi lo 0) h1 h2)
 rcases q3j n v hi lo m w whi wlo with⟨h1,h2⟩|⟨h1,e1,e2,e3,e4⟩|⟨h1,h2⟩<;>rcases q3j m w whi wlo n v hi lo with⟨k1,k2⟩|⟨k1,k3,k4,k5,k6⟩|⟨k1,k2⟩
 · exact(tr h2 k2).elim
 · subst k3 k4 k5 k6;exact absurd h2 qk6
 · exact⟨by omega,by omega⟩
 · subst e1 e2 e3 e4;exact absurd k2 qk6
 · exact⟨by omega,by omega⟩
 · subst e1 e2 e3 e4;exact absurd k2 qk6
 · exact⟨by omega,by omega⟩
 · subst k3 k4 k5 k6;exact absurd h2 qk6
 · exact(tr h2 k2).elim
section
variable (n:LU)(v:Bool)(hi lo t:Int)(m:LU)(w:Bool)(whi wlo s:Int)(hn:n.length<=9223372036854775807)(hm:m.length<=9223372036854775807)
include hn hm
theorem qb3x:q15 n v hi lo t m w whi wlo s=some (qeb n v hi lo m w whi wlo):=by
 rw[qbma];unfold qrr qeb
 rw[qbrr,oB_s,qbqh n m hn hm,oB_s]
 cases(cmpA v hi lo w whi wlo != 0)<;>rfl
theorem qbw0:qsp n v hi lo t m w whi wlo s=some (qeb n v hi lo m w whi wlo):=by
 rw[qbn3];unfold qtr qeb
 rw[qbrr,oB_s,qbqh n m hn hm,oB_s]
 cases(cmpA v hi lo w whi wlo != 0)<;>rfl
theorem qbw1:qr0 n v hi lo t m w whi wlo s=some (decide (qeb n v hi lo m w whi wlo<0)):=by
 rw[qbgu];unfold qn4 qeb
 rw[qbyj,oB_s,qbqi n m hn hm]
 by_cases h:cmpA v hi lo w whi wlo<0
 · have:(cmpA v hi lo w whi wlo != 0)=true:=by simp;omega
   simp[h,this]
 · by_cases h2:cmpA v hi lo w whi wlo=0
   · simp[h2]
   · have:(cmpA v hi lo w whi wlo != 0)=true:=by simpa using h2
     have h3:(cmpA v hi lo w whi wlo==0)=false:=by simpa using h2
     simp[h,h3,this]
end
def q3l (x:LU):Bool:=x.head? ==some 42
def qli (x:LU):Bool:= !qbd x||q3l x
theorem qb77 {x:LU}(h:qbd x=true):∃c r,x=c::r:=by
 rcases qou h with⟨rfl,_⟩|⟨_,h2,_⟩
 · exact⟨_,_,rfl⟩
 · cases x with
   |nil=>simp at h2
   |cons c r=>exact⟨c,r,rfl⟩
theorem qbyu {R:Type}{x:LU}(h:qbd x=true)(k:Bool->Option R):(oB (ixB x (0:Int)) fun c=>k ((c.toNat:Int)==(42:Int)))=k (q3l x):=by
 obtain⟨c,r,rfl⟩:=qb77 h
 simp only[ixB_zero,List.getElem?_cons_zero,oB_s,q3l,List.head?_cons]
 congr 1
 rw[Bool.eq_iff_iff]
 simp only[beq_iff_eq,Option.some.injEq]
 constructor
 · intro h;have:c.toNat=42:=by omega
   exact UInt8.toNat_inj.1 this
 · intro h;rw[h];rfl
theorem qbll {R:Type}{x:LU}(h:qbd x=true)(k:Bool->Option R):(bif(decide (((avS (ql x)).length:Int)>(0:Int)))then(oB (ixB (avS (ql x)) (0:Int)) fun y2=>(bif fitC [.s] y2.cells then(k ((gS y2.cells 0)==([42]:List UInt8)))else none))else k false)=k (q3l x):=by
 have hs:=qb1v h
 unfold q3l
 cases hl:ql x with
 |nil=>
  rw[hl]at hs
  have:(x.head? ==some 42)=false:=by
   rw[Bool.eq_false_iff]
   intro e
   have:=hs.2 (by simpa using e)
   simp at this
  simp[avS,this]
 |cons a r=>
  rw[hl]at hs
  have e:(a==[42])=(x.head? ==some 42):=by
   rw[Bool.eq_iff_iff]
   simp only[beq_iff_eq]
   rw[<-hs];simp
  have hpos:(((avS (a::r)).length:Int)>0):=by simp[avS]
  rw[decide_eq_true hpos,cond_t]
  simp only[ixB_zero]
  show k (a==[42])=_
  rw[e]
def que (n:LU)(v:Bool)(hi lo t:Int):Int:=bif qli n then 2 else bif !qew v hi lo then 3 else bif(decide (t<0)||decide (t>2147483647))then 1 else 0
theorem qb3y (n:LU)(v:Bool)(hi lo t:Int)(hn:n.length<=9223372036854775807):q14 n v hi lo t=some (que n v hi lo t):=by
 rw[qbl8];unfold qro
 rw[qbd1];unfold qmj
 rw[qtd n hn,oB_s,qbnb,oB_s]
 unfold que qli
 cases h:qbd n
 · simp
 · simp only[Bool.not_true,cond_f,Bool.false_or]
   rw[qbyu h (fun b=>bif b then some 2 else bif !qew v hi lo then some 3 else bif(decide (t<0)||decide (t>2147483647))then some 1 else some 0)]
   cases q3l n<;>simp only[cond_t,cond_f]
   cases qew v hi lo<;>simp only[Bool.not_true,Bool.not_false,cond_t,cond_f]
   cases(decide (t<0)||decide (t>2147483647))<;>rfl
theorem qb1z (n:LU)(hn:n.length<=9223372036854775807)(h:qbd n=true):qwb n=some (q3l n):=by
 rw[qbeg];unfold qmu
 rw[qb1u n hn,oB_s]
 exact qbll h some
theorem qb3z (n:LU)(hn:n.length<=9223372036854775807)(h:qbd n=true):q18 n=some (q3l n):=by
 rw[qbmd];unfold qrt
 rw[qbni n hn,oB_s]
 exact qbll h some
def qqm (y:AV):Int:=que (gS y.cells 0) (gB y.cells 1) (gI y.cells 2) (gI y.cells 3) (gI y.cells 4)
def qyx (p:Option AV)(y:AV):Int:=match p with
 |none=>0
 |some z=>bif decide (cmpH y z<0)then 7 else bif(cmpH y z==0)then 12 else 0
def errH (p:Option AV)(y:AV):Int:=bif qqm y != 0 then qqm y else qyx p y
def chkH:Option AV->List AV->Int
 |_,[]=>0
 |p,y::r=>bif errH p y != 0 then errH p y else chkH (some y) r
def qe5 (l:LA):Int:=bif decide ((l.length:Int)>256)then 9 else chkH none l
def qk1 (l:LA)(i:Nat):Option AV:=match i with
 |0=>none
 |i+1=>l[i]?
theorem qb30 (l:LA)(hl:qim l):q16 l=some (qe5 l):=by
 rw[qbmb];unfold qrs qe5
 by_cases hlen:(l.length:Int)>256
 · simp[hlen]
 · simp only[hlen,decide_false,cond_f]
   rw[qbax,qbi7 l hl.1 (qhy l l (l.length:Int) fun _=>some 0) (fun i nx=>qhx l l (l.length:Int) i nx fun _=>some 0) (fun _ _=>rfl) (fun i r=>some (chkH (qk1 l i) r))]
   · rfl
   · intro nx;simp[qhx,chkH]
   · intro i y r nx h1 h2 h3 h4 h5
     have hy:=hl.2 y (List.mem_of_getElem? h2)
     have h6:(i:Int)<(l.length:Int):=by omega
     unfold qhx chkH
     simp only[h6,decide_true,cond_t,ixB_nat,h2,oB_s,hy.1,qb3y _ _ _ _ _ hy.2.2.2,h4,h5]
     rw[show qk1 l (i+1)=some y from h2]
     unfold errH
     rw[show que (gS y.cells 0) (gB y.cells 1) (gI y.cells 2) (gI y.cells 3) (gI y.cells 4)=qqm y from rfl]
     cases hf:(qqm y != 0)
     · simp only[cond_f]
       cases i with
       |zero=>simp[qk1,qyx]
       |succ i=>
        have e0:(((i+1:Nat):Int)==0)=false:=by simp;omega
        have hw:IntKind.i64.wrap (((i+1:Nat):Int)-1)=(i:Int):=by rw[w64 (by omega) (by have:=hl.1;omega)];omega
        obtain⟨x,hx⟩:∃x,l[i]?=some x:=⟨l[i],by simp⟩
        have hxf:=hl.2 x (List.mem_of_getElem? hx)
        simp only[e0,cond_f,hw,ixB_nat,hx,oB_s,hxf.1,cond_t,qb3x _ _ _ _ _ _ _ _ _ _ hy.2.2.2 hxf.2.2.2]
        rw[show qk1 l (i+1)=some x from hx]
        unfold qyx
        rw[show qeb (gS y.cells 0) (gB y.cells 1) (gI y.cells 2) (gI y.cells 3) (gS x.cells 0) (gB x.cells 1) (gI x.cells 2) (gI x.cells 3)=cmpH y x from rfl]
        by_cases c1:cmpH y x<0
        · simp[c1,hf]
        · by_cases c2:cmpH y x=0
          · simp[c2,hf]
          · have c3:(cmpH y x==0)=false:=by simpa using c2
            simp[c1,c3,hf]
     · simp[hf]
theorem qbql (l:LA)(hl:qim l):qty l=some (qe5 l):=by
 rw[qbkk];unfold qpp qe5
 by_cases hlen:(l.length:Int)>256
 · simp[hlen]
 · simp only[hlen,decide_false,cond_f]
   rw[q84,qbi7 l hl.1 (qgu l fun _=>some 0) (fun i nx=>qgt l i nx fun _=>some 0) (fun _ _=>rfl) (fun i r=>some (chkH (qk1 l i) r))]
   · rfl
   · intro nx;simp[qgt,chkH]
   · intro i y r nx h1 h2 h3 h4 h5
     have hy:=hl.2 y (List.mem_of_getElem? h2)
     have h6:(i:Int)<(l.length:Int):=by omega
     unfold qgt chkH
     simp only[h6,decide_true,cond_t,ixB_nat,h2,oB_s,hy.1,h4,h5]
     rw[show qk1 l (i+1)=some y from h2]
     have hJ27:∀kn:Bool->Option Int,qsu l (i:Int) (gS y.cells 0) (gB y.cells 1) (gI y.cells 2) (gI y.cells 3) (gI y.cells 4) kn=kn (qli (gS y.cells 0)):=fun kn=>by
      rw[q8z];unfold qkq qli
      rw[qbil _ hy.2.2.2,oB_s]
      cases h:qbd (gS y.cells 0)
      · simp
      · rw[qb1z _ hy.2.2.2 h];simp
     rw[hJ27,q6x,oB_s]
     have hJ51:∀kn:Bool->Option Int,qsv l (i:Int) (gS y.cells 0) (gB y.cells 1) (gI y.cells 2) (gI y.cells 3) (gI y.cells 4) kn=kn (match qk1 l i with
      |none=>false
      |some x=>decide (cmpH y x<0)):=fun kn=>by
      rw[q81];unfold qkr
      cases i with
      |zero=>simp[qk1]
      |succ i=>
       have hpos:((i+1:Nat):Int)>0:=by omega
       have hw:IntKind.i64.wrap (((i+1:Nat):Int)-1)=(i:Int):=by rw[w64 (by omega) (by have:=hl.1;omega)];omega
       obtain⟨x,hx⟩:∃x,l[i]?=some x:=⟨l[i],by simp⟩
       have hxf:=hl.2 x (List.mem_of_getElem? hx)
       simp only[hpos,decide_true,cond_t,hw,ixB_nat,hx,oB_s,hxf.1,qbw1 _ _ _ _ _ _ _ _ _ _ hy.2.2.2 hxf.2.2.2]
       rw[show qk1 l (i+1)=some x from hx]
       rfl
     have hJ58:∀kn:Bool->Option Int,qsw l (i:Int) (gS y.cells 0) (gB y.cells 1) (gI y.cells 2) (gI y.cells 3) (gI y.cells 4) kn=kn (match qk1 l i with
      |none=>false
      |some x=>samH y x):=fun kn=>by
      rw[q83];unfold qks
      cases i with
      |zero=>simp[qk1]
      |succ i=>
       have hpos:((i+1:Nat):Int)>0:=by omega
       have hw:IntKind.i64.wrap (((i+1:Nat):Int)-1)=(i:Int):=by rw[w64 (by omega) (by have:=hl.1;omega)];omega
       obtain⟨x,hx⟩:∃x,l[i]?=some x:=⟨l[i],by simp⟩
       have hxf:=hl.2 x (List.mem_of_getElem? hx)
       simp only[hpos,decide_true,cond_t,hw,ixB_nat,hx,oB_s,hxf.1]
       rw[show qk1 l (i+1)=some x from hx]
       unfold samH
       simp only
       cases h:(gS y.cells 0==gS x.cells 0)<;>simp only[cond_t,cond_f,Bool.false_and,Bool.true_and]
     rw[hJ51,hJ58]
     unfold errH qqm que
     cases qli (gS y.cells 0)<;>simp only[cond_t,cond_f]
     · cases qew (gB y.cells 1) (gI y.cells 2) (gI y.cells 3)<;>simp only[Bool.not_true,Bool.not_false,cond_t,cond_f]
       · rfl
       · cases(decide (gI y.cells 4<0)||decide (gI y.cells 4>2147483647))<;>simp only[cond_t,cond_f]
         · unfold qyx
           cases hp:qk1 l i with
           |none=>simp
           |some x=>
            simp only
            have hsam:samH y x=(cmpH y x==0):=by
             rw[Bool.eq_iff_iff]
             have:=q0b (n:=gS x.cells 0) (v:=gB x.cells 1) (hi:=gI x.cells 2) (lo:=gI x.cells 3) (y:=y)
             rw[show samH y x=atH (gS x.cells 0) (gB x.cells 1) (gI x.cells 2) (gI x.cells 3) y from rfl,this]
             simp[cmpH]
            rw[hsam]
            by_cases c1:cmpH y x<0
            · simp[c1]
            · by_cases c2:cmpH y x=0
              · simp[c2]
              · have c3:(cmpH y x==0)=false:=by simpa using c2
                simp[c1,c3]
         · rfl
     · rfl
def blkd (l:LA)(v:Bool)(hi lo:Int):Bool:=(qwm (fun y=>qf7 (gB y.cells 0) (gI y.cells 1) (gI y.cells 2) (gI y.cells 3) v hi lo) l).2&&
 ((gI (qwm (fun y=>qf7 (gB y.cells 0) (gI y.cells 1) (gI y.cells 2) (gI y.cells 3) v hi lo) l).1.cells 4==2)||(gI (qwm (fun y=>qf7 (gB y.cells 0) (gI y.cells 1) (gI y.cells 2) (gI y.cells 3) v hi lo) l).1.cells 4==3))
theorem qbw2 (x:AV×Bool):(bif x.2 then(bif((gI x.1.cells 4)==(2:Int))then(some true)else(some ((gI x.1.cells 4)==(3:Int))))else(some false))=some (x.2&&((gI x.1.cells 4==2)||(gI x.1.cells 4==3))):=by
 cases x.2
 · rfl
 · simp only[cond_t,Bool.true_and]
   cases(gI x.1.cells 4==2)<;>rfl
theorem qbqm (l:LA)(hl:qq l)(n:LU)(v:Bool)(hi lo t:Int):qri l n v hi lo t=some (blkd l v hi lo):=by
 rw[qbfv];unfold qnq blkd
 rw[qb3g l hl,oB_s,qbw2]
theorem qbin (l:LA)(hl:qq l)(v:Bool)(hi lo:Int)(u1:uok hi)(u2:uok lo):qlc l v hi lo=some (blkd l v hi lo):=by
 rw[qbel];unfold qmy blkd
 rw[qb1p l hl v hi lo u1 u2,oB_s,qbw2]
def qb7e (z:AV):Prop:=fitC [.s] z.cells=true/\(gS z.cells 0).length<=9223372036854775807
def q3t (l:LA):Prop:=l.length<=9223372036854775807/\∀z,z∈l->qb7e z
def qjy (zs:LA)(n:LU):Bool:=zs.any fun z=>qvk n (gS z.cells 0)
theorem qbrz (zs:LA)(hz:q3t zs)(n:LU)(hn:n.length<=9223372036854775807):qok zs n=some (qjy zs n):=by
 rw[qbkn];unfold qpr qjy
 rw[qbbg,qeg zs hz.1 (qh0 zs n fun _=>some false) (fun i nx=>qhz zs n i nx fun _=>some false) (fun _ _=>rfl) (fun r=>some (r.any fun z=>qvk n (gS z.cells 0)))]
 · intro nx;simp[qhz]
 · intro i z r nx h1 h2 h3 h4 h5
   have hy:=hz.2 z (List.mem_of_getElem? h2)
   have h6:(i:Int)<(zs.length:Int):=by omega
   unfold qhz
   simp only[h6,decide_true,cond_t,ixB_nat,h2,oB_s,hy.1,h4,h5,qb3v n _ hn hy.2,List.any_cons]
   cases qvk n (gS z.cells 0)<;>simp
theorem qbtq (zs:LA)(hz:q3t zs)(n:LU)(hn:n.length<=9223372036854775807):qts zs n=some (qjy zs n):=by
 rw[qbj6];unfold qo9
 rw[qi4];unfold qbw
 rw[qkd];unfold qb0
 rw[qi2]
 have key:=qcj (σ:=List UInt8) zs hz.1 (fun k i s=>qbf zs (zs.length:Int) (fun b0_0q1=>(fun v4q1 b0_0q2=>(fun v4q1 b0_0q2=>(some v4q1:Option Bool)) (decide (v4q1>=0)) b0_0q2) (-1:Int) b0_0q1) (fun v4q1 b0_0q2=>(fun v4q1 b0_0q2=>(some v4q1:Option Bool)) (decide (v4q1>=0)) b0_0q2) k i s)
  (fun i s nx=>qbe zs (zs.length:Int) i s nx (fun b0_0q1=>(fun v4q1 b0_0q2=>(fun v4q1 b0_0q2=>(some v4q1:Option Bool)) (decide (v4q1>=0)) b0_0q2) (-1:Int) b0_0q1) (fun v4q1 b0_0q2=>(fun v4q1 b0_0q2=>(some v4q1:Option Bool)) (decide (v4q1>=0)) b0_0q2)) (fun _ _ _=>rfl)
  (fun _ s=>s=n) (fun r _=>some (r.any fun z=>qvk n (gS z.cells 0))) ?_ ?_ n FU rfl (qcq (by have:=hz.1;omega))
 · exact key
 · intro s nx hs;simp[qbe]
 · intro i z r s nx h1 h2 h3 h4 hs h5
   subst hs
   have hy:=hz.2 z (List.mem_of_getElem? h2)
   have h6:(i:Int)<(zs.length:Int):=by omega
   unfold qbe
   simp only[h6,decide_true,cond_t,ixB_nat,h2,oB_s,hy.1,h4]
   rw[qbd5];unfold qmk
   rw[qb55 s _ hn hy.2,oB_s]
   show(bif qvk s (gS z.cells 0)then some (decide ((i:Int)>=0))else nx ((i+1:Nat):Int) s)=_
   rw[h5 s rfl,List.any_cons]
   have:decide ((i:Int)>=0)=true:=by simp
   cases qvk s (gS z.cells 0)<;>simp[this]
def badZ (p:Option AV)(z:AV):Bool:= !qbd (gS z.cells 0)||match p with
 |none=>false
 |some x=>decide (cmpN (gS x.cells 0) (gS z.cells 0)>=0)
def chkZ (k:Int):Option AV->List AV->Int
 |_,[]=>k
 |p,z::r=>bif badZ p z then 2 else chkZ k (some z) r
def chkS (b z:LA):List AV->Int
 |[]=>0
 |h::r=>bif !blkd b (gB h.cells 1) (gI h.cells 2) (gI h.cells 3)then 25 else bif !qjy z (gS h.cells 0)then 13 else chkS b z r
def qbai (b h z:LA):Int:=bif qtb b != 0 then qtb b else bif qe5 h != 0 then qe5 h else bif decide ((z.length:Int)>32)then 9 else chkZ (chkS b z h) none z
section
variable (b h z:LA)(hb:qq b)(hh:qim h)(hz:q3t z)
include hb hh hz
theorem qb7f:qsz b h z (fun _=>some 0) FU 0=some (chkS b z h):=by
 rw[q9a,qeg h hh.1 (qgz b h z fun _=>some 0) (fun i nx=>qgy i b h z nx fun _=>some 0) (fun _ _=>rfl) (fun r=>some (chkS b z r))]
 · intro nx;simp[qgy,chkS]
 · intro i y r nx h1 h2 h3 h4 h5
   have hy:=hh.2 y (List.mem_of_getElem? h2)
   have h6:(i:Int)<(h.length:Int):=by omega
   unfold qgy chkS
   simp only[h6,decide_true,cond_t,ixB_nat,h2,oB_s,hy.1,h4,h5,qbin b hb _ _ _ hy.2.1 hy.2.2.1,qbrz z hz _ hy.2.2.2]
   cases blkd b (gB y.cells 1) (gI y.cells 2) (gI y.cells 3)<;>simp only[Bool.not_true,Bool.not_false,cond_t,cond_f]
   cases qjy z (gS y.cells 0)<;>rfl
theorem qb10:qzq b h z=some (qbai b h z):=by
 rw[qbko];unfold qps qbai
 rw[qb1l b hb,oB_s,qbql h hh,oB_s]
 cases(qtb b != 0)
 case true=>rfl
 cases(qe5 h != 0)
 case true=>rfl
 simp only[cond_f]
 by_cases hlen:(z.length:Int)>32
 · simp[hlen]
 · simp only[hlen,decide_false,cond_f]
   rw[qb7f b h z hb hh hz]
   rw[q89,qbi7 z hz.1 (qgx b h z fun _=>some (chkS b z h)) (fun i nx=>qgw i b h z nx fun _=>some (chkS b z h)) (fun _ _=>rfl) (fun i r=>some (chkZ (chkS b z h) (qk1 z i) r))]
   · rfl
   · intro nx;simp[qgw,chkZ]
   · intro i y r nx h1 h2 h3 h4 h5
     have hy:=hz.2 y (List.mem_of_getElem? h2)
     have h6:(i:Int)<(z.length:Int):=by omega
     unfold qgw chkZ
     simp only[h6,decide_true,cond_t,h4,h5]
     rw[show qk1 z (i+1)=some y from h2]
     have hJ:∀kn:Bool->Option Int,qsy (i:Int) b h z kn=kn (badZ (qk1 z i) y):=fun kn=>by
      rw[q88];unfold qkt badZ
      simp only[ixB_nat,h2,oB_s,hy.1,cond_t]
      rw[qbil _ hy.2,oB_s]
      cases qbd (gS y.cells 0)
      · rfl
      · simp only[Bool.not_true,cond_f,Bool.false_or]
        cases i with
        |zero=>simp[qk1]
        |succ i=>
         have hpos:((i+1:Nat):Int)>0:=by omega
         have hw:IntKind.i64.wrap (((i+1:Nat):Int)-1)=(i:Int):=by rw[w64 (by omega) (by have:=hz.1;omega)];omega
         obtain⟨x,hx⟩:∃x,z[i]?=some x:=⟨z[i],by simp⟩
         have hxf:=hz.2 x (List.mem_of_getElem? hx)
         simp only[hpos,decide_true,cond_t,hw,ixB_nat,hx,oB_s,hxf.1,h2,hy.1,qbqi _ _ hxf.2 hy.2]
         rw[show qk1 z (i+1)=some x from hx]
     rw[hJ]
     cases badZ (qk1 z i) y<;>rfl
end
def Cutt (l:LA)(n:LU)(v:Bool)(hi lo:Int)(r:Nat):Prop:=r<=l.length/\∀(k:Nat) (y:AV),l[k]?=some y->(qeb (gS y.cells 0) (gB y.cells 1) (gI y.cells 2) (gI y.cells 3) n v hi lo<0↔k<r)
theorem qbyv (y:AV)(n:LU)(v:Bool)(hi lo t:Int):cmpH y (mkH n v hi lo t)=qeb (gS y.cells 0) (gB y.cells 1) (gI y.cells 2) (gI y.cells 3) n v hi lo:=rfl
theorem qbyw (y:AV)(n:LU)(v:Bool)(hi lo t:Int):cmpH (mkH n v hi lo t) y=qeb n v hi lo (gS y.cells 0) (gB y.cells 1) (gI y.cells 2) (gI y.cells 3):=rfl
theorem qbqn (n:LU)(v:Bool)(hi lo:Int):∀{l:LA},l.Pairwise ltH->∃r,Cutt l n v hi lo r
 |[],_=>⟨0,Nat.le_refl _,fun k y h=>by simp at h⟩
 |y::l,hp=>by
  rw[List.pairwise_cons]at hp
  obtain⟨r,h1,h2⟩:=qbqn n v hi lo hp.2
  by_cases hc:qeb (gS y.cells 0) (gB y.cells 1) (gI y.cells 2) (gI y.cells 3) n v hi lo<0
  · refine⟨r+1,by simp;omega,fun k z hz=> ?_⟩
    cases k with
    |zero=>simp at hz;subst hz;exact⟨fun _=>by omega,fun _=>hc⟩
    |succ k=>rw[h2 k z (by simpa using hz)];omega
  · refine⟨0,Nat.zero_le _,fun k z hz=> ?_⟩
    refine⟨fun h=> ?_,fun h=>by omega⟩
    exfalso
    cases k with
    |zero=>simp at hz;subst hz;exact hc h
    |succ k=>
     have hyz:=hp.1 z (List.mem_of_getElem? (by simpa using hz))
     rw[<-qbyv z n v hi lo 0]at h
     rw[<-qbyv y n v hi lo 0]at hc
     exact hc (qbah.1 (q1v hyz (qbah.2 h)))
theorem qb7g {i j:Nat}(h:i+j<=9223372036854775807):IntKind.i64.wrap ((IntKind.u64.wrap (IntKind.i64.wrap ((i:Int)+(j:Int)))).fdiv (2^min (1:Int).toNat IntKind.u64.bits))=(((i+j) / 2:Nat):Int):=by
 rw[w64 (i:=(i:Int)+(j:Int)) (by omega) (by omega),wu64 (by omega) (by omega)]
 have e:(2:Int)^min (1:Int).toNat IntKind.u64.bits=2:=by decide
 rw[e,Int.fdiv_eq_ediv_of_nonneg _ (by omega),w64 (by omega) (by omega)]
 omega
theorem qbnj (l:LA)(hl:qim l)(hn:l.length<=1000000)(n:LU)(v:Bool)(hi lo t:Int)(hnm:n.length<=9223372036854775807){r:Nat}(hr:Cutt l n v hi lo r)(kx:Int->Option (Int×Bool)):
 ∀(m i j:Nat),i<=r->r<=j->j<=l.length->j-i<m->qm l (l.length:Int) n v hi lo t kx m (i:Int) (j:Int)=kx (r:Int)
 |0,i,j,_,_,_,h=>by omega
 |m+1,i,j,h1,h2,h3,h4=>by
  unfold qm qbr
  by_cases hij:i<j
  · have e1:(i:Int)<(j:Int):=by omega
    rw[decide_eq_true e1,cond_t]
    have e2:=qb7g (i:=i) (j:=j) (by omega)
    rw[e2,ixB_nat]
    have hk:(i+j) / 2<l.length:=by omega
    obtain⟨y,hy⟩:∃y,l[(i+j) / 2]?=some y:=⟨l[(i+j) / 2],by simp[hk]⟩
    have hyf:=hl.2 y (List.mem_of_getElem? hy)
    rw[hy,oB_s,hyf.1,cond_t,qbw0 _ _ _ _ _ _ _ _ _ _ hyf.2.2.2 hnm,oB_s]
    have hc:=hr.2 _ y hy
    by_cases hlt:qeb (gS y.cells 0) (gB y.cells 1) (gI y.cells 2) (gI y.cells 3) n v hi lo<0
    · rw[decide_eq_true hlt,cond_t,w64 (by omega) (by omega)]
      have:=hc.1 hlt
      have ih:=qbnj l hl hn n v hi lo t hnm hr kx m ((i+j) / 2+1) j (by omega) h2 h3 (by omega)
      rw[show(((i+j) / 2:Nat):Int)+1=(((i+j) / 2+1:Nat):Int) by omega]
      exact ih
    · rw[decide_eq_false hlt,cond_f]
      have:¬(i+j) / 2<r:=fun h=>hlt (hc.2 h)
      exact qbnj l hl hn n v hi lo t hnm hr kx m i ((i+j) / 2) h1 (by omega) (by omega) (by omega)
  · have e1:¬(i:Int)<(j:Int):=by omega
    rw[decide_eq_false e1,cond_f,show i=r by omega]
theorem qbw3 (l:LA)(hl:qim l)(hn:l.length<=1000000)(hp:l.Pairwise ltH)(n:LU)(v:Bool)(hi lo t:Int)(hnm:n.length<=9223372036854775807){r:Nat}(hr:Cutt l n v hi lo r):qu4 l n v hi lo t=some ((r:Int),l.any (atH n v hi lo)):=by
 rw[qbq2];unfold qvw
 rw[qe7];unfold qbc
 rw[qey]
 have:=qbnj l hl hn n v hi lo t hnm hr (fun v9q1=>(bif(decide (v9q1<(l.length:Int)))then(oB (ixB l v9q1) fun y2=>(bif fitC qj y2.cells then(oB (qsp (gS y2.cells 0) (gB y2.cells 1) (gI y2.cells 2) (gI y2.cells 3) (gI y2.cells 4) n v hi lo t) fun r3=>(some (v9q1,(r3==(0:Int)))))else none))else(some (v9q1,false)))) FU 0 l.length (Nat.zero_le _) hr.1 (Nat.le_refl _) (qcq (by omega))
 rw[Int.natCast_zero]at this
 rw[this]
 have hany:l.any (atH n v hi lo)=match l[r]? with
  |some y=>atH n v hi lo y
  |none=>false:=by
  cases hy:l[r]? with
  |none=>
   simp only
   rw[Bool.eq_false_iff]
   intro h
   obtain⟨y,hym,hat⟩:=List.any_eq_true.1 h
   obtain⟨k,hk,rfl⟩:=List.mem_iff_getElem.1 hym
   have h0:=q0b.1 hat
   have:=(hr.2 k l[k] (by simp[hk])).2 (by have:=List.getElem?_eq_none_iff.1 hy;omega)
   omega
  |some y=>
   simp only
   have hrl:=(List.getElem?_eq_some_iff.1 hy).1
   rw[Bool.eq_iff_iff,List.any_eq_true]
   refine⟨?_,fun h=>⟨y,List.mem_of_getElem? hy,h⟩⟩
   rintro⟨z,hzm,hat⟩
   obtain⟨k,hk,rfl⟩:=List.mem_iff_getElem.1 hzm
   have h0:=q0b.1 hat
   have hkr:¬k<r:=fun h=>by have:=(hr.2 k l[k] (by simp[hk])).2 h;omega
   rcases Nat.lt_or_ge r k with h|h
   · exfalso
     have hlt:=List.pairwise_iff_getElem.1 hp r k hrl hk h
     have hnl:¬qeb (gS y.cells 0) (gB y.cells 1) (gI y.cells 2) (gI y.cells 3) n v hi lo<0:=fun h=>by have:=(hr.2 r y hy).1 h;omega
     apply hnl
     have ey:l[r]=y:=by have:=List.getElem?_eq_some_iff.1 hy;exact this.2
     rw[ey]at hlt
     obtain⟨e1,e2,e3,e4⟩:=q0a.1 hat
     have:=qbah.1 hlt
     unfold cmpH at this
     rw[e1,e2,e3,e4]at this
     exact this
   · have:k=r:=by omega
     subst this
     have ey:l[k]=y:=by have:=List.getElem?_eq_some_iff.1 hy;exact this.2
     rw[ey]at hat;exact hat
 rw[hany]
 by_cases hrl:r<l.length
 · have e1:(r:Int)<(l.length:Int):=by omega
   obtain⟨y,hy⟩:∃y,l[r]?=some y:=⟨l[r],by simp[hrl]⟩
   have hyf:=hl.2 y (List.mem_of_getElem? hy)
   simp only[e1,decide_true,cond_t,ixB_nat,hy,oB_s,hyf.1,qbw0 _ _ _ _ _ _ _ _ _ _ hyf.2.2.2 hnm]
   have:(qeb (gS y.cells 0) (gB y.cells 1) (gI y.cells 2) (gI y.cells 3) n v hi lo==0)=atH n v hi lo y:=by
    rw[Bool.eq_iff_iff,q0b];simp
   rw[this]
 · have e1:¬(r:Int)<(l.length:Int):=by omega
   have hy:l[r]?=none:=List.getElem?_eq_none_iff.2 (by omega)
   simp[e1,hy]
def insH (x:AV):List AV->List AV
 |[]=>[x]
 |y::r=>bif decide (cmpH x y<0)then x::y::r else y::insH x r
theorem q1w (x y:AV)(r:LA):insH x (y::r)=bif decide (cmpH x y<0)then x::y::r else y::insH x r:=rfl
theorem qbc8 (x:AV):∀l,(insH x l).length=l.length+1
 |[]=>rfl
 |y::r=>by rw[q1w];cases decide (cmpH x y<0)<;>simp[qbc8 x r]
theorem qp9 {x y:AV}:∀{l:LA},y∈insH x l↔y=x\/y∈l
 |[]=>by simp[insH]
 |z::r=>by
  rw[q1w]
  cases decide (cmpH x z<0)
  · simp only[cond_f,List.mem_cons,qp9 (l:=r)]
    constructor
    · rintro(h|h|h)
      · exact .inr (.inl h)
      · exact .inl h
      · exact .inr (.inr h)
    · rintro(h|h|h)
      · exact .inr (.inl h)
      · exact .inl h
      · exact .inr (.inr h)
  · simp
theorem qbr0 (n:LU)(v:Bool)(hi lo t:Int):∀{l:LA} {r:Nat},Cutt l n v hi lo r->l.any (atH n v hi lo)=false->l.take r++[mkH n v hi lo t]++l.drop r=insH (mkH n v hi lo t) l
 |[],r,_,_=>by simp[insH]
 |y::l,r,hr,ha=>by
  simp only[List.any_cons,Bool.or_eq_false_iff]at ha
  have h0:=hr.2 0 y rfl
  have hs:=(q3k (gS y.cells 0) (gB y.cells 1) (gI y.cells 2) (gI y.cells 3) n v hi lo)
  have hne:¬qeb (gS y.cells 0) (gB y.cells 1) (gI y.cells 2) (gI y.cells 3) n v hi lo=0:=fun h=>by rw[q0b.2 h]at ha;simp at ha
  rw[q1w]
  rw[qbyw]
  cases r with
  |zero=>
   have h1:¬qeb (gS y.cells 0) (gB y.cells 1) (gI y.cells 2) (gI y.cells 3) n v hi lo<0:=fun h=>by have:=h0.1 h;omega
   have h2:=q3k n v hi lo (gS y.cells 0) (gB y.cells 1) (gI y.cells 2) (gI y.cells 3)
   have:qeb n v hi lo (gS y.cells 0) (gB y.cells 1) (gI y.cells 2) (gI y.cells 3)<0:=h2.1.2 (by omega)
   simp[this]
  |succ r=>
   have h1:=h0.2 (by omega)
   have:¬qeb n v hi lo (gS y.cells 0) (gB y.cells 1) (gI y.cells 2) (gI y.cells 3)<0:=by have:=hs.1.1 h1;omega
   have ih:=qbr0 n v hi lo t (l:=l) (r:=r) ⟨by have:=hr.1;simp at this;omega,fun k z hz=>by
    have:=hr.2 (k+1) z (by simpa using hz)
    rw[this];omega⟩ ha.2
   simp only[this,decide_false,cond_f,List.take_succ_cons,List.drop_succ_cons,List.cons_append]
   rw[<-ih]
theorem qb11 (l:LA)(hn:l.length<=100000){r:Nat}(hr:r<=l.length)(x:AV):qop 48 l (r:Int) [x]=some (l.take r++[x]++l.drop r):=by
 unfold qop
 have:decide (0<=(r:Int)/\(r:Int)<=(l.length:Int)/\0<([x]:List AV).length/\(l.length+([x]:List AV).length)*48<=140737488355328)=true:=by
  simp;omega
 rw[this];simp
theorem qb7h (l:LA)(hn:l.length<=100000){r:Nat}(hr:r<l.length):qxb l (r:Int) ((r+1:Nat):Int)=some (l.take r++l.drop (r+1)):=by
 unfold qxb
 have:decide (0<=(r:Int)/\(r:Int)<((r+1:Nat):Int)/\((r+1:Nat):Int)<=(l.length:Int)/\l.length<=9223372036854775807)=true:=by
  simp;omega
 rw[this];simp
theorem qbyx (l:LA)(hl:qim l)(n:LU)(v:Bool)(hi lo:Int):qt1 l n v hi lo=some (idxI (atH n v hi lo) l):=by
 rw[qbkv];unfold qpv idxI
 rw[qbbt,qbi7 l hl.1 (qh4 l n v hi lo fun _=>some (-1)) (fun i nx=>qh3 l n i v hi lo nx fun _=>some (-1)) (fun _ _=>rfl) (fun i r=>some (match idxO (atH n v hi lo) r with
  |some k=>((i+k:Nat):Int)
  |none=> -1))]
 · cases idxO (atH n v hi lo) l<;>simp
 · intro nx;simp[qh3,idxO]
 · intro i y r nx h1 h2 h3 h4 h5
   have hy:=hl.2 y (List.mem_of_getElem? h2)
   have h6:(i:Int)<(l.length:Int):=by omega
   unfold qh3 idxO
   simp only[h6,decide_true,cond_t,ixB_nat,h2,oB_s,hy.1,h4,h5]
   unfold atH
   cases(gS y.cells 0==n)
   · simp only[cond_f,Bool.false_and,Bool.false_eq_true,if_false]
     cases idxO _ r with
     |none=>rfl
     |some k=>simp;omega
   · simp only[cond_t,Bool.true_and]
     cases hq:((gB y.cells 1==v)&&((gI y.cells 2==hi)&&((gI y.cells 3==lo)&&true)))
     · simp only[cond_f,Bool.false_eq_true,if_false]
       cases idxO _ r with
       |none=>rfl
       |some k=>simp;omega
     · simp
theorem qbi8 {R:Type}{a:LA}(x:AV)(h:(a.length+1)*48<=140737488355328)(k:Option R):(bif decide ((a.length+([x]:List AV).length)*48<=140737488355328)then k else none)=k:=by
 have:decide ((a.length+([x]:List AV).length)*48<=140737488355328)=true:=by simpa using h
 rw[this];rfl
theorem qbw4 (l:LA)(hl:qim l)(hn:l.length<=100000)(k:Nat):qwj l (k:Int)=some (l.take k++l.drop (k+1)):=by
 rw[qbe9];unfold qm8
 simp only[qqn,List.length_nil,Bool.and_self,cond_t]
 rw[q7u]
 have key:=qcj (σ:=List AV) l hl.1 (fun n i s=>qf4 l (k:Int) (fun a0q1=>bif hd a0q1 a0q1.length then some a0q1 else none) n i s) (fun i s nx=>qf3 l (k:Int) i s nx (fun a0q1=>bif hd a0q1 a0q1.length then some a0q1 else none)) (fun _ _ _=>rfl)
  (fun i s=>s.length<=i) (fun r s=>some (s++(bif decide (l.length-r.length<=k)then r.take (k-(l.length-r.length))++r.drop (k-(l.length-r.length)+1)else r))) ?_ ?_ [] FU (by simp) (qcq (by have:=hl.1;omega))
 · simpa using key
 · intro a nx hJ;simp[qf3]
 · intro i y r a nx h1 h2 h3 h4 hJ h5
   have hy:=hl.2 y (List.mem_of_getElem? h2)
   have h6:(i:Int)<(l.length:Int):=by omega
   have hyy:=qbc7 hy.1
   unfold mkH at hyy
   obtain⟨e1,e2⟩:=qbwl h1
   unfold qf3
   simp only[h6,decide_true,cond_t,hd_self,ixB_nat,h2,oB_s,hy.1,h4,hyy]
   rw[qbi8 y (by omega),e1]
   have f1:=h5 (a++[y]) (by simp;omega)
   have f2:=h5 a (by omega)
   rw[e2]at f1 f2
   by_cases hik:i=k
   · subst hik
     have:((i:Int) != (i:Int))=false:=by simp
     rw[this,cond_f,f2]
     have g1:¬i+1<=i:=by omega
     simp[g1]
   · have:((i:Int) != (k:Int))=true:=by simp;omega
     rw[this,cond_t,f1]
     by_cases hlt:i<k
     · have g1:i+1<=k:=by omega
       have g2:i<=k:=by omega
       have g3:k-i=(k-(i+1))+1:=by omega
       simp only[g1,g2,decide_true,cond_t,g3,List.take_succ_cons,List.drop_succ_cons,List.append_assoc,List.singleton_append,List.cons_append,List.nil_append]
     · have g1:¬i+1<=k:=by omega
       have g2:¬i<=k:=by omega
       simp[g1,g2]
theorem qblm (l:LA)(hl:qim l)(hn:l.length<=100000)(n:LU)(v:Bool)(hi lo t:Int)(hnm:n.length<=9223372036854775807):qr8 l n v hi lo t=some (insH (mkH n v hi lo t) l):=by
 rw[qbhb];unfold qoa
 simp only[qqn,List.length_nil,Bool.and_self,cond_t]
 rw[q7t]
 have fin:∀(kx:Bool->List AV->Option (List AV)),(∀d a,a.length<=200000->kx d a=some (bif d then a else a++[mkH n v hi lo t]))->
  qel l n v hi lo t kx FU false 0 []=some (insH (mkH n v hi lo t) l):=by
  intro kx hkx
  have key:=qcj (σ:=Bool×List AV) l hl.1 (fun m i s=>qel l n v hi lo t kx m s.1 i s.2) (fun i s nx=>qf2 l s.1 i n v hi lo t s.2 (fun d i a=>nx i (d,a)) kx) (fun _ _ _=>rfl)
   (fun i s=>s.2.length<=2*i) (fun r s=>some (s.2++(bif s.1 then r else insH (mkH n v hi lo t) r))) ?_ ?_ (false,[]) FU (by simp) (qcq (by have:=hl.1;omega))
  · simpa using key
  · rintro⟨d,a⟩ nx hJ
    simp only at hJ⊢
    unfold qf2
    simp only[Int.lt_irrefl,decide_false,cond_f]
    rw[hkx d a (by omega)]
    cases d<;>simp[insH]
  · rintro i y r ⟨d,a⟩ nx h1 h2 h3 h4 hJ h5
    have hy:=hl.2 y (List.mem_of_getElem? h2)
    simp only at hJ⊢
    have h6:(i:Int)<(l.length:Int):=by omega
    have hyy:=qbc7 hy.1
    unfold mkH at hyy
    have e1:=h5 (true,a++[mkH n v hi lo t]++[y]) (by simp;omega)
    have e2:=h5 (d,a++[y]) (by simp;omega)
    simp only at e1 e2
    unfold qf2
    rw[decide_eq_true h6]
    simp only[cond_t,hd_self,Bool.and_self]
    rw[q7s];unfold qjv
    simp only[hd_self,Bool.and_self,cond_t]
    rw[q7q];unfold qju
    simp only[ixB_nat,h2,oB_s,hy.1,cond_t,qbw1 _ _ _ _ _ _ _ _ _ _ hnm hy.2.2.2,h4,hyy]
    rw[q1w]
    rw[<-qbyw y n v hi lo t]
    rw[show(AV.agg [(.str n),(.bool v),(.int .u64 hi),(.int .u64 lo),(.int .i64 t)])=mkH n v hi lo t from rfl]
    have st:(bif hd ([y]:List AV) ([y]:List AV).length then(bif decide ((a.length+([y]:List AV).length)*48<=140737488355328)then nx ((i+1:Nat):Int) (d,a++[y])else none)else none)=nx ((i+1:Nat):Int) (d,a++[y]):=by
     rw[hd_self,cond_t,qbi8 y (by omega)]
    cases d with
    |true=>
     simp only[Bool.not_true,cond_f,st,e2]
     simp[show(a.length+1)*48<=140737488355328 by omega]
    |false=>
     simp only[Bool.not_false,cond_t]
     cases hc:decide (cmpH (mkH n v hi lo t) y<0)with
     |false=>
      simp only[cond_f,st,e2]
      simp[show(a.length+1)*48<=140737488355328 by omega]
     |true=>
      simp only[cond_t]
      rw[qbi8 (mkH n v hi lo t) (by omega),qbi8 y (a:=a++[mkH n v hi lo t]) (by simp;omega),e1]
      simp
 refine fin _ fun d a ha=> ?_
 have g1:(a.length+1)*48<=140737488355328:=by omega
 cases d
 · simp only[Bool.not_false,cond_t,hd_self,cond_f]
   rw[show(AV.agg [(.str n),(.bool v),(.int .u64 hi),(.int .u64 lo),(.int .i64 t)])=mkH n v hi lo t from rfl]
   simp[g1]
 · simp[g1]
def kin (y:AV):Bool:=(gI y.cells 4==2)||(gI y.cells 4==3)
theorem qbw5 {l:LA}(hl:qq l)(ht:qcz l){v:Bool}{hi lo:Int}(u1:uok hi)(u2:uok lo):blkd l v hi lo=true↔∃y,y∈l/\hasA v hi lo y=true/\kin y=true:=by
 have hg:=qp6 hl ht
 have e:blkd l v hi lo=((outC (qof (hasA v hi lo) none l)).2&&kin (outC (qof (hasA v hi lo) none l)).1):=rfl
 rw[e]
 cases hb:qof (hasA v hi lo) none l with
 |none=>
  obtain⟨_,h3⟩:=qbqa hb
  constructor
  · intro h;cases h
  · rintro⟨y,hy,h1,_⟩;rw[h3 y hy]at h1;cases h1
 |some b=>
  obtain⟨h3,h4,_⟩:=qbc3 hb
  rcases h3 with h3|⟨h3,h3'⟩
  · cases h3
  have e2:((outC (some b)).2&&kin (outC (some b)).1)=kin b:=rfl
  rw[e2]
  constructor
  · intro h;exact⟨b,h3,h3',h⟩
  · rintro⟨y,hy,ha,hk⟩
    have c1:=((qbww (hg b h3) u1 u2).1 h3').2
    have c2:=((qbww (hg y hy) u1 u2).1 ha).2
    have hv:(pqY b).v=(pqY y).v:=c1.1.symm.trans c2.1
    have hle:(pqY y).bits<=(pqY b).bits:=h4 y hy ha
    obtain⟨a1,a2,a3,_⟩:=(hg b h3).range
    obtain⟨b1,b2,b3,_⟩:=(hg y hy).range
    rw[<-hv]at b3
    have hkk:(pqY b).np.k<=(pqY y).np.k:=by omega
    have hs:=Np.nest c1 c2 hkk
    rcases Nat.lt_or_ge (pqY b).np.k (pqY y).np.k with hlt|hge
    · have hbar:=(qbi3 (hg b h3) (hg y hy)).1 (ht.bars hl h3 hy) hs hlt
      unfold kin at hk⊢
      unfold barK at hbar
      rw[Bool.or_eq_true,beq_iff_eq,beq_iff_eq]at hk
      rcases hk with h2|h2<;>rw[h2]at hbar<;>simp at hbar
      simp[hbar]
    · have:=qbzy ht h3 hy (qb62 (hg y hy) (hg b h3) (Np.sub_antisymm (hg y hy).np_ok (Np.nest c2 c1 hge) hs))
      rw[<-this];exact hk
theorem qb31 {l:LA}(hl:qq l)(ht:qcz l){b:AV}(hf:qq (insF b l))(hi':qcz (insF b l)){v:Bool}{hi lo:Int}(u1:uok hi)(u2:uok lo)(h:blkd l v hi lo=true):blkd (insF b l) v hi lo=true:=by
 obtain⟨y,h1,h2⟩:=(qbw5 hl ht u1 u2).1 h
 exact(qbw5 hf hi' u1 u2).2 ⟨y,qtc.2 (.inr h1),h2⟩
theorem qb4p {b z:LA}:∀{h:LA},chkS b z h=0↔∀y,y∈h->blkd b (gB y.cells 1) (gI y.cells 2) (gI y.cells 3)=true/\qjy z (gS y.cells 0)=true
 |[]=>by simp[chkS]
 |x::r=>by
  unfold chkS
  cases h1:blkd b (gB x.cells 1) (gI x.cells 2) (gI x.cells 3)with
  |false=>simp[h1]
  |true=>
  cases h2:qjy z (gS x.cells 0)with
  |false=>simp[h2]
  |true=>
   simp only[Bool.not_true,cond_f,List.mem_cons]
   rw[qb4p]
   constructor
   · rintro h y (rfl|hy)
     · exact⟨h1,h2⟩
     · exact h y hy
   · intro h y hy;exact h y (.inr hy)
theorem qb4q (k:Int):∀{p:Option AV} {z:LA},chkZ k p z=0↔chkZ 0 p z=0/\k=0
 |p,[]=>by simp[chkZ]
 |p,x::r=>by
  unfold chkZ
  cases badZ p x with
  |true=>simp
  |false=>simp only[cond_f];exact qb4q k
theorem qbz5 {y z:AV}:cmpH y z>0↔ltH z y:=by rw[qbah];exact(q3k _ _ _ _ _ _ _ _).1.symm
theorem qbut:∀{p:Option AV} {l:LA},chkH p l=0↔(∀y,y∈l->qqm y=0)/\l.Pairwise ltH/\∀x,p=some x->∀y,y∈l->ltH x y
 |p,[]=>by simp[chkH]
 |p,y::r=>by
  unfold chkH errH
  by_cases hf:qqm y=0
  · have e1:(qqm y != 0)=false:=by simp[hf]
    simp only[e1,cond_f]
    by_cases ho:qyx p y=0
    · have e2:(qyx p y != 0)=false:=by simp[ho]
      simp only[e2,cond_f]
      rw[qbut (p:=some y)]
      have hp:∀x,p=some x->ltH x y:=by
       rintro x rfl
       unfold qyx at ho
       simp only at ho
       refine qbz5.1 ?_
       by_cases c1:cmpH y x<0
       · simp[c1]at ho
       · by_cases c2:cmpH y x=0
         · simp[c2]at ho
         · omega
      constructor
      · rintro⟨a1,a2,a3⟩
        refine⟨fun z hz=> ?_,List.pairwise_cons.2 ⟨fun z hz=>a3 y rfl z hz,a2⟩,fun x hx z hz=> ?_⟩
        · rcases List.mem_cons.1 hz with rfl|hz
          · exact hf
          · exact a1 z hz
        · rcases List.mem_cons.1 hz with rfl|hz
          · exact hp x hx
          · exact q1v (hp x hx) (a3 y rfl z hz)
      · rintro⟨a1,a2,a3⟩
        rw[List.pairwise_cons]at a2
        exact⟨fun z hz=>a1 z (List.mem_cons_of_mem _ hz),a2.2,fun x hx z hz=>by cases hx;exact a2.1 z hz⟩
    · have e2:(qyx p y != 0)=true:=by simp[ho]
      simp only[e2,cond_t]
      constructor
      · intro h;exact absurd h ho
      · rintro⟨_,_,a3⟩
        exfalso;apply ho
        unfold qyx
        cases p with
        |none=>rfl
        |some x=>
         have:=qbz5.2 (a3 x rfl y (by simp))
         have c1:¬cmpH y x<0:=by omega
         have c2:(cmpH y x==0)=false:=by rw[beq_eq_false_iff_ne];omega
         simp[c1,c2]
  · have e1:(qqm y != 0)=true:=by simp[hf]
    simp only[e1,cond_t]
    constructor
    · intro h;exact absurd h hf
    · rintro⟨a1,_⟩;exact absurd (a1 y (by simp)) hf
structure Sp where
 b:List AV
 h:List AV
 z:List AV
def Sp.av (s:Sp):AV:=.agg [(.sl 8 s.b),(.sl 5 s.h),(.sl 1 s.z)]
def Sp.fr (s:Sp):AV:=.agg [(.fr true 8 s.b),(.fr true 5 s.h),(.fr true 1 s.z)]
def sp0:Sp:=⟨[],[],[]⟩
structure Fits (s:Sp):Prop where
 b:qq s.b
 h:qim s.h
 z:q3t s.z
structure Plan (s:Sp):Prop where
 f:Fits s
 nb:s.b.length<=512
 tb:qcz s.b
 nh:s.h.length<=256
 fh:∀y,y∈s.h->qqm y=0
 ph:s.h.Pairwise ltH
 nz:s.z.length<=32
 cz:chkZ 0 none s.z=0
 bl:∀y,y∈s.h->blkd s.b (gB y.cells 1) (gI y.cells 2) (gI y.cells 3)=true
 zo:∀y,y∈s.h->qjy s.z (gS y.cells 0)=true
theorem qb32 {s:Sp}(f:Fits s):qbai s.b s.h s.z=0↔Plan s:=by
 unfold qbai
 by_cases hb:qtb s.b=0
 · have e1:(qtb s.b != 0)=false:=by simp[hb]
   have hb':s.b.length<=512:=by
    unfold qtb at hb
    by_cases h:(s.b.length:Int)>512
    · simp[h]at hb
    · omega
   simp only[e1,cond_f]
   by_cases hh:qe5 s.h=0
   · have e2:(qe5 s.h != 0)=false:=by simp[hh]
     have hh':s.h.length<=256/\chkH none s.h=0:=by
      unfold qe5 at hh
      by_cases h:(s.h.length:Int)>256
      · simp[h]at hh
      · simp only[h,decide_false,cond_f]at hh
        exact⟨by omega,hh⟩
     simp only[e2,cond_f]
     obtain⟨a1,a2,_⟩:=qbut.1 hh'.2
     by_cases hz:(s.z.length:Int)>32
     · simp only[hz,decide_true,cond_t]
       constructor
       · intro h;cases h
       · intro h;have:=h.nz;omega
     · simp only[hz,decide_false,cond_f]
       rw[qb4q,qb4p]
       constructor
       · rintro⟨h1,h2⟩
         exact⟨f,hb',(qbtb hb').1 hb,hh'.1,a1,a2,by omega,h1,fun y hy=>(h2 y hy).1,fun y hy=>(h2 y hy).2⟩
       · intro h;exact⟨h.cz,fun y hy=>⟨h.bl y hy,h.zo y hy⟩⟩
   · have e2:(qe5 s.h != 0)=true:=by simp[hh]
     simp only[e2,cond_t]
     constructor
     · intro h;exact absurd h hh
     · intro h;exfalso;apply hh
       unfold qe5
       have:¬(s.h.length:Int)>256:=by have:=h.nh;omega
       simp only[this,decide_false,cond_f]
       exact qbut.2 ⟨h.fh,h.ph,fun x hx=>by cases hx⟩
 · have e1:(qtb s.b != 0)=true:=by simp[hb]
   simp only[e1,cond_t]
   constructor
   · intro h;exact absurd h hb
   · intro h;exact absurd ((qbtb h.nb).2 h.tb) hb
end Go.Proofs.YtoaaphlopbabeaaGreatDoor.Dn
