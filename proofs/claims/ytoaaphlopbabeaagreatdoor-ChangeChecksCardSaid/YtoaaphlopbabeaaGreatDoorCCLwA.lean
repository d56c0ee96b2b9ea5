import Derived.Test.YtoaaphlopbabeaaGreatDoorCCDn51
import Derived.Test.YtoaaphlopbabeaaGreatDoorCCLibD
set_option linter.all false
namespace Go.Proofs.YtoaaphlopbabeaaGreatDoor.Dn
open Go Go.Pev
set_option maxRecDepth 4000
def qel (v6:Bool)(hi lo:Int):Bool:=v6||(hi==0&&decide (lo<4294967296))
def qi (v6:Bool):Int:=if v6 then 128 else 32
theorem q02 (v6:Bool)(hi lo:Int):qje v6 hi lo=some (qel v6 hi lo):=by
 rw[qbbs];unfold qmk qel
 cases v6<;>cases(hi==0)<;>simp
theorem qbq8 (v6:Bool):qj1 v6=some (qi v6):=by
 rw[qbdr];unfold qon qi
 cases v6<;>rfl
def qbs1 (p:Int×Int):Int×Int:=(IntKind.u64.wrap (IntKind.u64.wrap (p.1*2)+IntKind.u64.wrap (p.2.tdiv 9223372036854775808)),IntKind.u64.wrap (IntKind.u64.wrap (p.2*2)+1))
def qfa:Nat->Int×Int
 |0=>(0,0)
 |n+1=>qbs1 (qfa n)
theorem qbq9 (n:Int):qro n=some (qfa (min n 128).toNat):=by
 rw[qbds];unfold qop
 rw[q65]
 have key:=qbao (fun k (s:Int×Int×Int)=>qh1 n (fun v4 v5=>some (v4,v5)) k s.1 s.2.1 s.2.2) (fun s nx=>qki n s.1 s.2.1 s.2.2 (fun a b c=>nx (a,b,c)) (fun v4 v5=>some (v4,v5))) (fun _ _=>rfl)
  (fun s=>∃i:Nat,s=((qfa i).1,(qfa i).2,(i:Int))/\i<=128/\(i=0\/(i:Int)<=n)) (fun s=>(128-s.2.2).toNat) (fun _=>some (qfa (min n 128).toNat)) ?_ FU ((0,0,0)) ⟨0,rfl,by simp,.inl rfl⟩ (qek (by simp))
 · exact key
 · rintro _ ⟨i,rfl,hi,hin⟩ nx hn
   simp only
   have hw:IntKind.i64.wrap ((i:Int)+1)=((i+1:Nat):Int):=w64 (by omega) (by omega)
   unfold qki
   by_cases hc:(i:Int)<n/\(i:Int)<128
   · simp only[hc.1,hc.2,decide_true,Bool.and_true,cond_t,hw]
     exact hn (_,_,_) ⟨i+1,rfl,by omega,.inr (by omega)⟩ (by simp;omega)
   · have e:(decide ((i:Int)<n)&&decide ((i:Int)<128))=false:=by
      by_cases h1:(i:Int)<n
      · have:¬(i:Int)<128:=fun h=>hc ⟨h1,h⟩
        simp[this]
      · simp[h1]
     simp only[e,cond_f]
     have:(min n 128).toNat=i:=by
      by_cases h1:(i:Int)<n
      · have:¬(i:Int)<128:=fun h=>hc ⟨h1,h⟩
        omega
      · omega
     rw[this]
def qdi (v6:Bool)(hi lo bits:Int):Bool:=
 qel v6 hi lo&&decide (0<=bits)&&decide (bits<=qi v6)&&(qbh .and .u64 hi (qfa (qi v6-bits).toNat).1==0)&&(qbh .and .u64 lo (qfa (qi v6-bits).toNat).2==0)
theorem q91 (v6:Bool)(hi lo bits:Int):qlu v6 hi lo bits=some (qdi v6 hi lo bits):=by
 rw[qbbt];unfold qmm
 simp only[q4a,qjs,q02,qbq8,qbq9,oB_s]
 unfold qdi
 cases h1:qel v6 hi lo
 · simp
 · by_cases h2:bits<0
   · have:¬0<=bits:=by omega
     simp[h2,this]
   · have h2':0<=bits:=by omega
     by_cases h3:qi v6<bits
     · have:¬bits<=qi v6:=by omega
       simp[h2,h3,this]
     · have h3':bits<=qi v6:=by omega
       have hl:qi v6<=128:=by unfold qi;split<;>omega
       have hw:IntKind.i64.wrap (qi v6-bits)=qi v6-bits:=w64 (by omega) (by omega)
       have hm:(min (qi v6-bits) 128).toNat=(qi v6-bits).toNat:=by congr 1;omega
       simp[h2,h3,h2',h3',hw,hm]
def uok (x:Int):Prop:=0<=x/\x<=18446744073709551615
theorem q5l (n:Nat)(h:n<18446744073709551616):IntKind.u64.wrap (n:Int)=n:=wu64 (by omega) (by omega)
theorem qxq {x:Int}(h:uok x):((BitVec.ofInt 64 x).toNat:Int)=x:=by
 obtain⟨h1,h2⟩:=h
 rw[BitVec.toNat_ofInt]
 omega
theorem q92 (x y:Int):qbh .and .u64 x y=((BitVec.ofInt 64 x&&& BitVec.ofInt 64 y).toNat:Int):=by
 have:=(BitVec.ofInt 64 x&&& BitVec.ofInt 64 y).isLt
 show IntKind.u64.wrap ((BitVec.ofInt 64 x&&& BitVec.ofInt 64 y).toNat:Int)=_
 exact q5l _ (by omega)
theorem qbt8 (x y:Int):qbh .or .u64 x y=((BitVec.ofInt 64 x|||BitVec.ofInt 64 y).toNat:Int):=by
 have:=(BitVec.ofInt 64 x|||BitVec.ofInt 64 y).isLt
 show IntKind.u64.wrap ((BitVec.ofInt 64 x|||BitVec.ofInt 64 y).toNat:Int)=_
 exact q5l _ (by omega)
theorem q93 (x y:Int):qbh .andNot .u64 x y=((BitVec.ofInt 64 x&&& ~~~BitVec.ofInt 64 y).toNat:Int):=by
 have:=(BitVec.ofInt 64 x&&& ~~~BitVec.ofInt 64 y).isLt
 show IntKind.u64.wrap ((BitVec.ofInt 64 x&&& ~~~BitVec.ofInt 64 y).toNat:Int)=_
 exact q5l _ (by omega)
theorem qxr (a b:BitVec 64):(a&&& b).toNat+(a&&& ~~~b).toNat=a.toNat:=by
 have h1:(a&&& b)&&& (a&&& ~~~b)=0#64:=by
  ext i hi
  simp
  intro _ h _
  exact h
 have h2:(a&&& b)|||(a&&& ~~~b)=a:=by
  ext i hi
  simp
  cases a[i]<;>cases b[i]<;>rfl
 have h3:=BitVec.add_eq_or_of_and_eq_zero _ _ h1
 rw[h2]at h3
 have h4:=congrArg BitVec.toNat h3
 rw[BitVec.toNat_add]at h4
 have e1:(a&&& b).toNat<=a.toNat:=by rw[BitVec.toNat_and];exact Nat.and_le_left
 have e2:=(a&&& ~~~b).isLt
 have e3:=a.isLt
 omega
theorem qbof {x:Int}(y:Int)(h:uok x):IntKind.u64.wrap (x-qbh .and .u64 x y)=qbh .andNot .u64 x y:=by
 have h1:=qxr (BitVec.ofInt 64 x) (BitVec.ofInt 64 y)
 have h2:=qxq h
 rw[q92,q93]
 have h3:x-((BitVec.ofInt 64 x&&& BitVec.ofInt 64 y).toNat:Int)=((BitVec.ofInt 64 x&&& ~~~BitVec.ofInt 64 y).toNat:Int):=by omega
 rw[h3]
 have:=(BitVec.ofInt 64 x&&& ~~~BitVec.ofInt 64 y).isLt
 exact q5l _ (by omega)
theorem qbra (a b:BitVec 64)(h:(a&&& b).toNat=0):a.toNat+b.toNat=(a|||b).toNat:=by
 have h1:a&&& b=0#64:=BitVec.eq_of_toNat_eq h
 have h2:=congrArg BitVec.toNat (BitVec.add_eq_or_of_and_eq_zero _ _ h1)
 rw[BitVec.toNat_add]at h2
 have h3:=qxr a b
 have h4:(a&&& ~~~b).toNat<=(~~~b).toNat:=by rw[BitVec.toNat_and];exact Nat.and_le_right
 rw[BitVec.toNat_not]at h4
 have e3:=b.isLt
 omega
theorem qbmk {x y:Int}(hx:uok x)(hy:uok y)(h:qbh .and .u64 x y=0):x+y=qbh .or .u64 x y:=by
 rw[q92]at h
 rw[qbt8]
 have e1:=qxq hx
 have e2:=qxq hy
 have:=qbra (BitVec.ofInt 64 x) (BitVec.ofInt 64 y) (by omega)
 omega
theorem qbrb (x y:Int):uok (qbh .or .u64 x y):=by
 rw[qbt8]
 have:=(BitVec.ofInt 64 x|||BitVec.ofInt 64 y).isLt
 exact⟨by omega,by omega⟩
theorem qbns {x:Int}(h:uok x):qbh .andNot .u64 x 0=x:=by
 rw[q93]
 have:=qxr (BitVec.ofInt 64 x) (BitVec.ofInt 64 0)
 have h2:=qxq h
 have h3:(BitVec.ofInt 64 x&&& BitVec.ofInt 64 0).toNat=0:=by simp
 omega
theorem qha (v6:Bool):qi v6<=128:=by unfold qi;split<;>omega
theorem qbwm:∀n:Fin 33,qlr false (n.val:Int)=some (qfa (32-n.val)):=by decide+kernel
theorem qbwn:∀n:Fin 129,qlr true (n.val:Int)=some (qfa (128-n.val)):=by decide+kernel
theorem qbog {v6:Bool}{bits:Int}(h1:0<=bits)(h2:bits<=qi v6):qs4 v6 bits=some (qfa (qi v6-bits).toNat):=by
 rw[qbem]
 obtain⟨n,rfl⟩:=Int.eq_ofNat_of_zero_le h1
 cases v6 with
 |false=>
  have h3:n<=32:=by simp[qi]at h2;omega
  rw[qbwm ⟨n,by omega⟩]
  congr 2
  simp[qi]<;>omega
 |true=>
  have h3:n<=128:=by simp[qi]at h2;omega
  rw[qbwn ⟨n,by omega⟩]
  congr 2
  simp[qi]<;>omega
theorem qbec (v6:Bool)(hi lo:Int):qs3 v6 hi lo=some (qel v6 hi lo):=by
 rw[qbj4];unfold qs2 qel
 have:decide (lo<=4294967295)=decide (lo<4294967296):=by apply decide_eq_decide.2;omega
 cases v6<;>cases(hi==0)<;>simp[this]
theorem qzi (v6:Bool)(hi lo:Int):qjy v6 hi lo=some (qi v6):=by
 rw[qbcz];unfold qn2 qi
 cases v6<;>rfl
theorem qzj (v6:Bool)(hi lo bits:Int):qhn v6 hi lo bits=some (qdi v6 hi lo bits):=by
 rw[qben];unfold qpq
 simp only[q7k,qk2,qbec,qzi,oB_s]
 unfold qdi
 cases h1:qel v6 hi lo
 · simp
 · by_cases h2:bits<0
   · have:¬0<=bits:=by omega
     simp[h2,this]
   · have h2':0<=bits:=by omega
     by_cases h3:qi v6<bits
     · have:¬bits<=qi v6:=by omega
       simp[h2,h3,this]
     · have h3':bits<=qi v6:=by omega
       simp[h2,h3,h2',h3',qbog h2' h3']
def qhl (v6:Bool)(hi lo bits:Int)(w6:Bool)(ahi alo:Int):Bool:=
 qdi v6 hi lo bits&&(qel w6 ahi alo&&((v6==w6)&&((qbh .andNot .u64 ahi (qfa (qi v6-bits).toNat).1==hi)&&(qbh .andNot .u64 alo (qfa (qi v6-bits).toNat).2==lo))))
theorem qdt {v6:Bool}{hi lo bits:Int}(h:qdi v6 hi lo bits=true):0<=bits/\bits<=qi v6/\qel v6 hi lo=true:=by
 simp[qdi]at h
 exact⟨h.1.1.1.2,h.1.1.2,h.1.1.1.1⟩
theorem qbxg {w6:Bool}{ahi alo bits:Int}(h1:0<=bits)(h2:bits<=qi w6):q7n w6 ahi alo bits=some (bif qel w6 ahi alo then(.agg [(.bool w6),(.int .u64 (qbh .andNot .u64 ahi (qfa (qi w6-bits).toNat).1)),(.int .u64 (qbh .andNot .u64 alo (qfa (qi w6-bits).toNat).2)),(.int .i64 bits)],true)else(.agg [(.bool false),(.int .u64 0),(.int .u64 0),(.int .i64 0)],false)):=by
 rw[qbk2];unfold qvg
 have a1:¬bits<0:=by omega
 have a2:¬qi w6<bits:=by omega
 simp only[qbes,qpv,qbec,qzi,oB_s,qbog h1 h2]
 cases qel w6 ahi alo<;>simp[a1,a2]
theorem qbcs (v6:Bool)(hi lo bits:Int)(w6:Bool)(ahi alo:Int):qn4 v6 hi lo bits w6 ahi alo=some (qhl v6 hi lo bits w6 ahi alo):=by
 rw[q7o];unfold qk3 qhl
 simp only[qzj,oB_s]
 cases h1:qdi v6 hi lo bits
 · simp
 · obtain⟨h2,h3,_⟩:=qdt h1
   by_cases h4:v6=w6
   · subst h4
     rw[qbxg h2 h3]
     cases qel v6 ahi alo<;>simp[gB,gI,gC,aB,aI,AV.cells]
   · have h6:(v6==w6)=false:=by simpa using h4
     simp[h6]
theorem qbxh {w6:Bool}{ahi alo bits:Int}(h1:0<=bits)(h2:bits<=qi w6)(hv:qel w6 ahi alo=true)(u1:uok ahi)(u2:uok alo):q1h w6 ahi alo bits=some (.agg [(.bool w6),(.int .u64 (qbh .andNot .u64 ahi (qfa (qi w6-bits).toNat).1)),(.int .u64 (qbh .andNot .u64 alo (qfa (qi w6-bits).toNat).2)),(.int .i64 bits)],true):=by
 rw[qbhr];unfold qrp
 have a1:¬bits<0:=by omega
 have a2:¬qi w6<bits:=by omega
 have hl:=qha w6
 have hw:IntKind.i64.wrap (qi w6-bits)=qi w6-bits:=w64 (by omega) (by omega)
 have hm:(min (qi w6-bits) 128).toNat=(qi w6-bits).toNat:=by congr 1;omega
 simp only[qbbx,qmp,q02,qbq8,qbq9,oB_s,hv,hw,hm,qbof _ u1,qbof _ u2]
 simp[a1,a2]
theorem qbct (v6:Bool)(hi lo bits:Int)(w6:Bool)(ahi alo:Int)(u1:uok ahi)(u2:uok alo):qlh v6 hi lo bits w6 ahi alo=some (qhl v6 hi lo bits w6 ahi alo):=by
 rw[q4b];unfold qjt qhl
 simp only[qzy,qhh,q91,q02,oB_s]
 cases h1:qdi v6 hi lo bits
 · simp
 · obtain⟨h2,h3,_⟩:=qdt h1
   cases h5:qel w6 ahi alo
   · simp
   · by_cases h4:v6=w6
     · subst h4
       rw[qbxh h2 h3 h5 u1 u2]
       simp[gB,gI,gC,aB,aI,AV.cells]
     · have h6:(v6==w6)=false:=by simpa using h4
       simp[h6]
def qnm (v6:Bool)(hi lo bits:Int)(w6:Bool)(whi wlo wbits:Int):Bool:=
 qdi v6 hi lo bits&&(decide (bits>=wbits)&&qhl w6 whi wlo wbits v6 hi lo)
theorem q94 (v6:Bool)(hi lo bits:Int)(w6:Bool)(whi wlo wbits:Int):qjz v6 hi lo bits w6 whi wlo wbits=some (qnm v6 hi lo bits w6 whi wlo wbits):=by
 rw[qbc2];unfold qn5 qnm
 simp only[qzj,qbcs,oB_s]
 cases h1:qdi v6 hi lo bits
 · simp
 · cases h2:qdi w6 whi wlo wbits
   · simp[qhl,h2]
   · cases h3:decide (bits>=wbits)<;>simp
theorem qbrc (v6:Bool)(hi lo bits:Int)(w6:Bool)(whi wlo wbits:Int)(u1:uok hi)(u2:uok lo):qtn v6 hi lo bits w6 whi wlo wbits=some (qnm v6 hi lo bits w6 whi wlo wbits):=by
 rw[q8u];unfold qli qnm
 simp only[q91,qbct _ _ _ _ _ _ _ u1 u2,oB_s]
 cases h1:qdi v6 hi lo bits
 · simp
 · cases h3:decide (bits>=wbits)<;>simp
def qt7 (y:AV):Prop:=fitC qb y.cells=true/\uok (gI y.cells 1)/\uok (gI y.cells 2)/\(gS y.cells 5).length<=9223372036854775807/\(gS y.cells 6).length<=9223372036854775807
def qbv (l:LA):Prop:=l.length<=9223372036854775807/\∀y,y∈l->qt7 y
def qbgt:Ty:=.st [.bool,.int .u64,.int .u64]
def qbrd:Ty:=.st [qbgt,.int .i64]
def qbpj:Ty:=.st [qbrd,.int .i64,.str,.str,.int .i64]
theorem blksFit_of {l:LA}(h:l.length<=9223372036854775807/\∀y,y∈l->fitC qbpj.lts y.cells=true/\qbpj.good y.cells 0):qbv l:=
 ⟨h.1,fun y hy=>by
  obtain⟨h1,h2⟩:=h.2 y hy
  simp only[qbpj,qbrd,qbgt,Ty.good.goods,Ty.good,Ty.size,Ty.sizes,Nat.zero_add,Nat.reduceAdd,and_true,true_and]at h2
  obtain⟨⟨⟨h3,h4⟩,h5⟩,h6,h7,h8,h9⟩:=h2
  exact⟨h1,h3,h4,h7,h8⟩⟩
def qlz (s:LU):Bool:=s.all fun c=>decide (33<=c.toNat)&&decide (c.toNat<=126)
theorem qbcu (s:LU)(hs:s.length<=9223372036854775807):qkj s=some (qlz s):=by
 rw[q2c];unfold qiw
 rw[qyt,qja s hs (qej s fun _=>some true) (fun i nx=>qei s i nx fun _=>some true) (fun _ _=>rfl) (fun r=>some (qlz r))]
 · intro nx;simp[qei,qlz]
 · intro i y r nx h1 h2 h3 h4 h5
   have h6:(i:Int)<(s.length:Int):=by omega
   unfold qei
   simp only[h6,decide_true,cond_t,ixB_nat,h2,oB_s,h4,h5,qlz,List.all_cons]
   by_cases a1:(y.toNat:Int)<33
   · have:¬33<=y.toNat:=by omega
     simp[a1,this]
   · have b1:33<=y.toNat:=by omega
     by_cases a2:(y.toNat:Int)>126
     · have:¬y.toNat<=126:=by omega
       simp[a1,a2,this]
     · have b2:y.toNat<=126:=by omega
       simp only[a1,a2,b1,b2,decide_true,decide_false,cond_f,Bool.true_and]
def mayB (y:AV):Bool:=
 bif(bif decide (gI y.cells 4<1)then true else bif decide (gI y.cells 4>3)then true else bif gI y.cells 4==3 then gI y.cells 3 != qi (gB y.cells 0)else false)then false
 else bif(decide (((gS y.cells 5).length:Int)>=1)&&decide (((gS y.cells 5).length:Int)<=63))then(bif(qlz (gS y.cells 5)&&decide (((gS y.cells 6).length:Int)<=32))then((qlz (gS y.cells 6)&&decide (gI y.cells 7>=0))&&decide (gI y.cells 7<=4294967295))else false)else false
theorem qm4 {α:Type}(p:Bool)(a b:α):(bif p then some a else some b)=some (bif p then a else b):=by cases p<;>rfl
theorem qbxi (y:AV)(hy:qt7 y):qyu (gB y.cells 0) (gI y.cells 1) (gI y.cells 2) (gI y.cells 3) (gI y.cells 4) (gS y.cells 5) (gS y.cells 6) (gI y.cells 7)=some (mayB y):=by
 have hw:qur (gB y.cells 0) (gI y.cells 1) (gI y.cells 2) (gI y.cells 3)=some (qi (gB y.cells 0)):=by
  rw[qbbu];unfold qmn qi;cases gB y.cells 0<;>rfl
 rw[qbfc];unfold qp9 mayB
 simp only[q8s,qlg,qbcu _ hy.2.2.2.1,qbcu _ hy.2.2.2.2,hw,oB_s]
 cases decide (gI y.cells 4<1)<;>cases decide (gI y.cells 4>3)<;>cases(gI y.cells 4==3)<;>simp only[cond_t,cond_f,qm4]
def cmpA (v6:Bool)(hi lo:Int)(w6:Bool)(whi wlo:Int):Int:=
 bif(!((v6==w6)&&true))then(bif w6 then-1 else 1)else bif(hi != whi)then(bif decide (hi<whi)then-1 else 1)else bif decide (lo<wlo)then-1 else bif decide (lo>wlo)then 1 else 0
theorem qboh (v6:Bool)(hi lo:Int)(w6:Bool)(whi wlo:Int):qmo v6 hi lo w6 whi wlo=some (cmpA v6 hi lo w6 whi wlo):=by
 rw[q67];unfold qkk cmpA
 simp only[qm4]
def cmpP (v6:Bool)(hi lo bits:Int)(w6:Bool)(whi wlo wbits:Int):Int:=
 bif(cmpA v6 hi lo w6 whi wlo != 0)then cmpA v6 hi lo w6 whi wlo else bif decide (bits<wbits)then-1 else bif decide (bits>wbits)then 1 else 0
theorem qbwo (v6:Bool)(hi lo bits:Int)(w6:Bool)(whi wlo wbits:Int):qr6 v6 hi lo bits w6 whi wlo wbits=some (cmpP v6 hi lo bits w6 whi wlo wbits):=by
 rw[q68];unfold qkl cmpP
 simp only[qboh,oB_s,qm4]
def ltP (v6:Bool)(hi lo bits:Int)(w6:Bool)(whi wlo wbits:Int):Prop:=
 (v6=false/\w6=true)\/(v6=w6/\(hi<whi\/(hi=whi/\(lo<wlo\/(lo=wlo/\bits<wbits)))))
theorem q95 {a:Bool}{b c d:Int}{a':Bool}{b' c' d':Int}{a2:Bool}{b2 c2 d2:Int}(h1:ltP a b c d a' b' c' d')(h2:ltP a' b' c' d' a2 b2 c2 d2):ltP a b c d a2 b2 c2 d2:=by
 unfold ltP at*
 rcases h1 with⟨rfl,rfl⟩|⟨rfl,h1⟩
 · rcases h2 with⟨h,_⟩|⟨rfl,_⟩
   · cases h
   · exact .inl ⟨rfl,rfl⟩
 · rcases h2 with⟨rfl,rfl⟩|⟨rfl,h2⟩
   · exact .inl ⟨rfl,rfl⟩
   · exact .inr ⟨rfl,by omega⟩
theorem qhm {a:Bool}{b c d:Int}:¬ltP a b c d a b c d:=by
 unfold ltP
 rintro(⟨rfl,h⟩|⟨_,h⟩)
 · cases h
 · omega
def atP (v6:Bool)(hi lo bits:Int)(y:AV):Bool:=(gB y.cells 0==v6)&&((gI y.cells 1==hi)&&((gI y.cells 2==lo)&&((gI y.cells 3==bits)&&true)))
theorem qvb {v6:Bool}{hi lo bits:Int}{y:AV}:atP v6 hi lo bits y=true↔gB y.cells 0=v6/\gI y.cells 1=hi/\gI y.cells 2=lo/\gI y.cells 3=bits:=by simp[atP]
def ltY (y z:AV):Prop:=ltP (gB y.cells 0) (gI y.cells 1) (gI y.cells 2) (gI y.cells 3) (gB z.cells 0) (gI z.cells 1) (gI z.cells 2) (gI z.cells 3)
def qrw (y:AV):Bool:=qdi (gB y.cells 0) (gI y.cells 1) (gI y.cells 2) (gI y.cells 3)
def qbia (y z:AV):Bool:=qnm (gB y.cells 0) (gI y.cells 1) (gI y.cells 2) (gI y.cells 3) (gB z.cells 0) (gI z.cells 1) (gI z.cells 2) (gI z.cells 3)
def qdn (y z:AV):Bool:=bif(qbia y z&&decide (gI y.cells 3>gI z.cells 3))then(bif gI z.cells 4==3 then true else bif gI z.cells 4==2 then gI y.cells 4 != 3 else false)else false
theorem qbs2 (y z:AV)(hy:qt7 y):qto (gB y.cells 0) (gI y.cells 1) (gI y.cells 2) (gI y.cells 3) (gI y.cells 4) (gS y.cells 5) (gS y.cells 6) (gI y.cells 7) (gB z.cells 0) (gI z.cells 1) (gI z.cells 2) (gI z.cells 3) (gI z.cells 4) (gS z.cells 5) (gS z.cells 6) (gI z.cells 7)=some (qdn y z):=by
 rw[q8v];unfold qlj qdn
 rw[qbhs];unfold qrq
 simp only[qbrc _ _ _ _ _ _ _ _ hy.2.1 hy.2.2.1,oB_s,qm4]
 rfl
structure Row (l:LA)(j:Nat)(y:AV):Prop where
 p:qrw y=true
 may:mayB y=true
 lt:∀i z,j=i+1->l[i]?=some z->ltY z y
 bar:∀k z,k<j->l[k]?=some z->qdn y z=false
def qf6 (l:LA):Prop:=∀j y,l[j]?=some y->Row l j y
def blkV (y:AV):AV:=.agg [(.bool (gB y.cells 0)),(.int .u64 (gI y.cells 1)),(.int .u64 (gI y.cells 2)),(.int .i64 (gI y.cells 3)),(.int .i64 (gI y.cells 4)),(.str (gS y.cells 5)),(.str (gS y.cells 6)),(.int .i64 (gI y.cells 7))]
def blk0:AV:=.agg [(.bool false),(.int .u64 0),(.int .u64 0),(.int .i64 0),(.int .i64 0),(.str []),(.str []),(.int .i64 0)]
def q5m (l:LA)(v6:Bool)(hi lo bits:Int):AV×Bool:=match l.find? (atP v6 hi lo bits)with
 |some y=>(blkV y,true)
 |none=>(blk0,false)
def idxO (q:AV->Bool):List AV->Option Nat
 |[]=>none
 |y::r=>if q y then some 0 else(idxO q r).map (· +1)
theorem qpp {q:AV->Bool}:∀(l:LA) (k:Nat),idxO q l=some k->∃y,l[k]?=some y/\l.find? q=some y
 |y::r,k,h=>by
  unfold idxO at h
  cases hq:q y with
  |true=>simp[hq]at h;subst h;exact⟨y,rfl,by simp[hq]⟩
  |false=>
   simp[hq]at h
   obtain⟨k',h1,rfl⟩:=h
   obtain⟨z,h2,h3⟩:=qpp r k' h1
   exact⟨z,by simpa using h2,by simp[hq,h3]⟩
theorem qbjl {q:AV->Bool}:∀(l:LA),idxO q l=none->l.find? q=none
 |[],_=>rfl
 |y::r,h=>by
  unfold idxO at h
  cases hq:q y with
  |true=>simp[hq]at h
  |false=>simp[hq]at h;simp[List.find?_cons,hq];simpa using qbjl r h
def idxI (q:AV->Bool)(l:LA):Int:=match idxO q l with
 |some k=>(k:Int)
 |none=> -1
theorem qbed (l:LA)(hl:qbv l)(v6:Bool)(hi lo bits:Int):qo4 l v6 hi lo bits=some (idxI (atP v6 hi lo bits) l):=by
 rw[qbeq];unfold qpu
 rw[qhc];unfold qbq
 rw[qgm]
 have key:=qem l hl.1 (fun n i (s:Bool×Int×Int×Int)=>q8 l (l.length:Int) (fun b0_0 b0_1 b0_2 b0_3=>some (-1:Int)) (fun v4q1 b0_0q2 b0_1q3 b0_2q4 b0_3q5=>some v4q1) n i s.1 s.2.1 s.2.2.1 s.2.2.2)
  (fun i s nx=>qz l (l.length:Int) i s.1 s.2.1 s.2.2.1 s.2.2.2 (fun a b c d e=>nx a (b,c,d,e)) (fun b0_0 b0_1 b0_2 b0_3=>some (-1:Int)) (fun v4q1 b0_0q2 b0_1q3 b0_2q4 b0_3q5=>some v4q1)) (fun _ _ _=>rfl)
  (fun i s=>s=(v6,hi,lo,bits)) (fun r s=>some (match idxO (atP v6 hi lo bits) r with|some k=>((l.length-r.length+k:Nat):Int)|none=> -1)) ?_ ?_ (v6,hi,lo,bits) FU rfl (qek (by have:=hl.1;omega))
 · refine key.trans ?_
   unfold idxI
   cases idxO (atP v6 hi lo bits) l<;>simp
 · intro s nx hs
   simp[qz,idxO]
 · rintro i y r _ nx h1 h2 h3 h4 rfl h5
   have hy:=hl.2 y (List.mem_of_getElem? h2)
   have h6:(i:Int)<(l.length:Int):=by omega
   have hr:r.length=l.length-(i+1):=by
    have:=congrArg List.length h1
    simp at this
    omega
   unfold qz
   simp only[h6,decide_true,cond_t,ixB_nat,h2,oB_s,hy.1,qbay,ql7,h4]
   rw[show((gB y.cells 0==v6)&&((gI y.cells 1==hi)&&((gI y.cells 2==lo)&&((gI y.cells 3==bits)&&true))))=atP v6 hi lo bits y from rfl]
   unfold idxO
   cases hq:atP v6 hi lo bits y with
   |true=>
    simp
    omega
   |false=>
    simp only[cond_f,Bool.false_eq_true,if_false]
    rw[h5 _ rfl]
    cases idxO (atP v6 hi lo bits) r with
    |none=>rfl
    |some k=>simp;omega
theorem qboi (l:LA)(hl:qbv l)(v6:Bool)(hi lo bits:Int):qni l v6 hi lo bits=some (q5m l v6 hi lo bits):=by
 rw[qbhi];unfold qre q5m
 simp only[qbed l hl,oB_s]
 unfold idxI
 cases hq:idxO (atP v6 hi lo bits) l with
 |none=>
  rw[qbjl l hq]
  rfl
 |some k=>
  obtain⟨y,h1,h2⟩:=qpp l k hq
  have hy:=hl.2 y (List.mem_of_getElem? h1)
  have h3:(k:Int)>=0:=by omega
  rw[h2]
  simp only[h3,decide_true,cond_t,ixB_nat,h1,oB_s,hy.1]
  rfl
theorem qf6.sorted {l:LA}(h:qf6 l)(i:Nat)(y:AV)(hy:l[i]?=some y):∀j z,i<j->l[j]?=some z->ltY y z:=by
 intro j
 induction j with
 |zero=>intro z hj;omega
 |succ j ih=>
  intro z hj hz
  obtain⟨x,hx⟩:∃x,l[j]?=some x:=by
   have:=(List.getElem?_eq_some_iff.1 hz).1
   exact⟨l[j],by simp⟩
  have h1:=(h (j+1) z hz).lt j x rfl hx
  by_cases hij:i=j
  · subst hij
    rw[hy]at hx;cases hx
    exact h1
  · exact q95 (ih x (by omega) hx) h1
def numP (hi lo:Int):Nat:=hi.toNat*18446744073709551616+lo.toNat
def kOf (v6:Bool)(bits:Int):Nat:=(qi v6-bits).toNat
theorem q5n:(2:Nat)^64=18446744073709551616:=by decide
theorem qbml (x j:Nat):x&&& (2^j-1)=x%2^j:=Nat.and_two_pow_sub_one_eq_mod x j
theorem qq8 {x:Int}(h:uok x)(j:Nat)(hj:j<=64):qbh .and .u64 x ((2^j-1:Nat):Int)=((x.toNat%2^j:Nat):Int):=by
 rw[q92]
 congr 1
 have e1:=qxq h
 have hp:(2:Nat)^j<=2^64:=Nat.pow_le_pow_right (by decide) hj
 have h0:0<(2:Nat)^j:=Nat.two_pow_pos j
 have e2:=qxq (x:=((2^j-1:Nat):Int)) ⟨by omega,by rw[q5n]at hp;omega⟩
 rw[BitVec.toNat_and]
 have e3:(BitVec.ofInt 64 x).toNat=x.toNat:=by omega
 have e4:(BitVec.ofInt 64 ((2^j-1:Nat):Int)).toNat=2^j-1:=by omega
 rw[e3,e4]
 exact qbml _ _
theorem qvc {x:Int}(h:uok x)(j:Nat)(hj:j<=64):qbh .andNot .u64 x ((2^j-1:Nat):Int)=((x.toNat-x.toNat%2^j:Nat):Int):=by
 have h1:=qq8 h j hj
 rw[q92]at h1
 rw[q93]
 have h2:=qxr (BitVec.ofInt 64 x) (BitVec.ofInt 64 ((2^j-1:Nat):Int))
 have h3:=qxq h
 have h4:x.toNat%2^j<=x.toNat:=Nat.mod_le _ _
 omega
theorem qbmm:∀n:Fin 65,qfa n=(0,((2^n.val-1:Nat):Int)):=by decide+kernel
theorem qbjm:∀n:Fin 65,qfa (n.val+64)=(((2^n.val-1:Nat):Int),((2^64-1:Nat):Int)):=by decide+kernel
theorem qvs {x:Int}(h:uok x):qbh .and .u64 x 0=0:=by
 have:=qq8 h 0 (by omega)
 simpa[Nat.mod_one]using this
theorem q96 (hi lo k:Nat)(hk:k<=64):(hi*18446744073709551616+lo)%2^k=lo%2^k:=by
 have:18446744073709551616=2^k*2^(64-k):=by rw[<-Nat.pow_add,<-q5n];congr 1;omega
 rw[this,show hi*(2^k*2^(64-k))+lo=lo+2^k*(hi*2^(64-k)) by rw[Nat.add_comm];congr 1;rw[Nat.mul_left_comm],Nat.add_mul_mod_self_left]
theorem qbib (hi lo j:Nat)(hl:lo<18446744073709551616):(hi*18446744073709551616+lo)%2^(j+64)=hi%2^j*18446744073709551616+lo:=by
 have h0:0<(2:Nat)^j:=Nat.two_pow_pos j
 have h1:=Nat.div_add_mod hi (2^j)
 have h2:=Nat.mod_lt hi h0
 rw[Nat.pow_add,q5n]
 have e:hi*18446744073709551616+lo=(hi%2^j*18446744073709551616+lo)+2^j*18446744073709551616*(hi / 2^j):=by
  calc hi*18446744073709551616+lo=(2^j*(hi / 2^j)+hi%2^j)*18446744073709551616+lo:=by rw[h1]
   _=_:=by rw[Nat.add_mul];rw[show 2^j*(hi / 2^j)*18446744073709551616=2^j*18446744073709551616*(hi / 2^j) by rw[Nat.mul_right_comm]];omega
 rw[e,Nat.add_mul_mod_self_left]
 refine Nat.mod_eq_of_lt ?_
 have h3:(hi%2^j+1)*18446744073709551616<=2^j*18446744073709551616:=Nat.mul_le_mul_right _ h2
 rw[Nat.add_mul]at h3
 omega
theorem qboj {hi lo:Int}(u1:uok hi)(u2:uok lo)(k:Nat)(hk:k<=128):
 uok (qbh .andNot .u64 hi (qfa k).1)/\uok (qbh .andNot .u64 lo (qfa k).2)/\numP (qbh .andNot .u64 hi (qfa k).1) (qbh .andNot .u64 lo (qfa k).2)=numP hi lo-numP hi lo%2^k:=by
 obtain⟨a1,a2⟩:=u1
 obtain⟨b1,b2⟩:=u2
 rcases Nat.lt_or_ge k 65 with h|h
 · have e:=qbmm ⟨k,h⟩
   simp only at e
   rw[e,qvc ⟨b1,b2⟩ k (by omega),qbns ⟨a1,a2⟩]
   have hm:=q96 hi.toNat lo.toNat k (by omega)
   have hle:=Nat.mod_le lo.toNat (2^k)
   refine⟨⟨a1,a2⟩,⟨by omega,by omega⟩,?_⟩
   unfold numP
   rw[hm]
   omega
 · obtain⟨j,rfl⟩:∃j,k=j+64:=⟨k-64,by omega⟩
   have e:=qbjm ⟨j,by omega⟩
   simp only at e
   rw[e,qvc ⟨a1,a2⟩ j (by omega),qvc ⟨b1,b2⟩ 64 (by omega)]
   have hm:=qbib hi.toNat lo.toNat j (by omega)
   have hle:=Nat.mod_le hi.toNat (2^j)
   have hlo:lo.toNat%2^64=lo.toNat:=Nat.mod_eq_of_lt (by rw[q5n];omega)
   refine⟨⟨by omega,by omega⟩,⟨by omega,by omega⟩,?_⟩
   unfold numP
   rw[hm,hlo]
   omega
theorem qbu8 {hi lo:Int}(u1:uok hi)(u2:uok lo)(k:Nat)(hk:k<=128):
 (qbh .and .u64 hi (qfa k).1=0/\qbh .and .u64 lo (qfa k).2=0)↔numP hi lo%2^k=0:=by
 obtain⟨a1,a2⟩:=u1
 obtain⟨b1,b2⟩:=u2
 rcases Nat.lt_or_ge k 65 with h|h
 · have e:=qbmm ⟨k,h⟩
   simp only at e
   rw[e,qq8 ⟨b1,b2⟩ k (by omega),qvs ⟨a1,a2⟩]
   have hm:=q96 hi.toNat lo.toNat k (by omega)
   unfold numP
   rw[hm]
   generalize lo.toNat%2^k=q
   constructor
   · rintro⟨_,h⟩;omega
   · intro h;exact⟨rfl,by omega⟩
 · obtain⟨j,rfl⟩:∃j,k=j+64:=⟨k-64,by omega⟩
   have e:=qbjm ⟨j,by omega⟩
   simp only at e
   rw[e,qq8 ⟨a1,a2⟩ j (by omega),qq8 ⟨b1,b2⟩ 64 (by omega)]
   have hm:=qbib hi.toNat lo.toNat j (by omega)
   have hlo:lo.toNat%2^64=lo.toNat:=Nat.mod_eq_of_lt (by rw[q5n];omega)
   unfold numP
   rw[hm,hlo]
   constructor
   · rintro⟨h1,h2⟩
     have:hi.toNat%2^j=0:=by omega
     rw[this];omega
   · intro h1
     revert h1
     generalize hi.toNat%2^j=q
     intro h1
     have h4:q=0:=by omega
     have h5:lo.toNat=0:=by omega
     exact⟨by omega,by omega⟩
theorem qbs3 {hi lo hi' lo':Int}(u1:uok hi)(u2:uok lo)(u3:uok hi')(u4:uok lo')(h:numP hi lo=numP hi' lo'):hi=hi'/\lo=lo':=by
 unfold numP at h
 unfold uok at*
 omega
theorem qt8 {v6:Bool}{hi lo bits:Int}(u1:uok hi)(u2:uok lo):qdi v6 hi lo bits=true↔qel v6 hi lo=true/\0<=bits/\bits<=qi v6/\numP hi lo%2^kOf v6 bits=0:=by
 by_cases h:0<=bits
 · have hl:=qha v6
   have:=qbu8 u1 u2 (kOf v6 bits) (by unfold kOf;omega)
   unfold qdi
   simp only[Bool.and_eq_true,decide_eq_true_eq,beq_iff_eq]
   unfold kOf at*
   rw[<-this]
   constructor
   · rintro⟨⟨⟨⟨a,b⟩,c⟩,d⟩,e⟩;exact⟨a,b,c,d,e⟩
   · rintro⟨a,b,c,d,e⟩;exact⟨⟨⟨⟨a,b⟩,c⟩,d⟩,e⟩
 · unfold qdi
   simp[h]
theorem qbre {v6:Bool}{hi lo bits:Int}{w6:Bool}{ahi alo:Int}(h1:uok hi)(h2:uok lo)(u1:uok ahi)(u2:uok alo):
 qhl v6 hi lo bits w6 ahi alo=true↔qdi v6 hi lo bits=true/\qel w6 ahi alo=true/\v6=w6/\numP hi lo=numP ahi alo-numP ahi alo%2^kOf v6 bits:=by
 unfold qhl
 simp only[Bool.and_eq_true,beq_iff_eq]
 constructor
 · rintro⟨a,b,c,d,e⟩
   refine⟨a,b,c,?_⟩
   obtain⟨r1,r2,_⟩:=qdt a
   have hl:=qha v6
   obtain⟨_,_,h⟩:=qboj u1 u2 (kOf v6 bits) (by unfold kOf;omega)
   unfold kOf at h
   rw[d,e]at h
   exact h
 · rintro⟨a,b,c,d⟩
   refine⟨a,b,c,?_⟩
   obtain⟨r1,r2,_⟩:=qdt a
   have hl:=qha v6
   obtain⟨k1,k2,h⟩:=qboj u1 u2 (kOf v6 bits) (by unfold kOf;omega)
   rw[<-d]at h
   obtain⟨e1,e2⟩:=qbs3 k1 k2 h1 h2 h
   exact⟨e1,e2⟩
structure Np where
 v:Bool
 n:Nat
 k:Nat
def Np.ok (p:Np):Prop:=p.n%2^p.k=0
def Np.sub (p q:Np):Prop:=p.v=q.v/\p.k<=q.k/\p.n-p.n%2^q.k=q.n
theorem qbaq {a b:Nat}(h:a<=b):2^a ∣ 2^b:=Nat.pow_dvd_pow 2 h
theorem qbok {n a b:Nat}(h:a<=b):(n-n%2^a)-(n-n%2^a)%2^b=n-n%2^b:=by
 have h0:=Nat.two_pow_pos a
 have h1:=Nat.two_pow_pos b
 obtain⟨c,hc⟩:=qbaq h
 have e1:n-n%2^a=2^a*(n / 2^a):=by have:=Nat.div_add_mod n (2^a);omega
 have e2:∀m,m-m%2^b=2^b*(m / 2^b):=fun m=>by have:=Nat.div_add_mod m (2^b);omega
 rw[e2,e2 n]
 congr 1
 rw[e1,hc,<-Nat.div_div_eq_div_mul,<-Nat.div_div_eq_div_mul,Nat.mul_div_cancel_left _ h0]
theorem Np.sub_refl {p:Np}(h:p.ok):p.sub p:=⟨rfl,Nat.le_refl _,by unfold Np.ok at h;rw[h];rfl⟩
theorem Np.sub_trans {p q r:Np}(h1:p.sub q)(h2:q.sub r):p.sub r:=by
 obtain⟨a1,a2,a3⟩:=h1
 obtain⟨b1,b2,b3⟩:=h2
 refine⟨a1.trans b1,Nat.le_trans a2 b2,?_⟩
 rw[<-b3,<-a3,qbok b2]
theorem Np.nest {p q r:Np}(h1:p.sub q)(h2:p.sub r)(h:q.k<=r.k):q.sub r:=by
 obtain⟨a1,a2,a3⟩:=h1
 obtain⟨b1,b2,b3⟩:=h2
 exact⟨a1.symm.trans b1,h,by rw[<-a3,qbok h];exact b3⟩
theorem qbic (v6:Bool)(hi lo:Int)(w6:Bool)(whi wlo:Int):qo6 v6 hi lo w6 whi wlo=some (cmpA v6 hi lo w6 whi wlo):=by
 rw[qbeu];unfold qpw cmpA
 simp only[qbhh,qrd,qm4,oB_s]
 by_cases h1:v6=w6
 · subst h1
   by_cases h2:hi=whi
   · subst h2;simp
   · by_cases h3:hi<whi
     · simp[h2,h3]
     · have:hi>whi:=by omega
       simp[h2,h3,this]
 · cases v6<;>cases w6<;>simp at h1⊢
theorem qbrf (v6:Bool)(hi lo bits:Int)(w6:Bool)(whi wlo wbits:Int):qpx v6 hi lo bits w6 whi wlo wbits=some (cmpP v6 hi lo bits w6 whi wlo wbits):=by
 rw[qbaz];unfold ql8 cmpP
 simp only[qbic,oB_s,qm4]
theorem qxs (v6:Bool)(hi lo bits:Int)(w6:Bool)(whi wlo wbits:Int):
 (cmpP v6 hi lo bits w6 whi wlo wbits<0/\ltP v6 hi lo bits w6 whi wlo wbits)\/(cmpP v6 hi lo bits w6 whi wlo wbits=0/\v6=w6/\hi=whi/\lo=wlo/\bits=wbits)\/(cmpP v6 hi lo bits w6 whi wlo wbits>0/\ltP w6 whi wlo wbits v6 hi lo bits):=by
 unfold cmpP cmpA ltP
 by_cases h1:v6=w6
 · subst h1
   by_cases h2:hi=whi
   · subst h2
     by_cases h3:lo<wlo
     · left;simp[h3]
     · by_cases h4:lo>wlo
       · right;right;simp[h3,h4]
       · have:lo=wlo:=by omega
         subst this
         by_cases h5:bits<wbits
         · left;simp[h5]
         · by_cases h6:bits>wbits
           · right;right;simp[h5,h6]
           · right;left
             have:bits=wbits:=by omega
             subst this;simp
   · have h2':(hi != whi)=true:=by simpa using h2
     by_cases h3:hi<whi
     · left;simp[h2',h3]
     · have h4:whi<hi:=by omega
       right;right;simp[h2',h3,h4]
 · cases v6<;>cases w6<;>simp at h1⊢
def cmpY (y z:AV):Int:=cmpP (gB y.cells 0) (gI y.cells 1) (gI y.cells 2) (gI y.cells 3) (gB z.cells 0) (gI z.cells 1) (gI z.cells 2) (gI z.cells 3)
def samP (y z:AV):Bool:=(gB y.cells 0==gB z.cells 0)&&((gI y.cells 1==gI z.cells 1)&&((gI y.cells 2==gI z.cells 2)&&((gI y.cells 3==gI z.cells 3)&&true)))
theorem qbee {y z:AV}:samP y z=true↔gB y.cells 0=gB z.cells 0/\gI y.cells 1=gI z.cells 1/\gI y.cells 2=gI z.cells 2/\gI y.cells 3=gI z.cells 3:=by simp[samP]
theorem q5o {y z:AV}:samP y z=true↔cmpY y z=0:=by
 rw[qbee]
 unfold cmpY
 rcases qxs (gB y.cells 0) (gI y.cells 1) (gI y.cells 2) (gI y.cells 3) (gB z.cells 0) (gI z.cells 1) (gI z.cells 2) (gI z.cells 3)with⟨h,h2⟩|⟨h,h2⟩|⟨h,h2⟩
 · constructor
   · rintro⟨a,b,c,d⟩;rw[a,b,c,d]at h2;exact absurd h2 qhm
   · intro h3;omega
 · exact⟨fun _=>h,fun _=>h2⟩
 · constructor
   · rintro⟨a,b,c,d⟩;rw[a,b,c,d]at h2;exact absurd h2 qhm
   · intro h3;omega
theorem qwg (y z:AV):(cmpY y z>0↔cmpY z y<0)/\(cmpY y z=0↔cmpY z y=0)/\(cmpY y z<0↔ltY y z):=by
 unfold cmpY ltY
 have irr:∀{a:Bool} {b c d:Int} {a':Bool} {b' c' d':Int},ltP a b c d a' b' c' d'->¬ltP a' b' c' d' a b c d:=fun h1 h2=>qhm (q95 h1 h2)
 rcases qxs (gB y.cells 0) (gI y.cells 1) (gI y.cells 2) (gI y.cells 3) (gB z.cells 0) (gI z.cells 1) (gI z.cells 2) (gI z.cells 3)with⟨h,h2⟩|⟨h,a,b,c,d⟩|⟨h,h2⟩<;>
 rcases qxs (gB z.cells 0) (gI z.cells 1) (gI z.cells 2) (gI z.cells 3) (gB y.cells 0) (gI y.cells 1) (gI y.cells 2) (gI y.cells 3)with⟨k,k2⟩|⟨k,a',b',c',d'⟩|⟨k,k2⟩
 · exact absurd k2 (irr h2)
 · rw[a',b',c',d']at h2;exact absurd h2 qhm
 · exact⟨by constructor<;>intro<;>omega,by constructor<;>intro<;>omega,⟨fun _=>h2,fun _=>h⟩⟩
 · rw[a,b,c,d]at k2;exact absurd k2 qhm
 · refine⟨by constructor<;>intro<;>omega,by constructor<;>intro<;>omega,⟨fun _=>by omega,fun h3=> ?_⟩⟩
   rw[a,b,c,d]at h3;exact absurd h3 qhm
 · rw[a,b,c,d]at k2;exact absurd k2 qhm
 · refine⟨by constructor<;>intro<;>omega,by constructor<;>intro<;>omega,⟨fun _=>by omega,fun h3=>absurd h3 (irr h2)⟩⟩
 · rw[a',b',c',d']at h2;exact absurd h2 qhm
 · exact absurd k2 (irr h2)
def qbk0 (y z:AV):Bool:=decide (gI y.cells 3>gI z.cells 3)&&qbia y z
def q5p (v6:Bool)(hi lo bits:Int)(w6:Bool)(whi wlo wbits:Int):Bool:=decide (bits>wbits)&&qnm v6 hi lo bits w6 whi wlo wbits
theorem qbmn (v6:Bool)(hi lo bits:Int)(w6:Bool)(whi wlo wbits:Int):qqv v6 hi lo bits w6 whi wlo wbits=some (q5p v6 hi lo bits w6 whi wlo wbits):=by
 rw[qbhg];unfold qrc q5p
 simp only[q94,oB_s]
 cases decide (bits>wbits)<;>rfl
theorem qbjn (s:LU)(lo hi:Int)(hs:s.length<=9223372036854775807):qps s lo hi=some (decide ((s.length:Int)>=lo)&&(decide ((s.length:Int)<=hi)&&qlz s)):=by
 rw[qbaw];unfold ql6
 have e:qo2 s (s.length:Int) (fun(_:Unit)=>some true) FU 0=some (qlz s):=by
  rw[q1u,qja s hs (qfl s (s.length:Int) fun _=>some true) (fun i nx=>qfk s (s.length:Int) i nx fun _=>some true) (fun _ _=>rfl) (fun r=>some (qlz r))]
  · intro nx;simp[qfk,qlz]
  · intro i y r nx h1 h2 h3 h4 h5
    have h6:(i:Int)<(s.length:Int):=by omega
    unfold qfk
    simp only[h6,decide_true,cond_t,ixB_nat,h2,oB_s,h4,h5,qlz,List.all_cons]
    by_cases a1:(y.toNat:Int)<33
    · have a2:¬33<=y.toNat:=by omega
      simp[a1,a2]
    · have a2:33<=y.toNat:=by omega
      by_cases b1:(y.toNat:Int)>126
      · have b2:¬y.toNat<=126:=by omega
        simp[a1,a2,b1,b2]
      · have b2:y.toNat<=126:=by omega
        simp[a1,a2,b1,b2]
 rw[e]
 by_cases h1:(s.length:Int)<lo
 · have:¬(s.length:Int)>=lo:=by omega
   simp[h1,this]
 · have h1':(s.length:Int)>=lo:=by omega
   by_cases h2:(s.length:Int)>hi
   · have:¬(s.length:Int)<=hi:=by omega
     simp[h1,h2,this]
   · have:(s.length:Int)<=hi:=by omega
     simp[h1,h2,this,h1']
def qt9 (y:AV):Int:=bif !qrw y then 3 else bif !mayB y then 1 else 0
theorem qbol (y:AV)(hy:qt7 y):qo3 (gB y.cells 0) (gI y.cells 1) (gI y.cells 2) (gI y.cells 3) (gI y.cells 4) (gS y.cells 5) (gS y.cells 6) (gI y.cells 7)=some (qt9 y):=by
 have hw:qx6 (gB y.cells 0) (gI y.cells 1) (gI y.cells 2) (gI y.cells 3)=some (qi (gB y.cells 0)):=by
  rw[qbeo];unfold qpr qi;cases gB y.cells 0<;>rfl
 rw[qbep];unfold qpt qt9 qrw mayB
 simp only[q59,qj3,qzj,qbjn _ _ _ hy.2.2.2.1,qbjn _ _ _ hy.2.2.2.2,hw,oB_s]
 have e1:decide (((gS y.cells 6).length:Int)>=0)=true:=by simp
 rw[e1]
 cases qdi (gB y.cells 0) (gI y.cells 1) (gI y.cells 2) (gI y.cells 3)
 · rfl
 · have e2:decide (gI y.cells 7<0)= !decide (gI y.cells 7>=0):=by rw[Bool.eq_iff_iff];simp
   have e3:decide (gI y.cells 7>4294967295)= !decide (gI y.cells 7<=4294967295):=by rw[Bool.eq_iff_iff];simp
   rw[e2,e3]
   cases decide (gI y.cells 4<1)<;>cases decide (gI y.cells 4>3)<;>cases(gI y.cells 4==3)<;>cases(gI y.cells 3 != qi (gB y.cells 0))<;>simp only[cond_t,cond_f,Bool.not_true,Bool.not_false]<;>
    cases decide (((gS y.cells 5).length:Int)>=1)<;>cases decide (((gS y.cells 5).length:Int)<=63)<;>cases qlz (gS y.cells 5)<;>cases decide (((gS y.cells 6).length:Int)<=32)<;>cases qlz (gS y.cells 6)<;>cases decide (gI y.cells 7>=0)<;>cases decide (gI y.cells 7<=4294967295)<;>rfl
def admF (ko kb:Int):Bool:=bif ko==1 then true else bif ko==2 then kb==3 else false
theorem qbs4 (y z:AV):qwo (gB z.cells 0) (gI z.cells 1) (gI z.cells 2) (gI z.cells 3) (gI z.cells 4) (gS z.cells 5) (gS z.cells 6) (gI z.cells 7) (gB y.cells 0) (gI y.cells 1) (gI y.cells 2) (gI y.cells 3) (gI y.cells 4) (gS y.cells 5) (gS y.cells 6) (gI y.cells 7)=some (admF (gI z.cells 4) (gI y.cells 4)):=by
 rw[qbc3];unfold qn6 admF
 simp only[qm4]
def misY (y z:AV):Bool:=qbk0 y z&& !admF (gI z.cells 4) (gI y.cells 4)
theorem qbom {y z:AV}(hz:mayB z=true):misY y z=qdn y z:=by
 have hk:1<=gI z.cells 4/\gI z.cells 4<=3:=by
  unfold mayB at hz
  by_cases h1:gI z.cells 4<1
  · simp[h1]at hz
  · by_cases h2:gI z.cells 4>3
    · simp[h1,h2]at hz
    · omega
 unfold misY qdn qbk0 admF
 have h3:gI z.cells 4=1\/gI z.cells 4=2\/gI z.cells 4=3:=by omega
 rcases h3 with h|h|h<;>rw[h]<;>cases qbia y z<;>cases decide (gI y.cells 3>gI z.cells 3)<;>cases hh:gI y.cells 4==3<;>simp[hh,bne]
theorem qvd (q:AV->Bool)(l:LA):decide (idxI q l>=0)=l.any q:=by
 unfold idxI
 have:(idxO q l).isSome=l.any q:=by
  induction l with
  |nil=>rfl
  |cons y r ih=>unfold idxO;cases hq:q y<;>simp[hq,ih]
 cases h:idxO q l with
 |none=>rw[h]at this;simp at this⊢;simpa using this
 |some k=>rw[h]at this;simp at this⊢;simpa using this
theorem q5q {R:Type}(l:LA)(hl:qbv l)(a0:Bool)(a1:Int)(a2:Int)(a3:Int)(a4:Int)(a5:LU)(a6:LU)(a7:Int)(kr:Int->Bool->Int->Int->Int->Int->List UInt8->List UInt8->Int->Option R)(q:AV->Bool)(hq:∀y,qt7 y->∀kr:Bool->Bool->Int->Int->Int->Int->List UInt8->List UInt8->Int->Option R,qo5 (gB y.cells 0) (gI y.cells 1) (gI y.cells 2) (gI y.cells 3) (gI y.cells 4) (gS y.cells 5) (gS y.cells 6) (gI y.cells 7) a0 a1 a2 a3 a4 a5 a6 a7 kr=kr (q y) a0 a1 a2 a3 a4 a5 a6 a7):
 qb0 l a0 a1 a2 a3 a4 a5 a6 a7 kr=kr (idxI q l) a0 a1 a2 a3 a4 a5 a6 a7:=by
 rw[qgc];unfold qbj
 rw[qfc]
 have key:=qem l hl.1 (fun n i (s:Bool×Int×Int×Int×Int×(List UInt8)×(List UInt8)×Int)=>qu l (l.length:Int) (fun c0 c1 c2 c3 c4 c5 c6 c7=>kr (-1:Int) c0 c1 c2 c3 c4 c5 c6 c7) kr n i s.1 s.2.1 s.2.2.1 s.2.2.2.1 s.2.2.2.2.1 s.2.2.2.2.2.1 s.2.2.2.2.2.2.1 s.2.2.2.2.2.2.2)
  (fun i s nx=>qt l (l.length:Int) i s.1 s.2.1 s.2.2.1 s.2.2.2.1 s.2.2.2.2.1 s.2.2.2.2.2.1 s.2.2.2.2.2.2.1 s.2.2.2.2.2.2.2 (fun i c0 c1 c2 c3 c4 c5 c6 c7=>nx i (c0,c1,c2,c3,c4,c5,c6,c7)) (fun c0 c1 c2 c3 c4 c5 c6 c7=>kr (-1:Int) c0 c1 c2 c3 c4 c5 c6 c7) kr) (fun _ _ _=>rfl)
  (fun i s=>s=(a0,a1,a2,a3,a4,a5,a6,a7)) (fun r s=>kr (match idxO q r with|some k=>((l.length-r.length+k:Nat):Int)|none=> -1) a0 a1 a2 a3 a4 a5 a6 a7) ?_ ?_ (a0,a1,a2,a3,a4,a5,a6,a7) FU rfl (qek (by have:=hl.1;omega))
 · refine key.trans ?_
   unfold idxI
   cases idxO q l<;>simp
 · intro s nx hs
   subst hs
   simp[qt,idxO]
 · rintro i y r _ nx h1 h2 h3 h4 rfl h5
   have hy:=hl.2 y (List.mem_of_getElem? h2)
   have h6:(i:Int)<(l.length:Int):=by omega
   have hr:r.length=l.length-(i+1):=by
    have:=congrArg List.length h1
    simp at this
    omega
   unfold qt
   simp only[h6,decide_true,cond_t,ixB_nat,h2,oB_s,hy.1,hq y hy,h4]
   unfold idxO
   cases hqq:q y with
   |true=>
    simp only[cond_t,if_true]
    congr 1
    simp
    omega
   |false=>
    simp only[cond_f,Bool.false_eq_true,if_false]
    rw[h5 _ rfl]
    cases idxO q r with
    |none=>rfl
    |some k=>
     simp
     congr 1
     omega
theorem qbcv (l:LA)(hl:qbv l)(y:AV):qjh l (gB y.cells 0) (gI y.cells 1) (gI y.cells 2) (gI y.cells 3) (gI y.cells 4) (gS y.cells 5) (gS y.cells 6) (gI y.cells 7)=some (l.any (misY y)):=by
 rw[q6a];unfold qj5
 rw[qfe];unfold qbf
 rw[q5q l hl _ _ _ _ _ _ _ _ _ (misY y),qvd]
 intro z hz kr
 rw[q1y];unfold qit
 simp only[qbmn,qbs4,oB_s]
 have e:q5p (gB y.cells 0) (gI y.cells 1) (gI y.cells 2) (gI y.cells 3) (gB z.cells 0) (gI z.cells 1) (gI z.cells 2) (gI z.cells 3)=qbk0 y z:=rfl
 rw[e]
 unfold misY
 cases qbk0 y z<;>simp
theorem qbrg {α:Type}(l:List α)(i:Nat)(h:i<=l.length):cutI l none (some (i:Int))=some (l.take i):=by
 unfold cutI
 simp only[Option.getD_none,Option.getD_some,Int.toNat_natCast]
 rw[if_pos ⟨by omega,by omega,by omega⟩]
 simp
def qvt (pre:LA)(q:AV->Bool):Bool:=match pre.getLast? with
 |some x=>q x
 |none=>false
def qbgu (pre:LA)(y:AV):Int:=
 bif !qrw y then 3 else bif !mayB y then 1 else bif qvt pre (fun x=>decide (cmpY x y>0))then 7 else bif qvt pre (fun x=>samP x y)then 12 else bif pre.any (qdn y)then 24 else 0
def chkR:List AV->List AV->Int
 |_,[]=>0
 |pre,y::r=>bif qbgu pre y != 0 then qbgu pre y else chkR (pre++[y]) r
def qwh (l:LA):Int:=bif decide ((l.length:Int)>512)then 9 else chkR [] l
theorem qbjo {α:Type}{l:List α}{i:Nat}(h:i+1<=l.length):(l.take (i+1)).getLast? =l[i]?:=by
 rw[List.getLast?_eq_getElem?]
 have:(l.take (i+1)).length=i+1:=by simp;omega
 rw[this,List.getElem?_take]
 simp
theorem qbmo {α:Type}{l r:List α}{a:α}{i:Nat}(h:l.drop i=a::r):l.length-(a::r).length=i/\l.length-r.length=i+1:=by
 have h1:=congrArg List.length h
 have h2:i<l.length:=by
  rcases Nat.lt_or_ge i l.length with h3|h3
  · exact h3
  · rw[List.drop_of_length_le h3]at h;cases h
 simp at h1⊢
 omega
theorem q97 {α:Type}{l:List α}{i:Nat}{a:α}(h:l[i]?=some a):l.take (i+1)=l.take i++[a]:=by
 rw[List.take_add_one,h];rfl
theorem qbs5 (l:LA)(hl:qbv l):qyp l=some (qwh l):=by
 rw[qbfa];unfold qp7 qwh
 by_cases hlen:(l.length:Int)>512
 · simp[hlen]
 · simp only[hlen,decide_false,cond_f]
   rw[q60]
   have key:=qem (σ:=Unit) l hl.1 (fun n i _=>qhw l l (l.length:Int) (fun _=>some 0) n i) (fun i _ nx=>qhv l l (l.length:Int) i (fun j=>nx j ()) fun _=>some 0) (fun _ _ _=>rfl)
    (fun i _=>∀z,z∈l.take i->mayB z=true) (fun r _=>some (chkR (l.take (l.length-r.length)) r)) ?_ ?_ () FU (by simp) (qek (by have:=hl.1;omega))
   · simpa using key
   · intro _ nx _;simp[qhv,chkR]
   · rintro i y r _ nx h1 h2 h3 h4 hJ h5
     have hy:=hl.2 y (List.mem_of_getElem? h2)
     have h6:(i:Int)<(l.length:Int):=by omega
     obtain⟨e1,e2⟩:=qbmo h1
     have hti:qbv (l.take i):=⟨by have:=hl.1;simp;omega,fun z hz=>hl.2 z (List.mem_of_mem_take hz)⟩
     have hmis:(l.take i).any (misY y)=(l.take i).any (qdn y):=by
      rw[Bool.eq_iff_iff,List.any_eq_true,List.any_eq_true]
      constructor<;>(rintro⟨z,hz,hb⟩;refine⟨z,hz,?_⟩;simpa[qbom (hJ z hz)]using hb)
     rw[e1]
     unfold qhv chkR
     simp only[h6,decide_true,cond_t,ixB_nat,h2,oB_s,hy.1,qbol y hy,h4,qbrg l i (by omega),qbcv _ hti,hmis]
     rw[show l.take i++[y]=l.take (l.length-r.length) by rw[e2];exact(q97 h2).symm]
     by_cases hf:qt9 y=0
     · have hf2:(qt9 y != 0)=false:=by simpa using hf
       have hpm:qrw y=true/\mayB y=true:=by
        unfold qt9 at hf
        cases hp:qrw y<;>cases hm:mayB y<;>simp[hp,hm]at hf⊢
       have hnx:nx ((i+1:Nat):Int) ()=some (chkR (l.take (l.length-r.length)) r):=by
        refine h5 () fun z hz=> ?_
        rw[q97 h2]at hz
        rcases List.mem_append.1 hz with hz|hz
        · exact hJ z hz
        · simp at hz;subst hz;exact hpm.2
       simp only[hf2,cond_f,hnx]
       have fin:(bif(l.take i).any (qdn y)then some (24:Int)else some (chkR (l.take (l.length-r.length)) r))=some (bif((bif(l.take i).any (qdn y)then(24:Int)else 0) != 0)then(bif(l.take i).any (qdn y)then(24:Int)else 0)else chkR (l.take (l.length-r.length)) r):=by
        cases(l.take i).any (qdn y)<;>simp
       rw[q6z];unfold qkg qbgu
       simp only[hpm.1,hpm.2,Bool.not_true,cond_f]
       cases i with
       |zero=>
        have e0:∀q,qvt (l.take 0) q=false:=fun q=>by simp[qvt]
        simp only[e0,cond_f,Int.natCast_zero,Int.lt_irrefl,gt_iff_lt,decide_false]
        exact fin
       |succ i=>
        have hpos:((i+1:Nat):Int)>0:=by omega
        have hw:IntKind.i64.wrap (((i+1:Nat):Int)-1)=(i:Int):=by rw[w64 (by omega) (by have:=hl.1;omega)];omega
        obtain⟨x,hx⟩:∃x,l[i]?=some x:=⟨l[i],by simp⟩
        have hxf:=hl.2 x (List.mem_of_getElem? hx)
        have e0:∀q,qvt (l.take (i+1)) q=q x:=fun q=>by unfold qvt;rw[qbjo (by omega),hx]
        simp only[hpos,decide_true,cond_t,hw,ixB_nat,hx,oB_s,hxf.1,qbrf,e0]
        obtain⟨s1,s2,s3⟩:=qwg x y
        rw[show cmpP (gB y.cells 0) (gI y.cells 1) (gI y.cells 2) (gI y.cells 3) (gB x.cells 0) (gI x.cells 1) (gI x.cells 2) (gI x.cells 3)=cmpY y x from rfl]
        by_cases hc:cmpY y x<0
        · have hc2:=s1.2 hc
          simp[hc,hc2]
        · have hc2:¬cmpY x y>0:=fun h=>hc (s1.1 h)
          simp only[hc,hc2,decide_false,cond_f]
          by_cases hq:cmpY y x=0
          · have hs:samP x y=true:=q5o.2 (s2.2 hq)
            simp[hq,hs]
          · have hs:samP x y=false:=by
             rw[Bool.eq_false_iff];exact fun h=>hq (s2.1 (q5o.1 h))
            have hq2:(cmpY y x==0)=false:=by simpa using hq
            simp only[hq2,hs,cond_f]
            exact fin
     · have hf2:(qt9 y != 0)=true:=by simpa using hf
       simp only[hf2,cond_t]
       unfold qbgu
       unfold qt9 at hf⊢
       cases hp:qrw y<;>cases hm:mayB y<;>simp[hp,hm]at hf⊢
theorem qbrh (l:LA)(hl:qbv l):qus l=some (qwh l):=by
 rw[qbb0];unfold qmq qwh
 by_cases hlen:(l.length:Int)>512
 · simp[hlen]
 · simp only[hlen,decide_false,cond_f]
   rw[q2j,qja l hl.1 (fun n i=>qfu l (fun _=>some 0) n i) (fun i nx=>qft l i nx fun _=>some 0) (fun _ _=>rfl) (fun r=>some (chkR (l.take (l.length-r.length)) r))]
   · simp
   · intro nx;simp[qft,chkR]
   · intro i y r nx h1 h2 h3 h4 h5
     have hy:=hl.2 y (List.mem_of_getElem? h2)
     have h6:(i:Int)<(l.length:Int):=by omega
     obtain⟨e1,e2⟩:=qbmo h1
     rw[e1]
     have inner:qpb l (i:Int) (fun _=>nx (IntKind.i64.wrap ((i:Int)+1))) FU 0=bif(l.take i).any (qdn y)then some 24 else nx ((i+1:Nat):Int):=by
      have hti:(l.take i).length=i:=by simp;omega
      rw[q2i,qja (l.take i) (by have:=hl.1;omega) (qfs l (i:Int) fun _=>nx (IntKind.i64.wrap ((i:Int)+1))) (fun k nx'=>qfr l (i:Int) k nx' fun _=>nx (IntKind.i64.wrap ((i:Int)+1))) (fun _ _=>rfl) (fun r=>bif r.any (qdn y)then some 24 else nx ((i+1:Nat):Int))]
      · intro nx'
        unfold qfr
        rw[hti]
        simp[h4]
      · intro k z r nx' g1 g2 g3 g4 g5
        have g6:(k:Int)<(i:Int):=by omega
        have g7:l[k]?=some z:=by rw[List.getElem?_take]at g2;split at g2;exact g2;cases g2
        have hz:=hl.2 z (List.mem_of_getElem? g7)
        unfold qfr
        simp only[g6,decide_true,cond_t,ixB_nat,h2,g7,oB_s,hy.1,hz.1,qbs2 y z hy,g4,g5,List.any_cons]
        cases qdn y z<;>simp
     unfold qft chkR
     simp only[h6,decide_true,cond_t,ixB_nat,h2,oB_s,hy.1,q91,qbxi y hy,inner,h5]
     rw[show l.take i++[y]=l.take (l.length-r.length) by rw[e2];exact(q97 h2).symm]
     rw[show qdi (gB y.cells 0) (gI y.cells 1) (gI y.cells 2) (gI y.cells 3)=qrw y from rfl]
     have fin:(bif(l.take i).any (qdn y)then some (24:Int)else some (chkR (l.take (l.length-r.length)) r))=some (bif((bif(l.take i).any (qdn y)then(24:Int)else 0) != 0)then(bif(l.take i).any (qdn y)then(24:Int)else 0)else chkR (l.take (l.length-r.length)) r):=by
      cases(l.take i).any (qdn y)<;>simp
     unfold qbgu
     cases qrw y with
     |false=>simp
     |true=>
      cases mayB y with
      |false=>simp
      |true=>
       simp only[Bool.not_true,cond_f,q2f,qix,q2h,qiy]
       cases i with
       |zero=>
        have e0:∀q,qvt (l.take 0) q=false:=fun q=>by simp[qvt]
        simp only[e0,cond_f,Int.natCast_zero,Int.lt_irrefl,gt_iff_lt,decide_false]
        exact fin
       |succ i=>
        have hpos:((i+1:Nat):Int)>0:=by omega
        have hw:IntKind.i64.wrap (((i+1:Nat):Int)-1)=(i:Int):=by rw[w64 (by omega) (by have:=hl.1;omega)];omega
        obtain⟨x,hx⟩:∃x,l[i]?=some x:=⟨l[i],by simp⟩
        have hxf:=hl.2 x (List.mem_of_getElem? hx)
        have e0:∀q,qvt (l.take (i+1)) q=q x:=fun q=>by unfold qvt;rw[qbjo (by omega),hx]
        simp only[hpos,decide_true,cond_t,hw,ixB_nat,hx,h2,oB_s,hxf.1,hy.1,qbwo,e0]
        rw[show cmpP (gB x.cells 0) (gI x.cells 1) (gI x.cells 2) (gI x.cells 3) (gB y.cells 0) (gI y.cells 1) (gI y.cells 2) (gI y.cells 3)=cmpY x y from rfl]
        rw[show((gB x.cells 0==gB y.cells 0)&&((gI x.cells 1==gI y.cells 1)&&((gI x.cells 2==gI y.cells 2)&&((gI x.cells 3==gI y.cells 3)&&true))))=samP x y from rfl]
        cases decide (cmpY x y>0)with
        |true=>simp
        |false=>
         cases samP x y with
         |true=>simp
         |false=>
          simp only[cond_f]
          exact fin
def mkB (b0:Bool)(b1 b2 b3 b4:Int)(b5 b6:LU)(b7:Int):AV:=.agg [(.bool b0),(.int .u64 b1),(.int .u64 b2),(.int .i64 b3),(.int .i64 b4),(.str b5),(.str b6),(.int .i64 b7)]
def mkP (b0:Bool)(b1 b2 b3:Int):AV:=.agg [(.bool b0),(.int .u64 b1),(.int .u64 b2),(.int .i64 b3)]
theorem qbxj {cs:LA}(h:fitC qb cs=true):cs=(mkB (gB cs 0) (gI cs 1) (gI cs 2) (gI cs 3) (gI cs 4) (gS cs 5) (gS cs 6) (gI cs 7)).cells:=by
 have:=qqg (ls:=qb) (by decide) h
 exact this.symm
theorem qsc {y:AV}(h:fitC qb y.cells=true):mkB (gB y.cells 0) (gI y.cells 1) (gI y.cells 2) (gI y.cells 3) (gI y.cells 4) (gS y.cells 5) (gS y.cells 6) (gI y.cells 7)=y:=by
 have h1:=qbxj h
 cases y with
 |agg cs=>
  simp only[AV.cells]at h1⊢
  unfold mkB at h1⊢
  simp only[AV.cells]at h1
  rw[<-h1]
 |_=>
  have h2:=congrArg List.length h1
  simp[AV.cells,mkB]at h2
theorem qbri {y:AV}(h:fitC qb y.cells=true):blkV y=y:=qsc h
def occF (l:LA)(v:Bool)(hi lo bits:Int):Bool:=l.any fun y=>q5p (gB y.cells 0) (gI y.cells 1) (gI y.cells 2) (gI y.cells 3) v hi lo bits
theorem q7h {R:Type}(l:LA)(hl:qbv l)(a0:Bool)(a1:Int)(a2:Int)(a3:Int)(kr:Int->Bool->Int->Int->Int->Option R)(q:AV->Bool)(hq:∀y,qt7 y->∀kr:Bool->Bool->Int->Int->Int->Option R,qqo (gB y.cells 0) (gI y.cells 1) (gI y.cells 2) (gI y.cells 3) (gI y.cells 4) (gS y.cells 5) (gS y.cells 6) (gI y.cells 7) a0 a1 a2 a3 kr=kr (q y) a0 a1 a2 a3):
 qb9 l a0 a1 a2 a3 kr=kr (idxI q l) a0 a1 a2 a3:=by
 rw[qgp];unfold qbl
 rw[qfh]
 have key:=qem l hl.1 (fun n i (s:Bool×Int×Int×Int)=>qw l (l.length:Int) (fun c0 c1 c2 c3=>kr (-1:Int) c0 c1 c2 c3) kr n i s.1 s.2.1 s.2.2.1 s.2.2.2)
  (fun i s nx=>qv l (l.length:Int) i s.1 s.2.1 s.2.2.1 s.2.2.2 (fun i c0 c1 c2 c3=>nx i (c0,c1,c2,c3)) (fun c0 c1 c2 c3=>kr (-1:Int) c0 c1 c2 c3) kr) (fun _ _ _=>rfl)
  (fun i s=>s=(a0,a1,a2,a3)) (fun r s=>kr (match idxO q r with|some k=>((l.length-r.length+k:Nat):Int)|none=> -1) a0 a1 a2 a3) ?_ ?_ (a0,a1,a2,a3) FU rfl (qek (by have:=hl.1;omega))
 · refine key.trans ?_
   unfold idxI
   cases idxO q l<;>simp
 · intro s nx hs
   subst hs
   simp[qv,idxO]
 · rintro i y r _ nx h1 h2 h3 h4 rfl h5
   have hy:=hl.2 y (List.mem_of_getElem? h2)
   have h6:(i:Int)<(l.length:Int):=by omega
   have hr:r.length=l.length-(i+1):=by
    have:=congrArg List.length h1
    simp at this
    omega
   unfold qv
   simp only[h6,decide_true,cond_t,ixB_nat,h2,oB_s,hy.1,hq y hy,h4]
   unfold idxO
   cases hqq:q y with
   |true=>
    simp only[cond_t,if_true]
    congr 1
    simp
    omega
   |false=>
    simp only[cond_f,Bool.false_eq_true,if_false]
    rw[h5 _ rfl]
    cases idxO q r with
    |none=>rfl
    |some k=>
     simp
     congr 1
     omega
theorem qbgv (l:LA)(hl:qbv l)(v:Bool)(hi lo bits:Int):qn7 l v hi lo bits=some (occF l v hi lo bits):=by
 rw[q7p];unfold qk4
 rw[qfj];unfold qbg
 rw[q7h l hl _ _ _ _ _ (fun y=>q5p (gB y.cells 0) (gI y.cells 1) (gI y.cells 2) (gI y.cells 3) v hi lo bits),qvd]
 · rfl
 · intro z hz kr
   rw[q3v];unfold qjj
   simp only[qbmn,oB_s]
def insF (b:AV):List AV->List AV
 |[]=>[b]
 |y::r=>bif decide (cmpY y b>0)then b::y::r else y::insF b r
theorem qbjp (b y:AV)(r:LA):insF b (y::r)=bif decide (cmpY y b>0)then b::y::r else y::insF b r:=rfl
theorem qbmp (b:AV):∀l,(insF b l).length=l.length+1
 |[]=>rfl
 |y::r=>by unfold insF;cases decide (cmpY y b>0)<;>simp[qbmp b r]
theorem qbmq (b:AV):∀l,insF b l=l.take ((idxO (fun y=>decide (cmpY y b>0)) l).getD l.length)++[b]++l.drop ((idxO (fun y=>decide (cmpY y b>0)) l).getD l.length)
 |[]=>rfl
 |y::r=>by
  unfold insF idxO
  have ih:=qbmq b r
  cases h:decide (cmpY y b>0)with
  |true=>simp
  |false=>
   simp only[cond_f,Bool.false_eq_true,if_false]
   rw[ih]
   cases idxO (fun y=>decide (cmpY y b>0)) r<;>simp
theorem qbca {R:Type}(l:LA)(hl:qbv l)(a0:Bool)(a1:Int)(a2:Int)(a3:Int)(a4:Int)(a5:LU)(a6:LU)(a7:Int)(kr:Int->Bool->Int->Int->Int->Int->List UInt8->List UInt8->Int->Option R)(q:AV->Bool)(hq:∀y,qt7 y->∀kr:Bool->Bool->Int->Int->Int->Int->List UInt8->List UInt8->Int->Option R,qs5 (gB y.cells 0) (gI y.cells 1) (gI y.cells 2) (gI y.cells 3) (gI y.cells 4) (gS y.cells 5) (gS y.cells 6) (gI y.cells 7) a0 a1 a2 a3 a4 a5 a6 a7 kr=kr (q y) a0 a1 a2 a3 a4 a5 a6 a7):
 qcb l a0 a1 a2 a3 a4 a5 a6 a7 kr=kr (idxI q l) a0 a1 a2 a3 a4 a5 a6 a7:=by
 rw[qg3];unfold qbo
 rw[qgd]
 have key:=qem l hl.1 (fun n i (s:Bool×Int×Int×Int×Int×(List UInt8)×(List UInt8)×Int)=>qy l (l.length:Int) (fun c0 c1 c2 c3 c4 c5 c6 c7=>kr (-1:Int) c0 c1 c2 c3 c4 c5 c6 c7) kr n i s.1 s.2.1 s.2.2.1 s.2.2.2.1 s.2.2.2.2.1 s.2.2.2.2.2.1 s.2.2.2.2.2.2.1 s.2.2.2.2.2.2.2)
  (fun i s nx=>qx l (l.length:Int) i s.1 s.2.1 s.2.2.1 s.2.2.2.1 s.2.2.2.2.1 s.2.2.2.2.2.1 s.2.2.2.2.2.2.1 s.2.2.2.2.2.2.2 (fun i c0 c1 c2 c3 c4 c5 c6 c7=>nx i (c0,c1,c2,c3,c4,c5,c6,c7)) (fun c0 c1 c2 c3 c4 c5 c6 c7=>kr (-1:Int) c0 c1 c2 c3 c4 c5 c6 c7) kr) (fun _ _ _=>rfl)
  (fun i s=>s=(a0,a1,a2,a3,a4,a5,a6,a7)) (fun r s=>kr (match idxO q r with|some k=>((l.length-r.length+k:Nat):Int)|none=> -1) a0 a1 a2 a3 a4 a5 a6 a7) ?_ ?_ (a0,a1,a2,a3,a4,a5,a6,a7) FU rfl (qek (by have:=hl.1;omega))
 · refine key.trans ?_
   unfold idxI
   cases idxO q l<;>simp
 · intro s nx hs
   subst hs
   simp[qx,idxO]
 · rintro i y r _ nx h1 h2 h3 h4 rfl h5
   have hy:=hl.2 y (List.mem_of_getElem? h2)
   have h6:(i:Int)<(l.length:Int):=by omega
   have hr:r.length=l.length-(i+1):=by
    have:=congrArg List.length h1
    simp at this
    omega
   unfold qx
   simp only[h6,decide_true,cond_t,ixB_nat,h2,oB_s,hy.1,hq y hy,h4]
   unfold idxO
   cases hqq:q y with
   |true=>
    simp only[cond_t,if_true]
    congr 1
    simp
    omega
   |false=>
    simp only[cond_f,Bool.false_eq_true,if_false]
    rw[h5 _ rfl]
    cases idxO q r with
    |none=>rfl
    |some k=>
     simp
     congr 1
     omega
theorem qbs6 (l:LA)(hl:qbv l)(hn:l.length<=100000)(b0:Bool)(b1 b2 b3 b4:Int)(b5 b6:LU)(b7:Int):qwp l b0 b1 b2 b3 b4 b5 b6 b7=some (insF (mkB b0 b1 b2 b3 b4 b5 b6 b7) l):=by
 rw[qbc4];unfold qn8
 rw[qbca l hl _ _ _ _ _ _ _ _ _ (fun y=>decide (cmpY y (mkB b0 b1 b2 b3 b4 b5 b6 b7)>0))]
 · have hc:qr l=some l:=by
    unfold qr qwd
    have:l.length*80<=140737488355328:=by omega
    simp[this]
   rw[q6d];unfold qj6
   have fin:∀k:Nat,k<=l.length->qly 80 l (k:Int) [mkB b0 b1 b2 b3 b4 b5 b6 b7]=some (l.take k++[mkB b0 b1 b2 b3 b4 b5 b6 b7]++l.drop k):=fun k hk=>by
    unfold qly
    have:(l.length+1)*80<=140737488355328:=by omega
    simp[hk,this]
   show(bif decide (idxI (fun y=>decide (cmpY y (mkB b0 b1 b2 b3 b4 b5 b6 b7)>0)) l<0)then(oB (qr l) fun r11=>(bif hd r11 r11.length then(bif hd [mkB b0 b1 b2 b3 b4 b5 b6 b7] ([mkB b0 b1 b2 b3 b4 b5 b6 b7].length)then(oB (qly 80 r11 (l.length:Int) [mkB b0 b1 b2 b3 b4 b5 b6 b7]) fun r12=>(bif hd r12 r12.length then(some r12)else none))else none)else none))else(oB (qr l) fun r11=>(bif hd r11 r11.length then(bif hd [mkB b0 b1 b2 b3 b4 b5 b6 b7] ([mkB b0 b1 b2 b3 b4 b5 b6 b7].length)then(oB (qly 80 r11 (idxI (fun y=>decide (cmpY y (mkB b0 b1 b2 b3 b4 b5 b6 b7)>0)) l) [mkB b0 b1 b2 b3 b4 b5 b6 b7]) fun r12=>(bif hd r12 r12.length then(some r12)else none))else none)else none)))=_
   rw[qbmq,hc]
   unfold idxI
   cases hq:idxO (fun y=>decide (cmpY y (mkB b0 b1 b2 b3 b4 b5 b6 b7)>0)) l with
   |none=>
    simp only[oB_s,hd_self,cond_t,Option.getD_none]
    rw[fin l.length (Nat.le_refl _)]
    simp
   |some k=>
    obtain⟨y,hy,_⟩:=qpp l k hq
    have hk:=(List.getElem?_eq_some_iff.1 hy).1
    have h0:¬((k:Int)<0):=by omega
    simp only[oB_s,hd_self,cond_t,h0,decide_false,cond_f,Option.getD_some]
    rw[fin k (by omega)]
    simp
 · intro z hz kr
   rw[q7r];unfold qk5
   simp only[qbrf,oB_s]
   rfl
theorem qbrj {R:Type}{a:LA}(x:AV)(h:(a.length+1)*80<=140737488355328)(k:Option R):(bif decide ((a.length+([x]:List AV).length)*80<=140737488355328)then k else none)=k:=by
 rw[show([x]:List AV).length=1 from rfl,decide_eq_true h];rfl
def remF (l:LA)(v:Bool)(hi lo bits:Int):List AV:=l.filter fun y=> !atP v hi lo bits y
theorem qbgw {q:AV->Bool}:∀(l:LA) (k:Nat),idxO q l=some k->(∀(j:Nat) (y:AV),k<j->l[j]?=some y->q y=false)->l.take k++l.drop (k+1)=l.filter fun y=> !q y
 |[],k,h,_=>by simp[idxO]at h
 |y::r,k,h,hu=>by
  unfold idxO at h
  cases hq:q y with
  |true=>
   simp[hq]at h
   subst h
   simp only[List.take_zero,List.drop_succ_cons,List.drop_zero,List.nil_append]
   rw[List.filter_cons,hq]
   simp only[Bool.not_true,Bool.false_eq_true,if_false]
   refine(List.filter_eq_self.2 fun z hz=> ?_).symm
   obtain⟨j,hj⟩:=List.getElem?_of_mem hz
   rw[hu (j+1) z (by omega) (by simpa using hj)];rfl
  |false=>
   simp[hq]at h
   obtain⟨k',h1,rfl⟩:=h
   have ih:=qbgw r k' h1 (fun j z hj hz=>hu (j+1) z (by omega) (by simpa using hz))
   rw[List.filter_cons,hq]
   simp only[Bool.not_false,if_true,List.take_succ_cons,List.drop_succ_cons,List.cons_append]
   rw[ih]
theorem qf6.uniq {l:LA}(h:qf6 l){v:Bool}{hi lo bits:Int}{i j:Nat}{y z:AV}(hy:l[i]?=some y)(hz:l[j]?=some z)(h1:atP v hi lo bits y=true)(h2:atP v hi lo bits z=true):i=j:=by
 have key:∀{i j:Nat} {y z:AV},l[i]?=some y->l[j]?=some z->atP v hi lo bits y=true->atP v hi lo bits z=true->¬i<j:=fun hy hz h1 h2 hij=>by
  have:=h.sorted _ _ hy _ _ hij hz
  obtain⟨a,b,c,d⟩:=qvb.1 h1
  obtain⟨a',b',c',d'⟩:=qvb.1 h2
  unfold ltY at this
  rw[a,b,c,d,a',b',c',d']at this
  exact qhm this
 have a:=key hy hz h1 h2
 have b:=key hz hy h2 h1
 omega
theorem qbrk (l:LA)(hn:l.length<=100000)(k:Nat)(hk:k<l.length):qpy l (k:Int)=some (l.take k++l.drop (k+1)):=by
 rw[qba3];unfold qma
 have hc:qr l=some l:=by
  unfold qr qwd
  have:l.length*80<=140737488355328:=by omega
  simp[this]
 have hw:IntKind.i64.wrap ((k:Int)+1)=((k+1:Nat):Int):=w64 (by omega) (by omega)
 have hd':qsw l (k:Int) ((k+1:Nat):Int)=some (l.take k++l.drop (k+1)):=by
  unfold qsw
  have:((0:Int)<=(k:Int)/\(k:Int)<((k+1:Nat):Int)/\((k+1:Nat):Int)<=(l.length:Int)/\l.length<=9223372036854775807):=⟨by omega,by omega,by omega,by omega⟩
  simp only[this,and_self,decide_true,cond_t,Int.toNat_natCast]
 simp only[hc,oB_s,hd_self,cond_t,hw,hd']
theorem qbpk (l:LA)(hn:l.length<=100000)(ht:qf6 l){v:Bool}{hi lo bits:Int}{k:Nat}(hk:idxO (atP v hi lo bits) l=some k):qpy l (k:Int)=some (remF l v hi lo bits):=by
 obtain⟨y,hy,hf⟩:=qpp l k hk
 rw[qbrk l hn k (List.getElem?_eq_some_iff.1 hy).1]
 congr 1
 have hq:=List.find?_some hf
 refine qbgw l k hk fun j z hj hz=> ?_
 rw[Bool.eq_false_iff]
 intro h2
 have:=ht.uniq hy hz hq h2
 omega
def qe8 (l:LA)(v:Bool)(hi lo bits:Int):List AV×Int:=
 bif !(l.any (atP v hi lo bits))then([],11)else bif occF l v hi lo bits then([],25)else(remF l v hi lo bits,0)
theorem qbu9 (q:AV->Bool)(l:LA):decide (idxI q l<0)= !(l.any q):=by
 rw[<-qvd,Bool.eq_iff_iff]
 simp
theorem qbva {q:AV->Bool}{l:LA}(h:l.any q=true):∃k,idxO q l=some k/\idxI q l=(k:Int):=by
 rw[<-qvd]at h
 unfold idxI at*
 cases hq:idxO q l with
 |none=>rw[hq]at h;simp at h
 |some k=>exact⟨k,rfl,rfl⟩
theorem qbs7 (l:LA)(hl:qbv l)(hn:l.length<=100000)(ht:qf6 l)(v:Bool)(hi lo bits:Int):qwq l v hi lo bits=some (qe8 l v hi lo bits):=by
 rw[qbc7];unfold qn9 qe8
 simp only[qbed l hl,oB_s,qbgv l hl,qbu9]
 cases ha:l.any (atP v hi lo bits)with
 |false=>rfl
 |true=>
  obtain⟨k,h1,h2⟩:=qbva ha
  simp only[Bool.not_true,cond_f]
  cases occF l v hi lo bits with
  |true=>rfl
  |false=>
   simp only[cond_f,h2,qbpk l hn ht h1,oB_s]
def addF (l:LA)(b:AV):List AV×Int:=
 bif !qrw b then([],3)else bif !mayB b then([],1)else bif l.any (atP (gB b.cells 0) (gI b.cells 1) (gI b.cells 2) (gI b.cells 3))then([],12)else
 bif l.any (qdn b)||occF l (gB b.cells 0) (gI b.cells 1) (gI b.cells 2) (gI b.cells 3)then([],24)else bif decide ((l.length:Int)>=512)then([],9)else(insF b l,0)
theorem qf6.may {l:LA}(ht:qf6 l){y:AV}(hy:y∈l):mayB y=true:=by
 obtain⟨j,hj⟩:=List.getElem?_of_mem hy
 exact(ht j y hj).may
theorem qf6.mis {l:LA}(ht:qf6 l)(b:AV):l.any (misY b)=l.any (qdn b):=by
 rw[Bool.eq_iff_iff,List.any_eq_true,List.any_eq_true]
 constructor<;>(rintro⟨z,hz,hb⟩;refine⟨z,hz,?_⟩;simpa[qbom (ht.may hz)]using hb)
theorem qbt9 (l:LA)(hl:qbv l)(hn:l.length<=100000)(ht:qf6 l)(b0:Bool)(b1 b2 b3 b4:Int)(b5 b6:LU)(b7:Int)(hb:qt7 (mkB b0 b1 b2 b3 b4 b5 b6 b7)):qxg l b0 b1 b2 b3 b4 b5 b6 b7=some (addF l (mkB b0 b1 b2 b3 b4 b5 b6 b7)):=by
 have h1:qo3 b0 b1 b2 b3 b4 b5 b6 b7=some (qt9 (mkB b0 b1 b2 b3 b4 b5 b6 b7)):=qbol (mkB b0 b1 b2 b3 b4 b5 b6 b7) hb
 have h2:qjh l b0 b1 b2 b3 b4 b5 b6 b7=some (l.any (misY (mkB b0 b1 b2 b3 b4 b5 b6 b7))):=qbcv l hl (mkB b0 b1 b2 b3 b4 b5 b6 b7)
 rw[qbj7];unfold qs6 addF
 simp only[h1,oB_s,qba2,ql9,h2,qbed l hl,qvd,qbgv l hl,qbs6 l hl hn,ht.mis]
 rw[show(gB (mkB b0 b1 b2 b3 b4 b5 b6 b7).cells 0)=b0 from rfl,show(gI (mkB b0 b1 b2 b3 b4 b5 b6 b7).cells 1)=b1 from rfl,show(gI (mkB b0 b1 b2 b3 b4 b5 b6 b7).cells 2)=b2 from rfl,show(gI (mkB b0 b1 b2 b3 b4 b5 b6 b7).cells 3)=b3 from rfl]
 unfold qt9
 cases qrw (mkB b0 b1 b2 b3 b4 b5 b6 b7)with
 |false=>rfl
 |true=>
  cases mayB (mkB b0 b1 b2 b3 b4 b5 b6 b7)with
  |false=>rfl
  |true=>
   simp only[Bool.not_true,cond_f,bne_self_eq_false]
   cases l.any (atP b0 b1 b2 b3)<;>cases l.any (qdn (mkB b0 b1 b2 b3 b4 b5 b6 b7))<;>cases occF l b0 b1 b2 b3<;>cases decide ((l.length:Int)>=512)<;>rfl
theorem qbmr {x:Int}(h:uok x):qbh .or .u64 x 0=x:=by
 have:=qbmk h (y:=0) ⟨by omega,by omega⟩ (qvs h)
 omega
def shl1 (p:Int×Int):Int×Int:=(IntKind.u64.wrap (IntKind.u64.wrap (p.1*2)+IntKind.u64.wrap (p.2.tdiv 9223372036854775808)),IntKind.u64.wrap (p.2*2))
def shlN:Nat->Int×Int->Int×Int
 |0,p=>p
 |n+1,p=>shlN n (shl1 p)
theorem qbid:∀n:Fin 64,shlN n (0,1)=(0,((2^n.val:Nat):Int)):=by decide+kernel
theorem qbef:∀n:Fin 64,shlN (n.val+64) (0,1)=(((2^n.val:Nat):Int),0):=by decide+kernel
theorem qbvb:∀n:Fin 128,(0<=(shlN n (0,1)).1/\(shlN n (0,1)).1<=18446744073709551615)/\(0<=(shlN n (0,1)).2/\(shlN n (0,1)).2<=18446744073709551615):=by decide+kernel
theorem qbvc {n:Nat}(h:n<128):numP (shlN n (0,1)).1 (shlN n (0,1)).2=2^n:=by
 unfold numP
 rcases Nat.lt_or_ge n 64 with h1|h1
 · rw[qbid ⟨n,h1⟩]
   show(0:Int).toNat*18446744073709551616+(((2^n:Nat):Int)).toNat=2^n
   rw[Int.toNat_natCast]
   simp
 · obtain⟨j,rfl⟩:∃j,n=j+64:=⟨n-64,by omega⟩
   rw[qbef ⟨j,by omega⟩,Nat.pow_add,q5n]
   show(((2^j:Nat):Int)).toNat*18446744073709551616+(0:Int).toNat=_
   rw[Int.toNat_natCast]
   simp
def qrx:AV:=mkP false 0 0 0
def qq9 (v:Bool)(hi lo bits n:Int):Bool:=qdi v hi lo bits&&(decide (bits<=n)&&decide (n<=qi v))
theorem qbrl {v:Bool}{hi lo bits n:Int}(h:qq9 v hi lo bits n=true):qdi v hi lo bits=true/\0<=bits/\bits<=n/\n<=qi v/\n<=128:=by
 unfold qq9 at h
 simp only[Bool.and_eq_true,decide_eq_true_eq]at h
 have h1:=qdt h.1
 have:=qha v
 exact⟨h.1,h1.1,h.2.1,h.2.2,by omega⟩
theorem qbms {v:Bool}{hi lo bits n i:Int}(c0:Bool)(c1 c2 c3:Int)(kn:Bool->Option (AV×Bool)):qul n i v hi lo bits c0 c1 c2 c3 kn=kn (!qq9 v hi lo bits n):=by
 rw[qbbc];unfold qmd qq9
 simp only[qzj,qzi,oB_s]
 have e1:decide (n<bits)= !decide (bits<=n):=by rw[Bool.eq_iff_iff];simp
 have e2:decide (n>qi v)= !decide (n<=qi v):=by rw[Bool.eq_iff_iff];simp
 rw[e1,e2]
 cases qdi v hi lo bits<;>cases decide (bits<=n)<;>rfl
theorem q5r {v:Bool}{hi lo bits n:Int}(u1:uok hi)(u2:uok lo):qdv v hi lo bits n 0=some (bif qq9 v hi lo bits n then(mkP v hi lo n,true)else(qrx,false)):=by
 rw[q12];unfold qm6
 rw[qbms]
 cases hp:qq9 v hi lo bits n with
 |false=>rfl
 |true=>
  obtain⟨h1,h2,h3,h4,h5⟩:=qbrl hp
  have hw:IntKind.i64.wrap (n-bits)=n-bits:=w64 (by omega) (by omega)
  have hw2:IntKind.i64.wrap (qi v-n)=qi v-n:=w64 (by have:=qha v;omega) (by have:=qha v;omega)
  have hu:IntKind.u64.wrap (n-bits)=n-bits:=wu64 (by omega) (by omega)
  have hu2:IntKind.u64.wrap (qi v-n)=qi v-n:=wu64 (by omega) (by have:=qha v;omega)
  have a0:¬n-bits<0:=by omega
  simp only[Bool.not_true,cond_f,cond_t,hw,qvw,qih,hu,a0,decide_false,Int.zero_fdiv,bne_self_eq_false,qzi,oB_s,hw2,hu2]
  have fin:(bif decide (n-bits<64)then qj8 n 0 (qi v-n) 0 0 v hi lo bits false 0 0 0 (fun a b=>some (mkP v (qbh .or .u64 hi a) (qbh .or .u64 lo b) n,true))else qj8 n 0 (qi v-n) 0 0 v hi lo bits false 0 0 0 (fun a b=>some (mkP v (qbh .or .u64 hi a) (qbh .or .u64 lo b) n,true)))=some (mkP v hi lo n,true):=by
   have e:qj8 n 0 (qi v-n) 0 0 v hi lo bits false 0 0 0 (fun a b=>some (mkP v (qbh .or .u64 hi a) (qbh .or .u64 lo b) n,true))=some (mkP v hi lo n,true):=by
    rw[qvx];unfold qii
    have q0:IntKind.u64.wrap 0=0:=by decide
    have hnn:∀x,¬IntKind.u64.wrap x<0:=fun x=>by
     have:0<=IntKind.u64.wrap x:=by simp[IntKind.wrap,IntKind.signed];omega
     omega
    have a1:¬qi v-n<0:=by omega
    simp only[Int.zero_mul,Int.zero_fdiv,q0,hnn,a1,decide_false,cond_f,qbmr u1,qbmr u2]
    cases decide (qi v-n>=64)<;>cases decide (qi v-n>0)<;>rfl
   rw[e];cases decide (n-bits<64)<;>rfl
  exact fin
def ql0 (v:Bool)(hi lo bits:Int):Bool:=qdi v hi lo bits&&decide (bits<qi v)
def bitP (v:Bool)(bits:Int):Int×Int:=shlN (qi v-bits-1).toNat (0,1)
def lowP (v:Bool)(hi lo bits:Int):AV:=mkP v hi lo (bits+1)
def q5s (v:Bool)(hi lo bits:Int):AV:=mkP v (qbh .or .u64 hi (bitP v bits).1) (qbh .or .u64 lo (bitP v bits).2) (bits+1)
def q3m (v:Bool)(hi lo bits:Int):AV×AV×Bool:=bif ql0 v hi lo bits then(lowP v hi lo bits,q5s v hi lo bits,true)else(qrx,qrx,false)
theorem q03 {v:Bool}{hi lo bits:Int}(h:ql0 v hi lo bits=true):qdi v hi lo bits=true/\0<=bits/\bits<qi v/\bits<128:=by
 unfold ql0 at h
 simp only[Bool.and_eq_true,decide_eq_true_eq]at h
 have:=qha v
 exact⟨h.1,(qdt h.1).1,h.2,by omega⟩
theorem qbs8 {v:Bool}{bits:Int}(h0:0<=bits)(h:bits<qi v):uok (bitP v bits).1/\uok (bitP v bits).2:=by
 have:=qha v
 exact qbvb ⟨(qi v-bits-1).toNat,by omega⟩
theorem qbjq {v:Bool}{hi lo bits:Int}:qq9 v hi lo bits (IntKind.i64.wrap (bits+1))=ql0 v hi lo bits:=by
 unfold qq9 ql0
 cases hp:qdi v hi lo bits with
 |false=>rfl
 |true=>
  obtain⟨h1,h2,_⟩:=qdt hp
  have:=qha v
  rw[w64 (by omega) (by omega)]
  simp only[Bool.true_and]
  have:bits<=bits+1:=by omega
  simp[this]
  omega
theorem qbs9 {v:Bool}{hi lo bits:Int}(h:ql0 v hi lo bits=true)(u1:uok hi)(u2:uok lo):qbh .and .u64 hi (bitP v bits).1=0/\qbh .and .u64 lo (bitP v bits).2=0:=by
 obtain⟨h1,h2,h3,h4⟩:=q03 h
 obtain⟨_,_,_,h5⟩:=(qt8 u1 u2).1 h1
 have hl:=qha v
 obtain⟨k,hk⟩:∃k,kOf v bits=k+1:=⟨(qi v-bits-1).toNat,by unfold kOf;omega⟩
 have hk2:(qi v-bits-1).toNat=k:=by unfold kOf at hk;omega
 have hk3:k<128:=by omega
 unfold bitP
 rw[hk2]
 rw[hk]at h5
 obtain⟨a1,a2⟩:=u1
 obtain⟨b1,b2⟩:=u2
 have mask:∀{x:Int} (j:Nat),uok x->j<64->x.toNat%2^(j+1)=0->qbh .and .u64 x ((2^j:Nat):Int)=0:=by
  intro x j hx hj hm
  have hp:(2:Nat)^j<2^64:=Nat.pow_lt_pow_right (by decide) hj
  have h0:0<(2:Nat)^j:=Nat.two_pow_pos j
  rw[q92]
  have e1:=qxq hx
  have e2:=qxq (x:=((2^j:Nat):Int)) ⟨by omega,by rw[q5n]at hp;omega⟩
  rw[BitVec.toNat_and]
  have e3:(BitVec.ofInt 64 x).toNat=x.toNat:=by omega
  have e4:(BitVec.ofInt 64 ((2^j:Nat):Int)).toNat=2^j:=by omega
  rw[e3,e4]
  have:x.toNat.testBit j=false:=by
   rw[Nat.testBit_eq_decide_div_mod_eq]
   have h6:x.toNat / 2^j%2=0:=by
    rw[Nat.pow_succ,]at hm
    have:=Nat.mod_mul_right_div_self x.toNat (2^j) 2
    rw[hm]at this
    simpa using this.symm
   simp[h6]
  have h7:x.toNat&&& 2^j=0:=by
   refine Nat.eq_of_testBit_eq fun i=> ?_
   rw[Nat.testBit_and,Nat.testBit_two_pow]
   by_cases hij:j=i
   · subst hij;simp[this]
   · simp[hij]
  rw[h7];rfl
 rcases Nat.lt_or_ge k 64 with h6|h6
 · rw[qbid ⟨k,h6⟩]
   refine⟨qvs ⟨a1,a2⟩,mask k ⟨b1,b2⟩ h6 ?_⟩
   have:=q96 hi.toNat lo.toNat (k+1) (by omega)
   unfold numP at h5
   omega
 · obtain⟨j,rfl⟩:∃j,k=j+64:=⟨k-64,by omega⟩
   rw[qbef ⟨j,by omega⟩]
   refine⟨mask j ⟨a1,a2⟩ (by omega) ?_,qvs ⟨b1,b2⟩⟩
   have:=qbib hi.toNat lo.toNat (j+1) (by omega)
   unfold numP at h5
   rw[show j+64+1=j+1+64 by omega,this]at h5
   revert h5
   generalize hi.toNat%2^(j+1)=q
   omega
theorem qbta {v:Bool}{hi lo bits:Int}(h:ql0 v hi lo bits=true):qdv v hi lo bits (bits+1) 1=some (q5s v hi lo bits,true):=by
 obtain⟨h1,h2,h3,h4⟩:=q03 h
 have hw0:IntKind.i64.wrap (bits+1)=bits+1:=w64 (by omega) (by omega)
 have hp:=qbjq (v:=v) (hi:=hi) (lo:=lo) (bits:=bits)
 rw[hw0,h]at hp
 rw[q12];unfold qm6
 rw[qbms,hp]
 have hl:=qha v
 have e1:IntKind.i64.wrap (bits+1-bits)=1:=by rw[w64 (by omega) (by omega)];omega
 have e2:IntKind.i64.wrap (qi v-(bits+1))=qi v-bits-1:=by rw[w64 (by omega) (by omega)];omega
 have e3:IntKind.u64.wrap (qi v-bits-1)=qi v-bits-1:=wu64 (by omega) (by omega)
 simp only[Bool.not_true,cond_f,e1,qvw,qih,qzi,oB_s,e2,e3]
 rw[show decide ((1:Int)<64)=true by decide,show decide (IntKind.u64.wrap 1<0)=false by decide,show((1:Int).fdiv (2^min (IntKind.u64.wrap 1).toNat IntKind.u64.bits) != 0)=false by decide]
 simp only[cond_t,cond_f]
 rw[qvx];unfold qii
 obtain⟨k,hk⟩:∃k:Nat,qi v-bits-1=k:=⟨(qi v-bits-1).toNat,by omega⟩
 have hk3:k<128:=by omega
 unfold q5s bitP
 rw[hk,Int.toNat_natCast]
 rcases Nat.lt_or_ge k 64 with h6|h6
 · have a1:¬(k:Int)>=64:=by omega
   rw[qbid ⟨k,h6⟩]
   simp only[a1,decide_false,cond_f]
   by_cases hk0:k=0
   · subst hk0;rfl
   · have a2:(k:Int)>0:=by omega
     have a3:¬(k:Int)<0:=by omega
     have fin:∀j:Fin 64,j.val≠0->¬IntKind.u64.wrap (64-(j.val:Int))<0/\(1:Int).fdiv (2^min (IntKind.u64.wrap (64-(j.val:Int))).toNat IntKind.u64.bits)=0/\IntKind.u64.wrap (1*2^min j.val IntKind.u64.bits)=((2^j.val:Nat):Int):=by decide+kernel
     obtain⟨f1,f2,f3⟩:=fin ⟨k,h6⟩ hk0
     simp only at f1 f2 f3
     simp only[a2,decide_true,cond_t,a3,decide_false,cond_f,f1,f2,f3]
     rfl
 · obtain⟨j,rfl⟩:∃j,k=j+64:=⟨k-64,by omega⟩
   have a1:((j+64:Nat):Int)>=64:=by omega
   rw[qbef ⟨j,by omega⟩]
   have fin:∀j:Fin 64,¬IntKind.u64.wrap (((j.val+64:Nat):Int)-64)<0/\IntKind.u64.wrap (1*2^min (IntKind.u64.wrap (((j.val+64:Nat):Int)-64)).toNat IntKind.u64.bits)=((2^j.val:Nat):Int):=by decide+kernel
   obtain⟨f1,f2⟩:=fin ⟨j,by omega⟩
   simp only at f1 f2
   simp only[a1,decide_true,cond_t,f1,f2,decide_false,cond_f]
   rfl
theorem qbjr (v:Bool)(hi lo bits:Int)(u1:uok hi)(u2:uok lo):qif v hi lo bits=some (q3m v hi lo bits):=by
 rw[qbdb];unfold qoc q3m
 rw[q5r u1 u2,qbjq]
 simp only[q6f,qj9,qzj,oB_s]
 cases hh:ql0 v hi lo bits with
 |false=>rfl
 |true=>
  obtain⟨h1,h2,h3,h4⟩:=q03 hh
  have hw:IntKind.i64.wrap (bits+1)=bits+1:=w64 (by omega) (by omega)
  simp only[cond_t,Bool.not_true,cond_f,h1,hw,qbta hh,oB_s]
  rfl
theorem qbtb {v:Bool}{hi lo bits:Int}(h:ql0 v hi lo bits=true)(u1:uok hi)(u2:uok lo):
 numP (qbh .or .u64 hi (bitP v bits).1) (qbh .or .u64 lo (bitP v bits).2)=numP hi lo+2^kOf v (bits+1):=by
 obtain⟨h1,h2,h3,h4⟩:=q03 h
 obtain⟨o1,o2⟩:=qbs8 h2 h3
 obtain⟨f1,f2⟩:=qbs9 h u1 u2
 have hl:=qha v
 have hk:kOf v (bits+1)=(qi v-bits-1).toNat:=by unfold kOf;congr 1;omega
 rw[<-qbmk u1 o1 f1,<-qbmk u2 o2 f2,hk,<-qbvc (n:=(qi v-bits-1).toNat) (by omega)]
 unfold bitP at o1 o2⊢
 unfold numP
 obtain⟨a1,a2⟩:=u1
 obtain⟨b1,b2⟩:=u2
 obtain⟨c1,c2⟩:=o1
 obtain⟨d1,d2⟩:=o2
 rw[Int.toNat_add a1 c1,Int.toNat_add b1 d1]
 omega
def mkA (b0:Bool)(b1 b2:Int):AV:=.agg [(.bool b0),(.int .u64 b1),(.int .u64 b2)]
def q5t (q:AV->Bool):Option AV->List AV->Option AV
 |b,[]=>b
 |b,y::r=>q5t q (bif q y&&(match b with|none=>true|some x=>decide (gI y.cells 3>gI x.cells 3))then some y else b) r
def outC:Option AV->AV×Bool
 |some y=>(y,true)
 |none=>(blk0,false)
def qsd (q:AV->Bool)(l:LA):AV×Bool:=outC (q5t q none l)
theorem qbtc (l:LA)(hl:qbv l)(v:Bool)(ahi alo:Int):qwr l v ahi alo=some (qsd (fun y=>qhl (gB y.cells 0) (gI y.cells 1) (gI y.cells 2) (gI y.cells 3) v ahi alo) l):=by
 rw[qbc8];unfold qoa
 rw[qqq];unfold qdk
 rw[qnr]
 have key:∀kx:Bool->Bool->Int->Int->Int->Int->List UInt8->List UInt8->Int->Bool->Int->Int->Bool->Int->Int->Int->Int->List UInt8->List UInt8->Int->Bool->Int->Int->Int->Int->List UInt8->List UInt8->Int->Option (AV×Bool),(∀(e:Bool) (a0:Bool) (a1 a2 a3 a4:Int) (a5 a6:LU) (a7:Int) (b0:Bool) (b1 b2:Int) (c0:Bool) (c1 c2 c3 c4:Int) (c5 c6:LU) (c7:Int) (d0:Bool) (d1 d2 d3 d4:Int) (d5 d6:LU) (d7:Int),kx e a0 a1 a2 a3 a4 a5 a6 a7 b0 b1 b2 c0 c1 c2 c3 c4 c5 c6 c7 d0 d1 d2 d3 d4 d5 d6 d7=some (mkB d0 d1 d2 d3 d4 d5 d6 d7,e))->
  qbu l (l.length:Int) kx FU false 0 false 0 0 0 0 [] [] 0 v ahi alo false 0 0 0 0 [] [] 0 false 0 0 0 0 [] [] 0=some (qsd (fun y=>qhl (gB y.cells 0) (gI y.cells 1) (gI y.cells 2) (gI y.cells 3) v ahi alo) l):=by
  intro kx hkx
  have key:=qem (σ:=Bool×AV×AV×AV×AV) l hl.1 (fun n i s=>qbu l (l.length:Int) kx n s.1 i (gB s.2.1.cells 0) (gI s.2.1.cells 1) (gI s.2.1.cells 2) (gI s.2.1.cells 3) (gI s.2.1.cells 4) (gS s.2.1.cells 5) (gS s.2.1.cells 6) (gI s.2.1.cells 7) (gB s.2.2.1.cells 0) (gI s.2.2.1.cells 1) (gI s.2.2.1.cells 2) (gB s.2.2.2.1.cells 0) (gI s.2.2.2.1.cells 1) (gI s.2.2.2.1.cells 2) (gI s.2.2.2.1.cells 3) (gI s.2.2.2.1.cells 4) (gS s.2.2.2.1.cells 5) (gS s.2.2.2.1.cells 6) (gI s.2.2.2.1.cells 7) (gB s.2.2.2.2.cells 0) (gI s.2.2.2.2.cells 1) (gI s.2.2.2.2.cells 2) (gI s.2.2.2.2.cells 3) (gI s.2.2.2.2.cells 4) (gS s.2.2.2.2.cells 5) (gS s.2.2.2.2.cells 6) (gI s.2.2.2.2.cells 7)) (fun i s nx=>qb2 s.1 l (l.length:Int) i (gB s.2.1.cells 0) (gI s.2.1.cells 1) (gI s.2.1.cells 2) (gI s.2.1.cells 3) (gI s.2.1.cells 4) (gS s.2.1.cells 5) (gS s.2.1.cells 6) (gI s.2.1.cells 7) (gB s.2.2.1.cells 0) (gI s.2.2.1.cells 1) (gI s.2.2.1.cells 2) (gB s.2.2.2.1.cells 0) (gI s.2.2.2.1.cells 1) (gI s.2.2.2.1.cells 2) (gI s.2.2.2.1.cells 3) (gI s.2.2.2.1.cells 4) (gS s.2.2.2.1.cells 5) (gS s.2.2.2.1.cells 6) (gI s.2.2.2.1.cells 7) (gB s.2.2.2.2.cells 0) (gI s.2.2.2.2.cells 1) (gI s.2.2.2.2.cells 2) (gI s.2.2.2.2.cells 3) (gI s.2.2.2.2.cells 4) (gS s.2.2.2.2.cells 5) (gS s.2.2.2.2.cells 6) (gI s.2.2.2.2.cells 7) (fun e i a0 a1 a2 a3 a4 a5 a6 a7 b0 b1 b2 c0 c1 c2 c3 c4 c5 c6 c7 d0 d1 d2 d3 d4 d5 d6 d7=>nx i (e,mkB a0 a1 a2 a3 a4 a5 a6 a7,mkA b0 b1 b2,mkB c0 c1 c2 c3 c4 c5 c6 c7,mkB d0 d1 d2 d3 d4 d5 d6 d7)) kx) (fun _ _ _=>rfl)
   (fun i s=>s.2.1=blk0/\s.2.2.1=mkA v ahi alo/\s.2.2.2.1=blk0/\(s.1=false->s.2.2.2.2=blk0)/\(s.1=true->fitC qb s.2.2.2.2.cells=true)) (fun r s=>some (outC (q5t (fun y=>qhl (gB y.cells 0) (gI y.cells 1) (gI y.cells 2) (gI y.cells 3) v ahi alo) (bif s.1 then some s.2.2.2.2 else none) r))) ?_ ?_ (false,blk0,mkA v ahi alo,blk0,blk0) FU ⟨rfl,rfl,rfl,fun _=>rfl,fun h=>by cases h⟩ (qek (by have:=hl.1;omega))
  · exact key
  · rintro⟨e,s1,s2,s3,s4⟩ nx ⟨h1,h2,h3,h4,h5⟩
    simp only at h1 h2 h3 h4 h5
    subst h1 h2 h3
    unfold qb2
    simp only[Int.lt_irrefl,decide_false,cond_f,hkx]
    cases e with
    |false=>rw[h4 rfl];rfl
    |true=>rw[qsc (h5 rfl)];rfl
  · rintro i y r ⟨e,s1,s2,s3,s4⟩ nx g1 g2 g3 g4 ⟨h1,h2,h3,h4,h5⟩ hn
    simp only at h1 h2 h3 h4 h5
    subst h1 h2 h3
    have hy:=hl.2 y (List.mem_of_getElem? g2)
    have h6:(i:Int)<(l.length:Int):=by omega
    unfold qb2
    simp only[h6,decide_true,cond_t,ixB_nat,g2,oB_s,hy.1,g4,qnq,qct,q7v,qk6,qbcs]
    rw[qsc hy.1]
    have n1:=hn (true,blk0,mkA v ahi alo,blk0,y) ⟨rfl,rfl,rfl,fun h=>(by cases h),fun _=>hy.1⟩
    have n2:=hn (e,blk0,mkA v ahi alo,blk0,s4) ⟨rfl,rfl,rfl,h4,h5⟩
    have hs:mkB (gB s4.cells 0) (gI s4.cells 1) (gI s4.cells 2) (gI s4.cells 3) (gI s4.cells 4) (gS s4.cells 5) (gS s4.cells 6) (gI s4.cells 7)=s4:=by
     cases e with
     |false=>rw[h4 rfl];rfl
     |true=>exact qsc (h5 rfl)
    rw[hs]
    unfold q5t
    show(bif qhl (gB y.cells 0) (gI y.cells 1) (gI y.cells 2) (gI y.cells 3) v ahi alo then _ else _)=_
    cases hq:qhl (gB y.cells 0) (gI y.cells 1) (gI y.cells 2) (gI y.cells 3) v ahi alo with
    |false=>exact n2
    |true=>
     cases e with
     |false=>exact n1
     |true=>
      simp only[cond_t,Bool.not_true,cond_f,Bool.true_and]
      cases hc:decide (gI y.cells 3>gI s4.cells 3)with
      |true=>exact n1
      |false=>exact n2
 exact key _ (fun _ _ _ _ _ _ _ _ _ _ _ _ _ _ _ _ _ _ _ _ _ _ _ _ _ _ _ _=>rfl)
theorem qbrm (l:LA)(hl:qbv l)(v:Bool)(ahi alo:Int)(u1:uok ahi)(u2:uok alo):qtt l v ahi alo=some (qsd (fun y=>qhl (gB y.cells 0) (gI y.cells 1) (gI y.cells 2) (gI y.cells 3) v ahi alo) l):=by
 rw[q82];unfold qlm
 rw[q2x]
 have key:∀kx:Int->Option (AV×Bool),(∀j:Int,kx j=(match(if j<0 then none else l[j.toNat]?)with|some y=>some (y,true)|none=>if j<0 then some (blk0,false)else none))->qeg l v ahi alo false 0 0 0 0 [] [] 0 kx FU (-1) 0=some (qsd (fun y=>qhl (gB y.cells 0) (gI y.cells 1) (gI y.cells 2) (gI y.cells 3) v ahi alo) l):=by
  intro kx hkx
  have key:=qem (σ:=Int) l hl.1 (fun n i s=>qeg l v ahi alo false 0 0 0 0 [] [] 0 kx n s i) (fun i s nx=>qfz l s i v ahi alo false 0 0 0 0 [] [] 0 (fun s i=>nx i s) kx) (fun _ _ _=>rfl)
   (fun i s=>s= -1\/∃(j:Nat) (x:AV),s=j/\l[j]?=some x) (fun r s=>some (outC (q5t (fun y=>qhl (gB y.cells 0) (gI y.cells 1) (gI y.cells 2) (gI y.cells 3) v ahi alo) (bif decide (s<0)then none else l[s.toNat]?) r))) ?_ ?_ (-1) FU (.inl rfl) (qek (by have:=hl.1;omega))
  · exact key
  · rintro s nx hJ
    unfold qfz
    simp only[Int.lt_irrefl,decide_false,cond_f,hkx]
    rcases hJ with rfl|⟨j,x,rfl,hx⟩
    · rfl
    · have h0:¬(j:Int)<0:=by omega
      simp only[h0,if_false,decide_false,cond_f,Int.toNat_natCast,hx]
      rfl
  · rintro i y r s nx g1 g2 g3 g4 hJ hn
    have hy:=hl.2 y (List.mem_of_getElem? g2)
    have h6:(i:Int)<(l.length:Int):=by omega
    have hi0:¬(i:Int)<0:=by omega
    have n1:=hn (i:Int) (.inr ⟨i,y,rfl,g2⟩)
    have n2:=hn s hJ
    simp only[hi0,decide_false,cond_f,Int.toNat_natCast,g2]at n1
    unfold qfz
    simp only[h6,decide_true,cond_t,ixB_nat,g2,oB_s,hy.1,g4,q1m,qic,qbct _ _ _ _ _ _ _ u1 u2]
    rcases hJ with rfl|⟨j,x,rfl,hx⟩
    · have e1:decide ((-1:Int)<0)=true:=by decide
      simp only[e1,cond_t]at n2⊢
      unfold q5t
      simp only[Bool.and_true]
      cases hq:qhl (gB y.cells 0) (gI y.cells 1) (gI y.cells 2) (gI y.cells 3) v ahi alo with
      |false=>exact n2
      |true=>exact n1
    · have h0:¬(j:Int)<0:=by omega
      have hxf:=hl.2 x (List.mem_of_getElem? hx)
      simp only[h0,decide_false,cond_f,Int.toNat_natCast,hx,ixB_nat,oB_s,hxf.1,cond_t]at n2⊢
      unfold q5t
      cases hq:qhl (gB y.cells 0) (gI y.cells 1) (gI y.cells 2) (gI y.cells 3) v ahi alo with
      |false=>exact n2
      |true=>
       simp only[cond_t,Bool.true_and]
       cases decide (gI y.cells 3>gI x.cells 3)with
       |true=>exact n1
       |false=>exact n2
 refine key _ fun j=> ?_
 by_cases hj:j<0
 · simp only[hj,decide_true,cond_t,if_true];rfl
 · simp only[hj,decide_false,cond_f,if_false]
   have:ixB l j=l[j.toNat]?:=by unfold ixB;rw[if_pos (by omega)]
   rw[this]
   cases hx:l[j.toNat]? with
   |none=>rfl
   |some y=>
    have hy:=hl.2 y (List.mem_of_getElem? hx)
    simp only[oB_s,hy.1,cond_t]
    rw[show(AV.agg [(.bool (gB y.cells 0)),(.int .u64 (gI y.cells 1)),(.int .u64 (gI y.cells 2)),(.int .i64 (gI y.cells 3)),(.int .i64 (gI y.cells 4)),(.str (gS y.cells 5)),(.str (gS y.cells 6)),(.int .i64 (gI y.cells 7))])=y from qsc hy.1]
theorem Np.sub_range {p q:Np}(hp:p.ok)(hq:q.ok):p.sub q↔p.v=q.v/\p.k<=q.k/\q.n<=p.n/\p.n<q.n+2^q.k:=by
 unfold Np.sub
 have h0:=Nat.two_pow_pos q.k
 have h1:=Nat.mod_lt p.n h0
 have h2:=Nat.mod_le p.n (2^q.k)
 constructor
 · rintro⟨a,b,c⟩;exact⟨a,b,by omega,by omega⟩
 · rintro⟨a,b,c,d⟩
   refine⟨a,b,?_⟩
   obtain⟨u,hu⟩:=Nat.dvd_of_mod_eq_zero hq
   have:p.n / 2^q.k=u:=by
    rw[Nat.div_eq_iff h0]
    rw[hu]at c d
    constructor
    · rw[Nat.mul_comm];omega
    · rw[Nat.mul_comm];omega
   have h3:=Nat.div_add_mod p.n (2^q.k)
   rw[this]at h3
   omega
def Np.low (p:Np):Np:=⟨p.v,p.n,p.k-1⟩
def Np.high (p:Np):Np:=⟨p.v,p.n+2^(p.k-1),p.k-1⟩
theorem qbeg {k:Nat}(h:0<k):2^k=2^(k-1)+2^(k-1):=by
 obtain⟨j,rfl⟩:∃j,k=j+1:=⟨k-1,by omega⟩
 rw[Nat.pow_succ];simp;omega
theorem Np.low_ok {p:Np}(hp:p.ok)(hk:0<p.k):p.low.ok:=by
 unfold Np.ok Np.low at*
 simp only
 have:2^(p.k-1) ∣ 2^p.k:=qbaq (by omega)
 exact Nat.mod_eq_zero_of_dvd (Nat.dvd_trans this (Nat.dvd_of_mod_eq_zero hp))
theorem Np.high_ok {p:Np}(hp:p.ok)(hk:0<p.k):p.high.ok:=by
 have h1:=Np.low_ok hp hk
 unfold Np.ok Np.high Np.low at*
 simp only at*
 rw[Nat.add_mod_right];exact h1
theorem Np.low_sub {p:Np}(hp:p.ok)(hk:0<p.k):p.low.sub p:=by
 refine(Np.sub_range (Np.low_ok hp hk) hp).2 ⟨rfl,Nat.sub_le _ _,Nat.le_refl _,?_⟩
 have:=Nat.two_pow_pos p.k
 show p.n<_
 omega
theorem Np.high_sub {p:Np}(hp:p.ok)(hk:0<p.k):p.high.sub p:=by
 refine(Np.sub_range (Np.high_ok hp hk) hp).2 ⟨rfl,Nat.sub_le _ _,Nat.le_add_right _ _,?_⟩
 have:=qbeg hk
 have h0:=Nat.two_pow_pos (p.k-1)
 show p.n+2^(p.k-1)<_
 omega
theorem Np.not_both {p q:Np}(hp:p.ok)(hq:q.ok)(hp0:0<p.k)(h1:q.sub p.low)(h2:q.sub p.high):False:=by
 obtain⟨_,_,c,d⟩:=(Np.sub_range hq (Np.low_ok hp hp0)).1 h1
 obtain⟨_,_,c',d'⟩:=(Np.sub_range hq (Np.high_ok hp hp0)).1 h2
 simp only[Np.low,Np.high]at*
 omega
theorem Np.both {p q:Np}(hp:p.ok)(hq:q.ok)(hp0:0<p.k)(h1:p.low.sub q)(h2:p.high.sub q):p.sub q:=by
 have e:=qbeg hp0
 have hle:p.k-1<=q.k:=h1.2.1
 rcases Nat.lt_or_ge q.k p.k with hk|hk
 · exfalso
   have hqk:q.k=p.k-1:=by have:=h1.2.1;simp only[Np.low]at this;omega
   obtain⟨_,_,c,d⟩:=(Np.sub_range (Np.low_ok hp hp0) hq).1 h1
   obtain⟨_,_,c',d'⟩:=(Np.sub_range (Np.high_ok hp hp0) hq).1 h2
   simp only[Np.low,Np.high]at*
   rw[hqk]at d d'
   omega
 · exact Np.nest (Np.low_sub hp hp0) h1 hk
structure Pq where
 v:Bool
 hi:Int
 lo:Int
 bits:Int
def Pq.good (p:Pq):Prop:=qdi p.v p.hi p.lo p.bits=true/\uok p.hi/\uok p.lo
def Pq.np (p:Pq):Np:=⟨p.v,numP p.hi p.lo,kOf p.v p.bits⟩
def Pq.av (p:Pq):AV:=mkP p.v p.hi p.lo p.bits
def pqY (y:AV):Pq:=⟨gB y.cells 0,gI y.cells 1,gI y.cells 2,gI y.cells 3⟩
def winP (p q:Pq):Bool:=qnm p.v p.hi p.lo p.bits q.v q.hi q.lo q.bits
def ovP (p q:Pq):Bool:=winP p q||winP q p
theorem Pq.good.np_ok {p:Pq}(h:p.good):p.np.ok:=((qt8 h.2.1 h.2.2).1 h.1).2.2.2
theorem Pq.good.range {p:Pq}(h:p.good):0<=p.bits/\p.bits<=qi p.v/\(p.np.k:Int)=qi p.v-p.bits/\p.np.k<=128:=by
 obtain⟨h1,h2,_⟩:=qdt h.1
 have:=qha p.v
 refine⟨h1,h2,?_,?_⟩
 · show((kOf p.v p.bits:Nat):Int)=_
   unfold kOf;omega
 · show kOf p.v p.bits<=128
   unfold kOf;omega
theorem qqj {p q:Pq}(hp:p.good)(hq:q.good):winP p q=true↔p.np.sub q.np:=by
 unfold winP qnm Np.sub
 rw[hp.1]
 simp only[Bool.true_and,Bool.and_eq_true,decide_eq_true_eq]
 rw[qbre hq.2.1 hq.2.2 hp.2.1 hp.2.2]
 obtain⟨a1,a2,a3,_⟩:=hp.range
 obtain⟨b1,b2,b3,_⟩:=hq.range
 have ha:=(qdt hp.1).2.2
 constructor
 · rintro⟨h1,h2,h3,h4,h5⟩
   refine⟨h4.symm,?_,h5.symm⟩
   rw[h4]at b3;omega
 · rintro⟨h1,h2,h3⟩
   refine⟨?_,hq.1,ha,h1.symm,h3.symm⟩
   have h1':p.v=q.v:=h1
   rw[h1']at a3;omega
def Pq.low (p:Pq):Pq:=⟨p.v,p.hi,p.lo,p.bits+1⟩
def Pq.high (p:Pq):Pq:=⟨p.v,qbh .or .u64 p.hi (bitP p.v p.bits).1,qbh .or .u64 p.lo (bitP p.v p.bits).2,p.bits+1⟩
def Pq.half (p:Pq):Bool:=ql0 p.v p.hi p.lo p.bits
theorem Pq.half_iff {p:Pq}(hp:p.good):p.half=true↔0<p.np.k:=by
 obtain⟨a1,a2,a3,_⟩:=hp.range
 unfold Pq.half ql0
 rw[hp.1]
 simp only[Bool.true_and,decide_eq_true_eq]
 omega
theorem Pq.low_np {p:Pq}(hp:p.good)(h:p.half=true):p.low.np=p.np.low:=by
 obtain⟨a1,a2,a3,_⟩:=hp.range
 have hk:=(Pq.half_iff hp).1 h
 have:kOf p.v (p.bits+1)=kOf p.v p.bits-1:=by unfold kOf;omega
 unfold Pq.np Pq.low Np.low
 simp only[this]
theorem Pq.high_np {p:Pq}(hp:p.good)(h:p.half=true):p.high.np=p.np.high:=by
 obtain⟨a1,a2,a3,_⟩:=hp.range
 have hk:=(Pq.half_iff hp).1 h
 have:kOf p.v (p.bits+1)=kOf p.v p.bits-1:=by unfold kOf;omega
 unfold Pq.np Pq.high Np.high
 simp only
 rw[qbtb h hp.2.1 hp.2.2,this]
theorem qbgx {v:Bool}{hi lo:Int}(u1:uok hi)(u2:uok lo):qel v hi lo=true↔(v=true\/numP hi lo<2^32):=by
 unfold qel numP
 obtain⟨a1,a2⟩:=u1
 obtain⟨b1,b2⟩:=u2
 cases v with
 |true=>simp
 |false=>
  have e:(2:Nat)^32=4294967296:=by decide
  rw[e]
  simp only[Bool.false_or,Bool.and_eq_true,beq_iff_eq,decide_eq_true_eq,Bool.false_eq_true,false_or]
  omega
theorem Pq.low_good {p:Pq}(hp:p.good)(h:p.half=true):p.low.good:=by
 have hk:=(Pq.half_iff hp).1 h
 obtain⟨a1,a2,a3,_⟩:=hp.range
 refine⟨(qt8 hp.2.1 hp.2.2).2 ⟨(qdt hp.1).2.2,by show 0<=p.bits+1;omega,by show p.bits+1<=qi p.v;omega,?_⟩,hp.2⟩
 have:=Np.low_ok hp.np_ok hk
 rw[<-Pq.low_np hp h]at this
 exact this
theorem Pq.high_good {p:Pq}(hp:p.good)(h:p.half=true):p.high.good:=by
 have hk:=(Pq.half_iff hp).1 h
 obtain⟨a1,a2,a3,a4⟩:=hp.range
 have u1:uok p.high.hi:=qbrb _ _
 have u2:uok p.high.lo:=qbrb _ _
 have hn:=Pq.high_np hp h
 refine⟨(qt8 u1 u2).2 ⟨(qbgx u1 u2).2 ?_,by show 0<=p.bits+1;omega,by show p.bits+1<=qi p.v;omega,?_⟩,u1,u2⟩
 · rcases(qbgx hp.2.1 hp.2.2).1 (qdt hp.1).2.2 with h1|h1
   · exact .inl h1
   · cases hv:p.v with
     |true=>exact .inl hv
     |false=>
      right
      have e:numP p.high.hi p.high.lo=p.np.n+2^(p.np.k-1):=congrArg Np.n hn
      rw[e]
      have hk32:p.np.k<=32:=by rw[hv]at a3;simp[qi]at a3;omega
      have hpo:=hp.np_ok
      have hlt:p.np.n<2^32:=h1
      obtain⟨u,hu⟩:=Nat.dvd_of_mod_eq_zero hpo
      obtain⟨c,hc⟩:=qbaq hk32
      have hlt2:u<c:=by
       rw[hu,hc]at hlt
       exact Nat.lt_of_mul_lt_mul_left hlt
      have:2^p.np.k*(u+1)<=2^p.np.k*c:=Nat.mul_le_mul_left _ hlt2
      rw[Nat.mul_add,<-hu,<-hc,qbeg hk]at this
      have h0:=Nat.two_pow_pos (p.np.k-1)
      omega
 · have:=Np.high_ok hp.np_ok hk
   rw[<-hn]at this
   exact this
def qfb (l:LA):Nat->Pq->List Pq
 |0,_=>[]
 |n+1,p=>bif l.any (fun b=>winP p (pqY b))then[]else bif !(l.any fun b=>ovP (pqY b) p)then[p]else bif p.half then qfb l n p.low++qfb l n p.high else[]
def qjv (l:LA):Prop:=∀y,y∈l->(pqY y).good
theorem q98 {p q b:Pq}(hp:p.good)(hq:q.good)(hb:b.good)(h:q.np.sub p.np)(ho:ovP b q=true):ovP b p=true:=by
 unfold ovP at*
 rw[Bool.or_eq_true,qqj hb hq,qqj hq hb]at ho
 rw[Bool.or_eq_true,qqj hb hp,qqj hp hb]
 rcases ho with ho|ho
 · exact .inl (Np.sub_trans ho h)
 · rcases Nat.lt_or_ge b.np.k p.np.k with hk|hk
   · exact .inl (Np.nest ho h (by omega))
   · exact .inr (Np.nest h ho hk)
theorem q1q {l l':LA}(hl:qjv l)(hl':qjv l'){c:Pq}(hc:c.good)
 (hW:∀q:Pq,q.good->q.np.sub c.np->(l.any fun b=>winP q (pqY b))=l'.any fun b=>winP q (pqY b)) (hO:∀q:Pq,q.good->q.np.sub c.np->(l.any fun b=>ovP (pqY b) q)=l'.any fun b=>ovP (pqY b) q):
 ∀(n:Nat) (p:Pq),p.good->p.np.sub c.np->qfb l n p=qfb l' n p
 |0,p,_,_=>rfl
 |n+1,p,hp,hs=>by
  unfold qfb
  rw[hW p hp hs,hO p hp hs]
  cases hh:p.half with
  |false=>rfl
  |true=>
   have hk:=(Pq.half_iff hp).1 hh
   have h1:p.low.np.sub p.np:=by rw[Pq.low_np hp hh];exact Np.low_sub hp.np_ok hk
   have h2:p.high.np.sub p.np:=by rw[Pq.high_np hp hh];exact Np.high_sub hp.np_ok hk
   rw[q1q hl hl' hc hW hO n p.low (Pq.low_good hp hh) (Np.sub_trans h1 hs),q1q hl hl' hc hW hO n p.high (Pq.high_good hp hh) (Np.sub_trans h2 hs)]
theorem q99 {l:LA}(hl:qjv l){c:Pq}(hc:c.good)(n:Nat)(p:Pq)(hp:p.good)(hs:p.np.sub c.np):qfb (l.filter fun b=>ovP (pqY b) c) n p=qfb l n p:=by
 refine q1q (fun y hy=>hl y ((List.mem_filter.1 hy).1)) hl hc (fun q hq hqc=> ?_) (fun q hq hqc=> ?_) n p hp hs
 · rw[Bool.eq_iff_iff,List.any_eq_true,List.any_eq_true]
   constructor
   · rintro⟨b,hb,h⟩;exact⟨b,(List.mem_filter.1 hb).1,h⟩
   · rintro⟨b,hb,h⟩
     refine⟨b,List.mem_filter.2 ⟨hb,q98 hc hq (hl b hb) hqc ?_⟩,h⟩
     unfold ovP;rw[h,Bool.or_true]
 · rw[Bool.eq_iff_iff,List.any_eq_true,List.any_eq_true]
   constructor
   · rintro⟨b,hb,h⟩;exact⟨b,(List.mem_filter.1 hb).1,h⟩
   · rintro⟨b,hb,h⟩
     exact⟨b,List.mem_filter.2 ⟨hb,q98 hc hq (hl b hb) hqc h⟩,h⟩
theorem qbjs {α:Type}{A B C:α->Bool}:∀(l:List α),(∀b,b∈l->A b=true->C b=true)->(∀b,b∈l->B b=true->C b=true)->(∀b,b∈l->A b=true->B b=true->False)->(l.filter A).length+(l.filter B).length<=(l.filter C).length
 |[],_,_,_=>by simp
 |b::r,h1,h2,h3=>by
  have ih:=qbjs r (fun x hx=>h1 x (List.mem_cons_of_mem _ hx)) (fun x hx=>h2 x (List.mem_cons_of_mem _ hx)) (fun x hx=>h3 x (List.mem_cons_of_mem _ hx))
  have k1:=h1 b List.mem_cons_self
  have k2:=h2 b List.mem_cons_self
  have k3:=h3 b List.mem_cons_self
  rw[List.filter_cons,List.filter_cons,List.filter_cons]
  cases hA:A b<;>cases hB:B b
  · cases C b<;>simp<;>omega
  · rw[k2 hB];simp;omega
  · rw[k1 hA];simp;omega
  · exact(k3 hA hB).elim
theorem qbaa {l:LA}(hl:qjv l):∀(n:Nat) (p:Pq),p.good->(qfb l n p).length<=(l.filter fun b=>ovP (pqY b) p).length*n+1
 |0,p,_=>by simp[qfb]
 |n+1,p,hp=>by
  unfold qfb
  cases hW:l.any fun b=>winP p (pqY b)with
  |true=>simp
  |false=>
   cases hO:l.any fun b=>ovP (pqY b) p with
   |false=>simp
   |true=>
    cases hh:p.half with
    |false=>simp
    |true=>
     have hk:=(Pq.half_iff hp).1 hh
     have hlg:=Pq.low_good hp hh
     have hhg:=Pq.high_good hp hh
     have h1:p.low.np.sub p.np:=by rw[Pq.low_np hp hh];exact Np.low_sub hp.np_ok hk
     have h2:p.high.np.sub p.np:=by rw[Pq.high_np hp hh];exact Np.high_sub hp.np_ok hk
     have i1:=qbaa hl n p.low hlg
     have i2:=qbaa hl n p.high hhg
     have hc:=qbjs (A:=fun b=>ovP (pqY b) p.low) (B:=fun b=>ovP (pqY b) p.high) (C:=fun b=>ovP (pqY b) p) l (fun b hb h=>q98 hp hlg (hl b hb) h1 h) (fun b hb h=>q98 hp hhg (hl b hb) h2 h) (fun b hb ha hb'=>by
      have hbg:=hl b hb
      have hnw:winP p (pqY b)=false:=by
       rw[List.any_eq_false]at hW
       simpa using hW b hb
      have hns:¬p.np.sub (pqY b).np:=fun h=>by rw[(qqj hp hbg).2 h]at hnw;cases hnw
      unfold ovP at ha hb'
      rw[Bool.or_eq_true,qqj hbg hlg,qqj hlg hbg,Pq.low_np hp hh]at ha
      rw[Bool.or_eq_true,qqj hbg hhg,qqj hhg hbg,Pq.high_np hp hh]at hb'
      have hlo:=Np.low_ok hp.np_ok hk
      have hho:=Np.high_ok hp.np_ok hk
      rcases ha with ha|ha<;>rcases hb' with hb'|hb'
      · exact Np.not_both hp.np_ok hbg.np_ok hk ha hb'
      · exact Np.not_both hp.np_ok hho hk (Np.sub_trans hb' ha) (Np.sub_refl hho)
      · exact Np.not_both hp.np_ok hlo hk (Np.sub_refl hlo) (Np.sub_trans ha hb')
      · exact hns (Np.both hp.np_ok hbg.np_ok hk ha hb'))
     have hpos:0<(l.filter fun b=>ovP (pqY b) p).length:=by
      obtain⟨b,hb,h⟩:=List.any_eq_true.1 hO
      exact List.length_pos_of_mem (List.mem_filter.2 ⟨hb,h⟩)
     simp only[Bool.not_true,cond_f,cond_t,List.length_append]
     generalize (l.filter fun b=>ovP (pqY b) p).length=c at*
     generalize (l.filter fun b=>ovP (pqY b) p.low).length=c1 at*
     generalize (l.filter fun b=>ovP (pqY b) p.high).length=c2 at*
     have e1:(c1+c2)*n<=c*n:=Nat.mul_le_mul_right _ hc
     rw[Nat.add_mul]at e1
     rw[Nat.mul_add]
     omega
theorem qbmt {l:LA}(hl:qjv l)(hn:l.length<=1000){n:Nat}(hn2:n<=200){p:Pq}(hp:p.good):(qfb l n p).length<=200001:=by
 have h1:=qbaa hl n p hp
 have h2:(l.filter fun b=>ovP (pqY b) p).length<=1000:=Nat.le_trans (List.length_filter_le _ _) hn
 have h3:(l.filter fun b=>ovP (pqY b) p).length*n<=1000*200:=Nat.mul_le_mul h2 hn2
 omega
theorem qbpl (v6:Bool)(hi lo bits:Int)(w6:Bool)(whi wlo wbits:Int):quk v6 hi lo bits w6 whi wlo wbits=some (ovP ⟨v6,hi,lo,bits⟩ ⟨w6,whi,wlo,wbits⟩):=by
 rw[qbba];unfold qmc ovP winP
 simp only[q94,oB_s]
 cases qnm v6 hi lo bits w6 whi wlo wbits<;>simp
theorem qbvd {R:Type}{a:LA}(x:AV)(h:(a.length+1)*32<=140737488355328)(k:Option R):(bif decide ((a.length+([x]:List AV).length)*32<=140737488355328)then k else none)=k:=by
 rw[show([x]:List AV).length=1 from rfl,decide_eq_true h];rfl
theorem qbrn (rec:List AV->List AV->Bool->Int->Int->Int->Option (List AV))(l:LA)(hl:qbv l)(hn:l.length<=1000)(a:LA)(p:Pq)(kx:List AV->Option (List AV)):
 qls rec l (l.length:Int) a p.v p.hi p.lo p.bits kx FU 0 []=bif l.any (fun b=>winP p (pqY b))then some a else kx (l.filter fun b=>ovP (pqY b) p):=by
 rw[qw3]
 have key:=qem (σ:=List AV) l hl.1 (fun n i s=>qme rec l (l.length:Int) a p.v p.hi p.lo p.bits kx n i s) (fun i s nx=>qg7 rec l (l.length:Int) i a p.v p.hi p.lo p.bits s nx kx) (fun _ _ _=>rfl)
  (fun i s=>s.length<=i) (fun r s=>bif r.any (fun b=>winP p (pqY b))then some a else kx (s++r.filter fun b=>ovP (pqY b) p)) ?_ ?_ [] FU (by simp) (qek (by have:=hl.1;omega))
 · exact key
 · intro s nx _;simp[qg7]
 · intro i y r s nx g1 g2 g3 g4 h2 h5
   have hy:=hl.2 y (List.mem_of_getElem? g2)
   have h6:(i:Int)<(l.length:Int):=by omega
   have hyy:=qsc hy.1
   unfold mkB at hyy
   have n1:=h5 (s++[y]) (by simp;omega)
   have n2:=h5 s (by omega)
   unfold qg7
   simp only[h6,decide_true,cond_t,ixB_nat,g2,oB_s,hy.1,g4,q94,qbpl,hyy,hd_self]
   rw[qbrj y (a:=s) (by omega),n1,n2,List.any_cons,List.filter_cons]
   rw[show qnm p.v p.hi p.lo p.bits (gB y.cells 0) (gI y.cells 1) (gI y.cells 2) (gI y.cells 3)=winP p (pqY y)from rfl]
   rw[show ovP ⟨gB y.cells 0,gI y.cells 1,gI y.cells 2,gI y.cells 3⟩ ⟨p.v,p.hi,p.lo,p.bits⟩=ovP (pqY y) p from rfl]
   cases winP p (pqY y)<;>cases ovP (pqY y) p<;>simp
theorem qbtd {α:Type}(l:List α)(q:α->Bool):(((l.filter q).length:Int)==0)= !(l.any q):=by
 rw[Bool.eq_iff_iff]
 simp only[beq_iff_eq,Bool.not_eq_true',List.any_eq_false]
 constructor
 · intro h x hx
   have:l.filter q=[]:=List.eq_nil_of_length_eq_zero (by omega)
   simpa using List.filter_eq_nil_iff.1 this x hx
 · intro h
   have:l.filter q=[]:=List.filter_eq_nil_iff.2 h
   rw[this];rfl
theorem qbmu:∀(n:Nat) (p:Pq),p.good->p.np.k+1=n->∀(m:Nat),n<=m->∀(a l:LA),qbv l->qjv l->l.length<=1000->a.length+(qfb l n p).length<=1000000000->
 qdr m a l p.v p.hi p.lo p.bits=some (a++(qfb l n p).map Pq.av)
 |0,p,hp,hk,_,_,_,_,_,_,_,_=>by omega
 |n+1,p,hp,hk,m,hm,a,l,hl,hg,hn,hsz=>by
  obtain⟨m,rfl⟩:∃j,m=j+1:=⟨m-1,by omega⟩
  show qrg (qdr m) a l p.v p.hi p.lo p.bits=_
  unfold qrg
  simp only[hd_self,qzo,List.length_nil,Bool.and_self,cond_t]
  rw[qbrn _ l hl hn,qbtd]
  unfold qfb at hsz⊢
  cases hW:l.any fun b=>winP p (pqY b)with
  |true=>simp
  |false=>
   simp only[hW,cond_f]at hsz⊢
   cases hO:l.any fun b=>ovP (pqY b) p with
   |false=>
    have hsz':a.length+1<=1000000000:=by simpa[hO]using hsz
    simp only[hO,Bool.not_false,cond_t,hd_self]
    rw[qbvd _ (by omega)]
    rfl
   |true=>
    simp only[hO,Bool.not_true,cond_f]at hsz⊢
    rw[qbjr p.v p.hi p.lo p.bits hp.2.1 hp.2.2]
    simp only[oB_s]
    unfold q3m
    cases hh:ql0 p.v p.hi p.lo p.bits with
    |false=>
     have hh':p.half=false:=hh
     simp only[hh',cond_f,Bool.not_false,cond_t]
     simp
    |true=>
     have hh':p.half=true:=hh
     have hkk:=(Pq.half_iff hp).1 hh'
     have hlg:=Pq.low_good hp hh'
     have hhg:=Pq.high_good hp hh'
     have h1:p.low.np.sub p.np:=by rw[Pq.low_np hp hh'];exact Np.low_sub hp.np_ok hkk
     have h2:p.high.np.sub p.np:=by rw[Pq.high_np hp hh'];exact Np.high_sub hp.np_ok hkk
     have k1:p.low.np.k+1=n:=by rw[Pq.low_np hp hh'];show p.np.k-1+1=n;omega
     have k2:p.high.np.k+1=n:=by rw[Pq.high_np hp hh'];show p.np.k-1+1=n;omega
     have f1:=q99 hg hp n p.low hlg h1
     have f2:=q99 hg hp n p.high hhg h2
     have hf:qbv (l.filter fun b=>ovP (pqY b) p):=⟨Nat.le_trans (List.length_filter_le _ _) hl.1,fun y hy=>hl.2 y (List.mem_filter.1 hy).1⟩
     have hfg:qjv (l.filter fun b=>ovP (pqY b) p):=fun y hy=>hg y (List.mem_filter.1 hy).1
     have hfn:(l.filter fun b=>ovP (pqY b) p).length<=1000:=Nat.le_trans (List.length_filter_le _ _) hn
     simp only[hh',cond_t,List.length_append]at hsz⊢
     have r1:=qbmu n p.low hlg k1 m (by omega) a _ hf hfg hfn (by rw[f1];omega)
     have r2:=qbmu n p.high hhg k2 m (by omega) (a++(qfb l n p.low).map Pq.av) _ hf hfg hfn (by rw[f2];simp only[List.length_append,List.length_map];omega)
     rw[f1]at r1
     rw[f2]at r2
     simp only[Bool.not_true,cond_f,hd_self,cond_t,Bool.and_self]
     rw[show qdr m a (l.filter fun b=>ovP (pqY b) p) (gB (lowP p.v p.hi p.lo p.bits).cells 0) (gI (lowP p.v p.hi p.lo p.bits).cells 1) (gI (lowP p.v p.hi p.lo p.bits).cells 2) (gI (lowP p.v p.hi p.lo p.bits).cells 3)=some (a++(qfb l n p.low).map Pq.av)from r1]
     simp only[oB_s,hd_self,cond_t]
     rw[show qdr m (a++(qfb l n p.low).map Pq.av) (l.filter fun b=>ovP (pqY b) p) (gB (q5s p.v p.hi p.lo p.bits).cells 0) (gI (q5s p.v p.hi p.lo p.bits).cells 1) (gI (q5s p.v p.hi p.lo p.bits).cells 2) (gI (q5s p.v p.hi p.lo p.bits).cells 3)=some (a++(qfb l n p.low).map Pq.av++(qfb l n p.high).map Pq.av)from r2]
     simp
theorem qbpm {l:LA}(hl:qbv l)(ht:qf6 l):qjv l:=fun y hy=>by
 obtain⟨j,hj⟩:=List.getElem?_of_mem hy
 exact⟨(ht j y hj).p,(hl.2 y hy).2.1,(hl.2 y hy).2.2.1⟩
def qry (l:LA)(p:Pq):List AV:=l.filter fun y=>q5p (gB y.cells 0) (gI y.cells 1) (gI y.cells 2) (gI y.cells 3) p.v p.hi p.lo p.bits
def qbpn (l:LA)(p:Pq):List AV:=
 bif(match l.find? (atP p.v p.hi p.lo p.bits)with|some y=>gI y.cells 4==1|none=>false)then(qfb (qry l p) (p.np.k+1) p).map Pq.av else[]
theorem qbab {l:LA}(hg:qjv l){p:Pq}{y:AV}(hy:l.find? (atP p.v p.hi p.lo p.bits)=some y):p.good/\pqY y=p:=by
 have h1:=List.find?_some hy
 obtain⟨a,b,c,d⟩:=qvb.1 h1
 have e:pqY y=p:=by unfold pqY;rw[a,b,c,d]
 have:=hg y (List.mem_of_find?_eq_some hy)
 rw[e]at this
 exact⟨this,e⟩
theorem qbxk {n:Nat}(h:n<=1000):n<=FU:=by rw[qbt3];omega
theorem qbro (y:AV):gI (blkV y).cells 4=gI y.cells 4:=rfl
theorem qbwp (l:LA)(hl:qbv l)(hg:qjv l)(hn:l.length<=1000)(p:Pq):qvh l p.v p.hi p.lo p.bits=some (qbpn l p):=by
 rw[qbhk];unfold qrh qbpn
 rw[qboi l hl]
 simp only[oB_s]
 unfold q5m
 cases hf:l.find? (atP p.v p.hi p.lo p.bits)with
 |none=>rfl
 |some y=>
  obtain⟨hp,_⟩:=qbab hg hf
  simp only[qbro,Bool.not_true,Bool.false_or]
  cases hk:gI y.cells 4==1 with
  |false=>
   have:(gI y.cells 4 != 1)=true:=by unfold bne;rw[hk];rfl
   rw[this];rfl
  |true=>
   have:(gI y.cells 4 != 1)=false:=by unfold bne;rw[hk];rfl
   rw[this]
   simp only[cond_f,qzo,List.length_nil,Bool.and_self,cond_t]
   have lp:∀kx:List AV->Option (List AV),qta l (l.length:Int) p.v p.hi p.lo p.bits kx FU 0 []=kx (qry l p):=by
    intro kx
    rw[q73]
    have key:=qem (σ:=List AV) l hl.1 (fun n i s=>qik l (l.length:Int) p.v p.hi p.lo p.bits kx n i s) (fun i s nx=>qij l (l.length:Int) i p.v p.hi p.lo p.bits s nx kx) (fun _ _ _=>rfl)
     (fun i s=>s.length<=i) (fun r s=>kx (s++qry r p)) ?_ ?_ [] FU (by simp) (qek (by have:=hl.1;omega))
    · exact key
    · intro s nx _;simp[qij,qry]
    · intro i y r s nx g1 g2 g3 g4 h2 h5
      have hy:=hl.2 y (List.mem_of_getElem? g2)
      have h6:(i:Int)<(l.length:Int):=by omega
      have hyy:=qsc hy.1
      unfold mkB at hyy
      have n1:=h5 (s++[y]) (by simp;omega)
      have n2:=h5 s (by omega)
      unfold qij
      simp only[h6,decide_true,cond_t,ixB_nat,g2,oB_s,hy.1,g4,qbmn,hyy,hd_self]
      rw[qbrj y (a:=s) (by omega),n1,n2]
      unfold qry
      rw[List.filter_cons]
      cases q5p (gB y.cells 0) (gI y.cells 1) (gI y.cells 2) (gI y.cells 3) p.v p.hi p.lo p.bits<;>simp
   rw[lp]
   simp only[hd_self,cond_t]
   have hf2:qbv (qry l p):=⟨Nat.le_trans (List.length_filter_le _ _) hl.1,fun y hy=>hl.2 y (List.mem_filter.1 hy).1⟩
   have hfg:qjv (qry l p):=fun y hy=>hg y (List.mem_filter.1 hy).1
   have hfn:(qry l p).length<=1000:=Nat.le_trans (List.length_filter_le _ _) hn
   have hk2:=hp.range.2.2.2
   have:=qbmu (p.np.k+1) p hp rfl FU (qbxk (by omega)) [] (qry l p) hf2 hfg hfn (by have:=qbmt hfg hfn (n:=p.np.k+1) (by omega) hp;simp;omega)
   rw[q13,this]
   simp
theorem qbgy {l:LA}:qf6 l↔(∀y,y∈l->qrw y=true/\mayB y=true)/\l.Pairwise fun x y=>ltY x y/\qdn y x=false:=by
 constructor
 · intro h
   refine⟨fun y hy=> ?_,List.pairwise_iff_getElem.2 fun i j hi hj hij=> ?_⟩
   · obtain⟨j,hj⟩:=List.getElem?_of_mem hy
     exact⟨(h j y hj).p,(h j y hj).may⟩
   · have h1:l[i]?=some l[i]:=by simp
     have h2:l[j]?=some l[j]:=by simp
     exact⟨h.sorted i _ h1 j _ hij h2,(h j _ h2).bar i _ hij h1⟩
 · rintro⟨h1,h2⟩ j y hy
   rw[List.pairwise_iff_getElem]at h2
   obtain⟨hj,rfl⟩:=List.getElem?_eq_some_iff.1 hy
   refine⟨(h1 _ (List.getElem_mem hj)).1,(h1 _ (List.getElem_mem hj)).2,fun i z hji hz=> ?_,fun k z hk hz=> ?_⟩
   · obtain⟨hi,rfl⟩:=List.getElem?_eq_some_iff.1 hz
     exact(h2 i j hi hj (by omega)).1
   · obtain⟨hi,rfl⟩:=List.getElem?_eq_some_iff.1 hz
     exact(h2 k j hi hj hk).2
theorem qf6.rem {l:LA}(ht:qf6 l)(v:Bool)(hi lo bits:Int):qf6 (remF l v hi lo bits):=by
 rw[qbgy]at ht⊢
 exact⟨fun y hy=>ht.1 y (List.mem_filter.1 hy).1,ht.2.filter _⟩
theorem qbte {l:LA}(hl:qbv l)(v:Bool)(hi lo bits:Int):qbv (remF l v hi lo bits):=⟨Nat.le_trans (List.length_filter_le _ _) hl.1,fun y hy=>hl.2 y (List.mem_filter.1 hy).1⟩
theorem qbpo {l:LA}(hl:qbv l){v:Bool}{hi lo bits:Int}{y:AV}(h:l.find? (atP v hi lo bits)=some y):q5m l v hi lo bits=(y,true):=by
 unfold q5m;rw[h];simp only
 rw[qbri (hl.2 y (List.mem_of_find?_eq_some h)).1]
theorem qbpp {l:LA}{v:Bool}{hi lo bits:Int}(h:l.find? (atP v hi lo bits)=none):q5m l v hi lo bits=(blk0,false):=by
 unfold q5m;rw[h]
theorem pick {l:LA}{n:Int}(hn:0<=n/\n<=255)(h0:0<l.length)(hl:l.length<=1000):
 ∃y,ixB l ((IntKind.i64.wrap n).tmod (l.length:Int))=some y/\y∈l:=by
 obtain⟨m,rfl⟩:=Int.eq_ofNat_of_zero_le hn.1
 rw[w64 (by omega) (by omega),<-Int.ofNat_tmod,ixB_nat]
 have hlt:=Nat.mod_lt m h0
 refine⟨l[m%l.length],?_,List.getElem_mem _⟩
 simp[hlt]
def atY (b y:AV):Bool:=atP (gB b.cells 0) (gI b.cells 1) (gI b.cells 2) (gI b.cells 3) y
theorem qbve {b y:AV}:atY b y=true↔pqY y=pqY b:=by
 unfold atY;rw[qvb];unfold pqY
 constructor
 · rintro⟨h1,h2,h3,h4⟩;rw[h1,h2,h3,h4]
 · intro h;injection h with h1 h2 h3 h4;exact⟨h1,h2,h3,h4⟩
theorem qbwq {y b:AV}(h:ltY y b):¬cmpY y b>0:=by
 have:=(qwg y b).2.2.2 h
 omega
theorem qbie {y b:AV}(h:ltY b y):cmpY y b>0:=(qwg y b).1.2 ((qwg b y).2.2.2 h)
theorem qbpq {q:AV->Bool}{l:LA}(h:∀z,z∈l->q z=true):l.filter q=l:=List.filter_eq_self.2 h
theorem qbon {y:AV}:∀{l:LA},l.Pairwise ltY->y∈l->insF y (l.filter fun z=> !atY y z)=l
 |[],_,h=>by simp at h
 |x::r,hp,hm=>by
  rw[List.pairwise_cons]at hp
  have hyy:atY y y=true:=qbve.2 rfl
  have nat:∀a b:AV,ltY a b->atY b a=false/\atY a b=false:=fun a b hab=>by
   constructor
   · cases hq:atY b a with
     |false=>rfl
     |true=>
      have:=qbie hab
      have h0:=q5o.1 (qbee.2 (qvb.1 hq))
      have h1:=(qwg a b).2.2.2 hab
      omega
   · cases hq:atY a b with
     |false=>rfl
     |true=>
      have h0:=q5o.1 (qbee.2 (qvb.1 hq))
      have:=qbie hab
      omega
  rcases List.mem_cons.1 hm with rfl|hm'
  · have e:(r.filter fun z=> !atY y z)=r:=qbpq fun z hz=>by rw[(nat y z (hp.1 z hz)).2];rfl
    rw[List.filter_cons,hyy]
    simp only[Bool.not_true,Bool.false_eq_true,if_false,e]
    cases r with
    |nil=>rfl
    |cons z r=>rw[qbjp];simp only[qbie (hp.1 z (by simp)),decide_true,cond_t]
  · have hxy:=hp.1 y hm'
    rw[List.filter_cons,(nat x y hxy).1]
    simp only[Bool.not_false,if_true]
    rw[qbjp]
    simp only[qbwq hxy,decide_false,cond_f]
    rw[qbon hp.2 hm']
theorem qbvf {l:LA}(ht:qf6 l):l.Pairwise ltY:=(qbgy.1 ht).2.imp fun h=>h.1
theorem qbtf {l:LA}(ht:qf6 l){y:AV}(hy:y∈l):(remF l (pqY y).v (pqY y).hi (pqY y).lo (pqY y).bits).length+1=l.length:=by
 have:=congrArg List.length (qbon (qbvf ht) hy)
 rw[qbmp]at this
 exact this
theorem qbmv {p:Pq}(hp:p.good)(h:p.half=true):p.low.np.sub p.np/\p.high.np.sub p.np/\p.low.np.k+1=p.np.k/\p.high.np.k+1=p.np.k:=by
 have hk:=(Pq.half_iff hp).1 h
 rw[Pq.low_np hp h,Pq.high_np hp h]
 refine⟨Np.low_sub hp.np_ok hk,Np.high_sub hp.np_ok hk,?_,?_⟩
 · show p.np.k-1+1=p.np.k;omega
 · show p.np.k-1+1=p.np.k;omega
theorem qbnt {l:LA}(hl:qbv l)(ht:qf6 l){v:Bool}{hi lo bits:Int}(h:(qe8 l v hi lo bits).2=0):
 qbv (qe8 l v hi lo bits).1/\qf6 (qe8 l v hi lo bits).1/\(qe8 l v hi lo bits).1.length+1=l.length:=by
 unfold qe8 at*
 cases h1:l.any (atP v hi lo bits)with
 |false=>rw[h1]at h;cases h
 |true=>
 cases h2:occF l v hi lo bits with
 |true=>rw[h1,h2]at h;cases h
 |false=>
 simp only[Bool.not_true,cond_f]
 obtain⟨y,hy,ha⟩:=List.any_eq_true.1 h1
 obtain⟨a,b,c,d⟩:=qvb.1 ha
 have:=qbtf ht hy
 unfold pqY at this
 simp only[a,b,c,d]at this
 exact⟨qbte hl v hi lo bits,ht.rem v hi lo bits,this⟩
theorem q5u {C:LA}(hC:qjv C):∀(n:Nat) (p:Pq),p.good->∀q,q∈qfb C n p->q.good/\q.np.sub p.np/\∀c,c∈C->ovP (pqY c) q=false
 |0,p,hp,q,hq=>by simp[qfb]at hq
 |n+1,p,hp,q,hq=>by
  unfold qfb at hq
  cases hW:C.any fun b=>winP p (pqY b)with
  |true=>simp[hW]at hq
  |false=>
   cases hO:C.any fun b=>ovP (pqY b) p with
   |false=>
    simp[hW,hO]at hq
    subst hq
    exact⟨hp,Np.sub_refl hp.np_ok,fun c hc=>by have:=List.any_eq_false.1 hO c hc;simpa using this⟩
   |true=>
    cases hh:p.half with
    |false=>simp[hW,hO,hh]at hq
    |true=>
     rw[hW,hO,hh]at hq
     simp only[cond_f,Bool.not_true,cond_t,List.mem_append]at hq
     obtain⟨s1,s2,_,_⟩:=qbmv hp hh
     rcases hq with hq|hq
     · obtain⟨a,b,c⟩:=q5u hC n p.low (Pq.low_good hp hh) q hq
       exact⟨a,Np.sub_trans b s1,c⟩
     · obtain⟨a,b,c⟩:=q5u hC n p.high (Pq.high_good hp hh) q hq
       exact⟨a,Np.sub_trans b s2,c⟩
theorem qbmw (q:Pq):fitC qe q.av.cells=true:=rfl
theorem av_w (q:Pq):gB q.av.cells 0=q.v/\gI q.av.cells 1=q.hi/\gI q.av.cells 2=q.lo/\gI q.av.cells 3=q.bits:=⟨rfl,rfl,rfl,rfl⟩
def betQ (better:Int->Int->Bool)(b:Option Pq)(x:Pq):Bool:=match b with
 |none=>true
 |some q=>better x.bits q.bits
def qji (better:Int->Int->Bool)(bits:Int):Option Pq->List Pq->Option Pq
 |b,[]=>b
 |b,x::r=>qji better bits (bif decide (x.bits<=bits)&&betQ better b x then some x else b) r
theorem qvu (better:Int->Int->Bool)(bits:Int)(b:Option Pq)(x:Pq)(r:List Pq):qji better bits b (x::r)=qji better bits (bif decide (x.bits<=bits)&&betQ better b x then some x else b) r:=rfl
def pq0:Pq:=⟨false,0,0,0⟩
def outQ:Option Pq->AV×Bool
 |some q=>(q.av,true)
 |none=>(qrx,false)
theorem qbac {better:Int->Int->Bool}{bits:Int}{q:Pq}:∀{F:List Pq} {b:Option Pq},qji better bits b F=some q->(b=some q\/(q∈F/\q.bits<=bits))
 |[],b,h=>.inl h
 |x::r,b,h=>by
  rw[qvu]at h
  rcases qbac h with h1|⟨h1,h2⟩
  · cases hc:decide (x.bits<=bits)&&betQ better b x with
    |true=>
     rw[hc]at h1
     simp only[cond_t]at h1
     cases h1
     rw[Bool.and_eq_true,decide_eq_true_eq]at hc
     exact .inr ⟨by simp,hc.1⟩
    |false=>rw[hc]at h1;exact .inl h1
  · exact .inr ⟨List.mem_cons_of_mem _ h1,h2⟩
theorem qzk (F:List Pq)(hF:F.length<=1000000000)(bits:Int):qe3 (F.map Pq.av) bits=some (outQ (qji (fun _ _=>false) bits none F)):=by
 rw[qp1];unfold qdb
 rw[qnx]
 have hlen:(F.map Pq.av).length=F.length:=List.length_map _
 have key:=qem (σ:=Bool×Pq) F (by omega) (fun n i s=>qb8 bits (F.map Pq.av) ((F.map Pq.av).length:Int) false 0 0 0 (fun v b0 b1 b2 b3=>some ((.agg [(.bool b0),(.int .u64 b1),(.int .u64 b2),(.int .i64 b3)]),v)) n s.1 i s.2.v s.2.hi s.2.lo s.2.bits)
  (fun i s nx=>qb7 bits s.1 (F.map Pq.av) ((F.map Pq.av).length:Int) i false 0 0 0 s.2.v s.2.hi s.2.lo s.2.bits (fun e i v hi lo b=>nx i (e,⟨v,hi,lo,b⟩)) (fun v b0 b1 b2 b3=>some ((.agg [(.bool b0),(.int .u64 b1),(.int .u64 b2),(.int .i64 b3)]),v))) (fun _ _ _=>rfl)
  (fun _ s=>s.1=false->s.2=pq0) (fun r s=>some (outQ (qji (fun _ _=>false) bits (bif s.1 then some s.2 else none) r))) ?_ ?_ (false,pq0) FU (fun _=>rfl) (qek (by omega))
 · exact key
 · rintro⟨e,q⟩ nx h
   rw[<-hlen]
   unfold qb7
   simp only[Int.lt_irrefl,decide_false,cond_f]
   cases e with
   |false=>rw[show q=pq0 from h rfl];rfl
   |true=>rfl
 · rintro i x r ⟨e,q⟩ nx g1 g2 g3 g4 h h5
   have ga:(F.map Pq.av)[i]?=some x.av:=by rw[List.getElem?_map,g2];rfl
   have h6:(i:Int)<((F.map Pq.av).length:Int):=by omega
   obtain⟨w0,w1,w2,w3⟩:=av_w x
   unfold qb7
   simp only[h6,decide_true,cond_t,ixB_nat,ga,oB_s,qbmw,w0,w1,w2,w3,g4]
   rw[qnd];unfold qco
   rw[q3y];unfold qjm
   rw[qvu]
   cases hb:decide (x.bits<=bits)with
   |false=>simp only[cond_f,Bool.false_and];exact h5 (e,q) h
   |true=>
    cases e with
    |false=>simp only[Bool.not_false,cond_t,cond_f,Bool.true_and,betQ];exact h5 (true,x) (fun h=>by cases h)
    |true=>
     simp only[Bool.not_true,cond_t,cond_f,Bool.true_and,betQ,oB_s]
     exact h5 (true,q) (fun h=>by cases h)
theorem qzl (F:List Pq)(hF:F.length<=1000000000)(bits:Int):qe2 (F.map Pq.av) bits=some (outQ (qji (fun a b=>decide (a>b)) bits none F)):=by
 rw[qp0];unfold qda
 rw[qnv]
 have hlen:(F.map Pq.av).length=F.length:=List.length_map _
 have key:=qem (σ:=Bool×Pq) F (by omega) (fun n i s=>qb6 bits (F.map Pq.av) ((F.map Pq.av).length:Int) false 0 0 0 (fun v b0 b1 b2 b3=>some ((.agg [(.bool b0),(.int .u64 b1),(.int .u64 b2),(.int .i64 b3)]),v)) n s.1 i s.2.v s.2.hi s.2.lo s.2.bits)
  (fun i s nx=>qb5 bits s.1 (F.map Pq.av) ((F.map Pq.av).length:Int) i false 0 0 0 s.2.v s.2.hi s.2.lo s.2.bits (fun e i v hi lo b=>nx i (e,⟨v,hi,lo,b⟩)) (fun v b0 b1 b2 b3=>some ((.agg [(.bool b0),(.int .u64 b1),(.int .u64 b2),(.int .i64 b3)]),v))) (fun _ _ _=>rfl)
  (fun _ s=>s.1=false->s.2=pq0) (fun r s=>some (outQ (qji (fun a b=>decide (a>b)) bits (bif s.1 then some s.2 else none) r))) ?_ ?_ (false,pq0) FU (fun _=>rfl) (qek (by omega))
 · exact key
 · rintro⟨e,q⟩ nx h
   rw[<-hlen]
   unfold qb5
   simp only[Int.lt_irrefl,decide_false,cond_f]
   cases e with
   |false=>rw[show q=pq0 from h rfl];rfl
   |true=>rfl
 · rintro i x r ⟨e,q⟩ nx g1 g2 g3 g4 h h5
   have ga:(F.map Pq.av)[i]?=some x.av:=by rw[List.getElem?_map,g2];rfl
   have h6:(i:Int)<((F.map Pq.av).length:Int):=by omega
   obtain⟨w0,w1,w2,w3⟩:=av_w x
   unfold qb5
   simp only[h6,decide_true,cond_t,ixB_nat,ga,oB_s,qbmw,w0,w1,w2,w3,g4]
   rw[qnb];unfold qcn
   rw[q3x];unfold qjl
   rw[qvu]
   cases hb:decide (x.bits<=bits)with
   |false=>simp only[cond_f,Bool.false_and];exact h5 (e,q) h
   |true=>
    cases e with
    |false=>simp only[Bool.not_false,cond_t,cond_f,Bool.true_and,betQ];exact h5 (true,x) (fun h=>by cases h)
    |true=>
     simp only[Bool.not_true,cond_t,cond_f,Bool.true_and,betQ,oB_s]
     by_cases hc:x.bits>q.bits
     · simp only[hc,decide_true,cond_t];exact h5 (true,x) (fun h=>by cases h)
     · simp only[hc,decide_false,cond_f];exact h5 (true,q) (fun h=>by cases h)
theorem qzm (F:List Pq)(hF:F.length<=1000000000)(bits:Int):qe1 (F.map Pq.av) bits=some (outQ (qji (fun a b=>decide (a<b)) bits none F)):=by
 rw[qpz];unfold qc9
 rw[qnt]
 have hlen:(F.map Pq.av).length=F.length:=List.length_map _
 have key:=qem (σ:=Bool×Pq) F (by omega) (fun n i s=>qb4 bits (F.map Pq.av) ((F.map Pq.av).length:Int) false 0 0 0 (fun v b0 b1 b2 b3=>some ((.agg [(.bool b0),(.int .u64 b1),(.int .u64 b2),(.int .i64 b3)]),v)) n s.1 i s.2.v s.2.hi s.2.lo s.2.bits)
  (fun i s nx=>qb3 bits s.1 (F.map Pq.av) ((F.map Pq.av).length:Int) i false 0 0 0 s.2.v s.2.hi s.2.lo s.2.bits (fun e i v hi lo b=>nx i (e,⟨v,hi,lo,b⟩)) (fun v b0 b1 b2 b3=>some ((.agg [(.bool b0),(.int .u64 b1),(.int .u64 b2),(.int .i64 b3)]),v))) (fun _ _ _=>rfl)
  (fun _ s=>s.1=false->s.2=pq0) (fun r s=>some (outQ (qji (fun a b=>decide (a<b)) bits (bif s.1 then some s.2 else none) r))) ?_ ?_ (false,pq0) FU (fun _=>rfl) (qek (by omega))
 · exact key
 · rintro⟨e,q⟩ nx h
   rw[<-hlen]
   unfold qb3
   simp only[Int.lt_irrefl,decide_false,cond_f]
   cases e with
   |false=>rw[show q=pq0 from h rfl];rfl
   |true=>rfl
 · rintro i x r ⟨e,q⟩ nx g1 g2 g3 g4 h h5
   have ga:(F.map Pq.av)[i]?=some x.av:=by rw[List.getElem?_map,g2];rfl
   have h6:(i:Int)<((F.map Pq.av).length:Int):=by omega
   obtain⟨w0,w1,w2,w3⟩:=av_w x
   unfold qb3
   simp only[h6,decide_true,cond_t,ixB_nat,ga,oB_s,qbmw,w0,w1,w2,w3,g4]
   rw[qm9];unfold qcm
   rw[q3w];unfold qjk
   rw[qvu]
   cases hb:decide (x.bits<=bits)with
   |false=>simp only[cond_f,Bool.false_and];exact h5 (e,q) h
   |true=>
    cases e with
    |false=>simp only[Bool.not_false,cond_t,cond_f,Bool.true_and,betQ];exact h5 (true,x) (fun h=>by cases h)
    |true=>
     simp only[Bool.not_true,cond_t,cond_f,Bool.true_and,betQ,oB_s]
     by_cases hc:x.bits<q.bits
     · simp only[hc,decide_true,cond_t];exact h5 (true,x) (fun h=>by cases h)
     · simp only[hc,decide_false,cond_f];exact h5 (true,q) (fun h=>by cases h)
def frQ (l:LA)(p:Pq):List Pq:=qfb (qry l p) (p.np.k+1) p
def qbeh (policy:Int)(a b:Int):Bool:=bif policy==1 then false else bif policy==2 then decide (a>b)else decide (a<b)
def qkz (policy bits:Int)(q:Pq):Pq:=bif(policy==3&&decide (q.bits<bits))then q.high else q
def q3n (p:Pq)(bits policy:Int):Bool:=decide (bits<p.bits)||((decide (bits>qi p.v)||decide (policy<1))||decide (policy>3))
def qbk1 (l:LA)(p:Pq)(bits policy:Int):AV×Int:=match qji (qbeh policy) bits none (frQ l p)with
 |none=>(qrx,22)
 |some q=>(mkP (qkz policy bits q).v (qkz policy bits q).hi (qkz policy bits q).lo bits,0)
def qd3 (l:LA)(p:Pq)(bits policy:Int):AV×Int:=match l.find? (atP p.v p.hi p.lo p.bits)with
 |none=>(qrx,11)
 |some y=>bif gI y.cells 4 != 1 then(qrx,21)else bif q3n p bits policy then(qrx,1)else qbk1 l p bits policy
theorem q04 {l:LA}(hg:qjv l)(p:Pq):qjv (qry l p):=fun y hy=>hg y (List.mem_filter.1 hy).1
theorem qbwr {l:LA}(hg:qjv l){p:Pq}(hp:p.good){q:Pq}(hq:q∈frQ l p):q.good/\q.np.sub p.np:=by
 obtain⟨a,b,_⟩:=q5u (q04 hg p) _ p hp q hq
 exact⟨a,b⟩
theorem qbvg {l:LA}(hg:qjv l)(hn:l.length<=1000){p:Pq}(hp:p.good):(frQ l p).length<=200001:=
 qbmt (q04 hg p) (Nat.le_trans (List.length_filter_le _ _) hn) (by have:=hp.range.2.2.2;omega) hp
theorem qbvh {s:Pq}(hs:s.good){n:Int}(h1:s.bits<=n)(h2:n<=qi s.v):qq9 s.v s.hi s.lo s.bits n=true:=by
 unfold qq9
 rw[hs.1];simp[h1,h2]
theorem qbif {q:Pq}(hq:q.good){n:Int}(h1:q.bits<n)(h2:n<=qi q.v):q.half=true:=by
 refine(Pq.half_iff hq).2 ?_
 obtain⟨_,_,a3,_⟩:=hq.range
 omega
theorem qbgz {q:Pq}(hq:q.good){policy bits:Int}(h1:q.bits<=bits)(h2:bits<=qi q.v):(qkz policy bits q).good/\(qkz policy bits q).bits<=bits/\(qkz policy bits q).v=q.v:=by
 unfold qkz
 cases hc:(policy==3&&decide (q.bits<bits))with
 |false=>exact⟨hq,h1,rfl⟩
 |true=>
  rw[Bool.and_eq_true,decide_eq_true_eq]at hc
  exact⟨Pq.high_good hq (qbif hq hc.2 h2),by show q.bits+1<=bits;omega,rfl⟩
noncomputable def qbpr (policy bits:Int)(x:AV):Option (AV×Int):=(bif((policy==(3:Int))&&(decide ((gI x.cells 3)<bits)))then(oB (qif (gB x.cells 0) (gI x.cells 1) (gI x.cells 2) (gI x.cells 3)) fun r16=>(oB (qdv (gB r16.2.1.cells 0) (gI r16.2.1.cells 1) (gI r16.2.1.cells 2) (gI r16.2.1.cells 3) bits (0:Int)) fun r17=>(some ((.agg [(.bool (gB r17.1.cells 0)),(.int .u64 (gI r17.1.cells 1)),(.int .u64 (gI r17.1.cells 2)),(.int .i64 (gI r17.1.cells 3))]),(0:Int)))))else(oB (qdv (gB x.cells 0) (gI x.cells 1) (gI x.cells 2) (gI x.cells 3) bits (0:Int)) fun r18=>(some ((.agg [(.bool (gB r18.1.cells 0)),(.int .u64 (gI r18.1.cells 1)),(.int .u64 (gI r18.1.cells 2)),(.int .i64 (gI r18.1.cells 3))]),(0:Int)))))
theorem qbvi {q:Pq}(hq:q.good){policy bits:Int}(h1:q.bits<=bits)(h2:bits<=qi q.v):qbpr policy bits q.av=some (mkP (qkz policy bits q).v (qkz policy bits q).hi (qkz policy bits q).lo bits,0):=by
 unfold qbpr
 obtain⟨w0,w1,w2,w3⟩:=av_w q
 rw[w0,w1,w2,w3]
 obtain⟨sg,sb,sv⟩:=qbgz (policy:=policy) hq h1 h2
 have sp:=qbvh sg sb (by rw[sv];exact h2)
 unfold qkz at*
 by_cases hp3:policy=3
 · by_cases hlt:q.bits<bits
   · have hh:=qbif hq hlt h2
     have c:(policy==3&&decide (q.bits<bits))=true:=by simp[hp3,hlt]
     rw[c]at sg sp⊢
     simp only[cond_t]at sg sp⊢
     rw[qbjr _ _ _ _ hq.2.1 hq.2.2]
     have hv:q3m q.v q.hi q.lo q.bits=(q.low.av,q.high.av,true):=by
      unfold q3m
      rw[show ql0 q.v q.hi q.lo q.bits=true from hh];rfl
     rw[hv]
     simp only[oB_s]
     obtain⟨z0,z1,z2,z3⟩:=av_w q.high
     rw[z0,z1,z2,z3,q5r sg.2.1 sg.2.2,sp]
     rfl
   · have c:(policy==3&&decide (q.bits<bits))=false:=by simp[hlt]
     rw[c]at sg sp⊢
     simp only[cond_f]at sg sp⊢
     rw[q5r hq.2.1 hq.2.2,sp];rfl
 · have c:(policy==3&&decide (q.bits<bits))=false:=by simp[hp3]
   rw[c]at sg sp⊢
   simp only[cond_f]at sg sp⊢
   rw[q5r hq.2.1 hq.2.2,sp];rfl
theorem qbtg (l:LA)(hl:qbv l)(hg:qjv l)(hn:l.length<=1000)(p:Pq)(bits policy:Int):qtb l p.v p.hi p.lo p.bits bits policy=some (qd3 l p bits policy):=by
 rw[q74];unfold qk9 qd3
 rw[qboi l hl,oB_s]
 cases hf:l.find? (atP p.v p.hi p.lo p.bits)with
 |none=>rw[qbpp hf];rfl
 |some y=>
  rw[qbpo hl hf]
  obtain⟨hp,_⟩:=qbab hg hf
  simp only[Bool.not_true,cond_f]
  cases hk:gI y.cells 4 != 1 with
  |true=>rfl
  |false=>
   simp only[cond_f]
   have hlen:qs7 p.v p.hi p.lo p.bits=some (qi p.v):=by
    rw[q7x];unfold qk8 qi
    cases p.v<;>rfl
   rw[hlen]
   simp only[oB_s]
   cases hb:q3n p bits policy with
   |true=>
    unfold q3n at hb
    by_cases h1:bits<p.bits
    · simp only[h1,decide_true,cond_t];rfl
    · simp only[h1,decide_false,cond_f,Bool.false_or]at hb⊢
      rw[hb];rfl
   |false=>
    unfold q3n at hb
    by_cases h1:bits<p.bits
    · simp[h1]at hb
    · simp only[h1,decide_false,cond_f,Bool.false_or]at hb⊢
      rw[hb]
      simp only[cond_f]
      simp only[Bool.or_eq_false_iff,decide_eq_false_iff_not]at hb
      obtain⟨⟨h2,h3⟩,h4⟩:=hb
      have hF:=qbvg hg hn hp
      have e1:qvh l p.v p.hi p.lo p.bits=some ((frQ l p).map Pq.av):=by
       rw[qbwp l hl hg hn p]
       unfold qbpn
       rw[hf]
       have:(gI y.cells 4==1)=true:=by simpa using hk
       simp only[this,cond_t];rfl
      rw[e1]
      simp only[oB_s]
      have fin:∀b:Int->Int->Bool,qbeh policy=b->(bif(!(outQ (qji b bits none (frQ l p))).2)then(some (qrx,(22:Int)))else qbpr policy bits (outQ (qji b bits none (frQ l p))).1)=some (qbk1 l p bits policy):=by
       intro b hb
       unfold qbk1
       rw[hb]
       cases hq:qji b bits none (frQ l p)with
       |none=>rfl
       |some q=>
        rcases qbac hq with h|⟨h,h'⟩
        · cases h
        · obtain⟨qg,qs⟩:=qbwr hg hp h
          have hv:q.v=p.v:=qs.1
          simp only[outQ,Bool.not_true,cond_f]
          exact qbvi qg h' (by rw[hv];omega)
      have hpol:policy=1\/policy=2\/policy=3:=by omega
      rcases hpol with rfl|rfl|rfl
      · refine Eq.trans ?_ (fin (fun _ _=>false) (by funext a b;rfl))
        rw[qzk _ (by omega)];rfl
      · refine Eq.trans ?_ (fin (fun a b=>decide (a>b)) (by funext a b;rfl))
        rw[qzl _ (by omega)];rfl
      · refine Eq.trans ?_ (fin (fun a b=>decide (a<b)) (by funext a b;rfl))
        rw[qzm _ (by omega)];rfl
structure Chosen (l:LA)(p q:Pq)(bits:Int):Prop where
 good:q.good
 bits:q.bits=bits
 sub:q.np.sub p.np
 pg:p.good
 free:∀d,d∈qry l p->ovP (pqY d) q=false
theorem qbmx {l:LA}(hg:qjv l)(p:Pq)(bits policy:Int):(∃e,qd3 l p bits policy=(qrx,e)/\e≠0)\/∃q,qd3 l p bits policy=(q.av,0)/\Chosen l p q bits:=by
 unfold qd3
 cases hf:l.find? (atP p.v p.hi p.lo p.bits)with
 |none=>exact .inl ⟨11,rfl,by decide⟩
 |some y=>
  obtain⟨hp,_⟩:=qbab hg hf
  simp only
  cases hk:gI y.cells 4 != 1 with
  |true=>exact .inl ⟨21,rfl,by decide⟩
  |false=>
   simp only[cond_f]
   cases hb:q3n p bits policy with
   |true=>exact .inl ⟨1,rfl,by decide⟩
   |false=>
    simp only[cond_f]
    unfold q3n at hb
    simp only[Bool.or_eq_false_iff,decide_eq_false_iff_not]at hb
    obtain⟨h1,⟨h2,h3⟩,h4⟩:=hb
    unfold qbk1
    cases hq:qji (qbeh policy) bits none (frQ l p)with
    |none=>exact .inl ⟨22,rfl,by decide⟩
    |some q=>
     rcases qbac hq with h|⟨h,h'⟩
     · cases h
     · obtain⟨qg,qs,qf⟩:=q5u (q04 hg p) _ p hp q h
       have hv:q.v=p.v:=qs.1
       obtain⟨sg,sb,sv⟩:=qbgz (policy:=policy) qg h' (by rw[hv];omega)
       have ss:(qkz policy bits q).np.sub q.np:=by
        unfold qkz
        cases hc:(policy==3&&decide (q.bits<bits))with
        |false=>exact Np.sub_refl qg.np_ok
        |true=>
         rw[Bool.and_eq_true,decide_eq_true_eq]at hc
         exact(qbmv qg (qbif qg hc.2 (by rw[hv];omega))).2.1
       simp only
       generalize qkz policy bits q=s at*
       obtain⟨b1,b2,b3,b4⟩:=sg.range
       have hkk:kOf s.v bits<=s.np.k:=by
        show kOf s.v bits<=kOf s.v s.bits
        unfold kOf;omega
       have gq:(⟨s.v,s.hi,s.lo,bits⟩:Pq).good:=by
        refine⟨(qt8 sg.2.1 sg.2.2).2 ⟨(qdt sg.1).2.2,by show 0<=bits;omega,by show bits<=qi s.v;rw[sv,hv];omega,?_⟩,sg.2⟩
        exact Nat.mod_eq_zero_of_dvd (Nat.dvd_trans (qbaq hkk) (Nat.dvd_of_mod_eq_zero sg.np_ok))
       have gs:(⟨s.v,s.hi,s.lo,bits⟩:Pq).np.sub s.np:=⟨rfl,hkk,by
        have:=sg.np_ok
        unfold Np.ok at this
        show s.np.n-s.np.n%2^s.np.k=s.np.n
        rw[this];rfl⟩
       refine .inr ⟨⟨s.v,s.hi,s.lo,bits⟩,rfl,gq,rfl,Np.sub_trans gs (Np.sub_trans ss qs),hp,fun d hd=> ?_⟩
       cases ho:ovP (pqY d) ⟨s.v,s.hi,s.lo,bits⟩with
       |false=>rfl
       |true=>
        have:=q98 qg gq (q04 hg p d hd) (Np.sub_trans gs ss) ho
        rw[qf d hd]at this;cases this
def q3o (l:LA)(p:Pq)(bits policy:Int)(nm ow:LU):List AV×AV×Int:=
 bif(qd3 l p bits policy).2 != 0 then([],qrx,(qd3 l p bits policy).2)else
 bif(addF l (mkB (gB (qd3 l p bits policy).1.cells 0) (gI (qd3 l p bits policy).1.cells 1) (gI (qd3 l p bits policy).1.cells 2) (gI (qd3 l p bits policy).1.cells 3) 2 nm ow 0)).2 != 0 then([],qrx,(addF l (mkB (gB (qd3 l p bits policy).1.cells 0) (gI (qd3 l p bits policy).1.cells 1) (gI (qd3 l p bits policy).1.cells 2) (gI (qd3 l p bits policy).1.cells 3) 2 nm ow 0)).2)
 else((addF l (mkB (gB (qd3 l p bits policy).1.cells 0) (gI (qd3 l p bits policy).1.cells 1) (gI (qd3 l p bits policy).1.cells 2) (gI (qd3 l p bits policy).1.cells 3) 2 nm ow 0)).1,(qd3 l p bits policy).1,0)
theorem qbvj {q:Pq}(hq:q.good){nm ow:LU}(h1:nm.length<=9223372036854775807)(h2:ow.length<=9223372036854775807):qt7 (mkB q.v q.hi q.lo q.bits 2 nm ow 0):=
 ⟨rfl,hq.2.1,hq.2.2,by show nm.length<=_;omega,by show ow.length<=_;omega⟩
theorem qbps (l:LA)(hl:qbv l)(ht:qf6 l)(hn:l.length<=1000)(p:Pq)(bits policy:Int)(nm ow:LU)(h1:nm.length<=9223372036854775807)(h2:ow.length<=9223372036854775807):
 qla l p.v p.hi p.lo p.bits bits policy nm ow=some (q3o l p bits policy nm ow):=by
 have hg:=qbpm hl ht
 rw[q3z];unfold qjn q3o
 rw[qbtg l hl hg hn]
 simp only[oB_s]
 rcases qbmx hg p bits policy with⟨e,he,hne⟩|⟨q,hq,hc⟩
 · rw[he]
   have:(e != 0)=true:=by simpa using hne
   simp only[this,cond_t];rfl
 · rw[hq]
   obtain⟨w0,w1,w2,w3⟩:=av_w q
   simp only[bne_self_eq_false,cond_f,w0,w1,w2,w3]
   rw[qbt9 l hl (by omega) ht q.v q.hi q.lo q.bits 2 nm ow 0 (qbvj hc.good h1 h2)]
   simp only[oB_s]
   cases(addF l (mkB q.v q.hi q.lo q.bits 2 nm ow 0)).2 != 0<;>rfl
def labC (c:UInt8):Bool:=(decide (97<=c.toNat)&&decide (c.toNat<=122))||(decide (48<=c.toNat)&&decide (c.toNat<=57))||c.toNat==45||c.toNat==95
def q05 (x:LU):Bool:=x==[42]||(decide (1<=x.length)&&decide (x.length<=63)&&x.all labC)
theorem qbrp (x:LU)(hx:x.length<=9223372036854775807):qr7 x=some (q05 x):=by
 rw[q69]
 unfold qkm
 rw[qz1,qja x hx (qew x fun _=>some true) (fun i nx=>qev x i nx fun _=>some true) (fun _ _=>rfl) (fun r=>some (r.all labC))]
 · unfold q05
   by_cases h1:x=[42]
   · simp[h1]
   · have e1:(x==[42])=false:=by simpa using h1
     rw[e1]
     by_cases h2:x.length<1
     · have:x.length=0:=by omega
       simp[this]
     · by_cases h3:63<x.length
       · have e:¬x.length<=63:=by omega
         have e':(63:Int)<(x.length:Int):=by omega
         simp[e,e']
       · have a1:¬((x.length:Int)<1):=by omega
         have a2:¬((63:Int)<(x.length:Int)):=by omega
         have a3:1<=x.length:=by omega
         have a4:x.length<=63:=by omega
         simp[a1,a2,a3,a4]
 · intro nx;simp[qev]
 · intro i a r nx h1 h2 h3 h4 h5
   have h6:(i:Int)<(x.length:Int):=by omega
   have key:∀kn:Bool->Option Bool,qmr x i (a.toNat:Int) kn=kn (!labC a):=by
    intro kn
    have co:∀(p a b:Bool),(bif p then kn a else kn b)=kn (bif p then a else b):=by intro p;cases p<;>intros<;>rfl
    rw[qz0]
    unfold qhi labC
    simp only[co]
    have fin:∀n:Fin 256,(bif(decide ((n.val:Int)>=(97:Int)))&&(decide ((n.val:Int)<=(122:Int)))then false else(bif(decide ((n.val:Int)>=(48:Int)))then(!(((decide ((n.val:Int)<=(57:Int)))||((n.val:Int)==(45:Int)))||((n.val:Int)==(95:Int))))else(!(((n.val:Int)==(45:Int))||((n.val:Int)==(95:Int))))))=
     !((decide (97<=n.val)&&decide (n.val<=122))||(decide (48<=n.val)&&decide (n.val<=57))||n.val==45||n.val==95):=by decide+kernel
    exact congrArg kn (fin ⟨a.toNat,a.toNat_lt⟩)
   unfold qev
   simp only[h6,decide_true,cond_t,ixB_nat,h2,oB_s,key,h4]
   cases h7:labC a
   · simp[h7]
   · simp only[Bool.not_true,cond_t,cond_f,h5,List.all_cons,h7,Bool.true_and]
def spl:List UInt8->List UInt8->List (List UInt8)
 |_,[]=>[]
 |cur,c::r=>if c=46 then cur::spl [] r else spl (cur++[c]) r
def ql1 (x:LU):Bool:=decide (2<=x.length)&&decide (x.length<=254)&&x.getLast? ==some 46
def ql2:Bool->List (List UInt8)->Bool
 |_,[]=>true
 |f,l::ls=>q05 l&&(f|| !(l==[42]))&&ql2 false ls
def qh2 (x:LU):List (List UInt8)×Bool:=
 if x=[46]then([],true)else if ql1 x=true/\ql2 true (spl [] x)=true then(spl [] x,true)else([],false)
def qbc (x:LU):Bool:=(qh2 x).2
def avS (l:List (List UInt8)):List AV:=l.map AV.str
theorem qbig:∀(r cur:LU),(spl cur r).length<=r.length
 |[],_=>by simp[spl]
 |c::r,cur=>by
  unfold spl;split
  · have:=qbig r [];simp;omega
  · have:=qbig r (cur++[c]);simp;omega
theorem qbth (x:LU)(hx:x.length<=254)(kx:List AV->Option (List AV×Bool)):
 qpd x kx FU 0 0 []=if ql2 true (spl [] x)=true then kx (avS (spl [] x))else some ([],false):=by
 rw[q2o]
 let S:(Int×Int×List AV)->Option (List AV×Bool):=fun s=>
  if ql2 (decide (s.1=0)) (spl ((x.take s.2.1.toNat).drop s.1.toNat) (x.drop s.2.1.toNat))=true then kx (s.2.2++avS (spl ((x.take s.2.1.toNat).drop s.1.toNat) (x.drop s.2.1.toNat)))else some ([],false)
 have key:=qbao (fun n (s:Int×Int×List AV)=>qfw x kx n s.1 s.2.1 s.2.2) (fun s nx=>qfv x s.1 s.2.1 s.2.2 (fun a b c=>nx (a,b,c)) kx) (fun _ _=>rfl)
  (fun s=>0<=s.1/\s.1<=s.2.1/\s.2.1<=x.length/\s.2.2.length<=s.2.1) (fun s=>(x.length-s.2.1).toNat) S ?_ FU (0,0,[]) (by simp) (qek (by simp;omega))
 · have e:S (0,0,[])=if ql2 true (spl [] x)=true then kx (avS (spl [] x))else some ([],false):=by simp[S]
   rw[<-e];exact key
 · rintro⟨st,i,acc⟩ ⟨h0,h1,h2,h3⟩ nx hn
   simp only at h0 h1 h2 h3
   obtain⟨i,rfl⟩:∃j:Nat,i=j:=⟨i.toNat,by omega⟩
   obtain⟨st,rfl⟩:∃j:Nat,st=j:=⟨st.toNat,by omega⟩
   have hw:IntKind.i64.wrap ((i:Int)+1)=((i+1:Nat):Int):=w64 (by omega) (by omega)
   simp only[S,Int.toNat_natCast]
   by_cases hlt:i<x.length
   · have hd:x.drop i=x[i]::x.drop (i+1):=List.drop_eq_getElem_cons hlt
     have hi:x[i]?=some x[i]:=by simp[hlt]
     have ht:x.take (i+1)=x.take i++[x[i]]:=(List.take_append_getElem hlt).symm
     have hlt':(i:Int)<(x.length:Int):=by omega
     unfold qfv
     simp only[hlt',decide_true,cond_t,ixB_nat,hi,oB_s,hw]
     by_cases hc:x[i]=46
     · have hc':(((x[i]).toNat:Int) != 46)=false:=by rw[hc];rfl
       have hcut:cutI x (some (st:Int)) (some (i:Int))=some ((x.take i).drop st):=by
        simp only[cutI,Option.getD_some,Int.toNat_natCast]
        rw[if_pos ⟨by omega,by omega,by omega⟩]
       have hsl:((x.take i).drop st).length<=9223372036854775807:=by simp;omega
       simp only[hc',cond_f,hcut,oB_s,hd_self,Bool.and_true,cond_t,q2n,qi0,qbrp _ hsl]
       have hsz:(acc.length+1)*16<=140737488355328:=by omega
       have hnx:=hn (((i+1:Nat):Int),((i+1:Nat):Int),acc++[.str ((x.take i).drop st)]) ⟨by simp;omega,by simp,by simp;omega,by simp;omega⟩ (by simp;omega)
       simp only[S,Int.toNat_natCast]at hnx
       have hz:(x.take (i+1)).drop (i+1)=[]:=by simp
       rw[hz]at hnx
       have hne:decide (((i+1:Nat):Int)=0)=false:=by simp;omega
       rw[hne]at hnx
       rw[hd]
       simp only[spl,hc,if_true,ql2]
       cases hl:q05 ((x.take i).drop st)
       · simp
       · by_cases hstar:(x.take i).drop st=[42]
         · rw[hstar]at hnx⊢
           by_cases h00:st=0
           · have e1:decide ((st:Int)>0)=false:=by simp;omega
             have e2:decide ((st:Int)=0)=true:=by simp;omega
             simp only[e1,e2,Bool.not_true,cond_f,cond_t,beq_self_eq_true,List.length_singleton,hsz,decide_true,Bool.true_or,Bool.and_true,Bool.true_and]
             rw[hnx]
             simp[avS,List.append_assoc]
           · have e1:decide ((st:Int)>0)=true:=by simp;omega
             have e2:decide ((st:Int)=0)=false:=by simp;omega
             have e3:0<st:=by omega
             simp[e1,e2,e3,h00]
         · have e1:((x.take i).drop st==[42])=false:=by simpa using hstar
           simp only[e1,Bool.not_true,cond_f,cond_t,Bool.not_false,Bool.or_true,Bool.and_true,Bool.true_and,List.length_singleton,hsz,decide_true]
           rw[hnx]
           simp[avS,List.append_assoc]
     · have hc':(((x[i]).toNat:Int) != 46)=true:=by
        have:(x[i]).toNat≠46:=fun h=>hc (by rw[<-UInt8.toNat_inj];exact h)
        simp;omega
       simp only[hc',cond_t]
       have hnx:=hn ((st:Int),((i+1:Nat):Int),acc) ⟨by simp,by simp;omega,by simp;omega,by simp;omega⟩ (by simp;omega)
       simp only[S,Int.toNat_natCast]at hnx
       rw[hnx,hd]
       simp only[spl,hc,if_false]
       have e:(x.take (i+1)).drop st=(x.take i).drop st++[x[i]]:=by
        rw[ht,List.drop_append_of_le_length (by simp;omega)]
       rw[e]
   · have:i=x.length:=by omega
     subst this
     unfold qfv
     simp[spl,ql2,avS]
theorem qx1 (x:LU)(hx:x.length<=9223372036854775807):qe6 x=some (avS (qh2 x).1,(qh2 x).2):=by
 rw[qbb1]
 unfold qms qh2
 by_cases h1:x=[46]
 · simp[h1,avS]
 · have e1:(x==[46])=false:=by simpa using h1
   rw[if_neg h1]
   simp only[e1,cond_f,q2l,qiz,hd_self,Bool.and_true,cond_t]
   by_cases h2:2<=x.length/\x.length<=254
   · have a1:¬((x.length:Int)<2):=by omega
     have a2:¬((254:Int)<(x.length:Int)):=by omega
     have hw:IntKind.i64.wrap ((x.length:Int)-1)=((x.length-1:Nat):Int):=by rw[w64 (by omega) (by omega)];omega
     have hi:x[x.length-1]?=some (x[x.length-1]'(by omega)):=by simp<;>omega
     have hl:x.getLast? =some (x[x.length-1]'(by omega)):=by rw[List.getLast?_eq_getElem?,hi]
     simp only[a1,gt_iff_lt,a2,decide_false,Bool.or_false,cond_f,hw,ixB_nat,hi,oB_s]
     by_cases h3:x[x.length-1]'(by omega)=46
     · have h3':(((x[x.length-1]'(by omega)).toNat:Int) != 46)=false:=by rw[h3];rfl
       have hok:ql1 x=true:=by simp[ql1,h2.1,h2.2,hl,h3]
       simp only[h3',cond_f]
       rw[qbth x h2.2]
       by_cases h4:ql2 true (spl [] x)=true
       · simp[hok,h4]
       · simp[hok,h4,avS]
     · have h3':(((x[x.length-1]'(by omega)).toNat:Int) != 46)=true:=by
        have:(x[x.length-1]'(by omega)).toNat≠46:=fun h=>h3 (by rw[<-UInt8.toNat_inj];exact h)
        simp;omega
       have hok:ql1 x=false:=by simp[ql1,hl,h3]
       simp only[h3',cond_t]
       simp[hok,avS]
   · have hok:ql1 x=false:=by
      unfold ql1
      by_cases h:2<=x.length
      · have:¬x.length<=254:=fun h'=>h2 ⟨h,h'⟩
        simp[this]
      · simp[h]
     have a:(decide ((x.length:Int)<2)||decide ((x.length:Int)>254))=true:=by
      simp;omega
     simp only[a,cond_t]
     simp[hok,avS]
theorem qbjt (x:LU)(hx:x.length<=9223372036854775807):qqa x=some (qbc x):=by
 rw[qbb2]
 unfold qmt
 rw[qx1 x hx];rfl
def qd5:List UInt8->List UInt8->List (List UInt8)
 |cur,[]=>[cur]
 |cur,c::r=>if c=46 then cur::qd5 [] r else qd5 (cur++[c]) r
theorem qwi:∀(s cur:LU),(qd5 cur s).length=s.count 46+1
 |[],cur=>rfl
 |c::r,cur=>by
  unfold qd5
  split
  · rename_i h;subst h;simp[qwi r]
  · rename_i h
    rw[qwi r,List.count_cons_of_ne (fun e=>h e)]
theorem qbg0:∀(s cur:LU),s.count 46=0->qd5 cur s=[cur++s]
 |[],cur,_=>by simp[qd5]
 |c::r,cur,h=>by
  unfold qd5
  split
  · rename_i h';subst h';simp at h
  · rename_i h'
    rw[List.count_cons_of_ne (fun e=>h' e)]at h
    rw[qbg0 r _ h]
    simp
theorem qbg1:∀(s cur:LU),0<s.count 46->∃pre post,s=pre++46::post/\Lib.indexByte s 46=(pre.length:Int)/\qd5 cur s=(cur++pre)::qd5 [] post
 |[],cur,h=>by simp at h
 |c::r,cur,h=>by
  by_cases h':c=46
  · subst h'
    exact⟨[],r,rfl,by simp[Lib.indexByte],by simp[qd5]⟩
  · rw[List.count_cons_of_ne (fun e=>h' e)]at h
    obtain⟨pre,post,h1,h2,h3⟩:=qbg1 r (cur++[c]) h
    refine⟨c::pre,post,by simp[h1],?_,?_⟩
    · have hb:(c==46)=false:=by simpa using h'
      have hn:¬((Lib.indexByte r 46)= -1):=by omega
      unfold Lib.indexByte
      simp[hb,hn,h2]
    · show(if c=46 then cur::qd5 [] r else qd5 (cur++[c]) r)=_
      rw[if_neg h',h3]
      simp
theorem qbvk (s:LU):qri s [46]=some (Lib.indexByte s 46):=by
 rw[qbde];unfold qod
 rw[q31];unfold qjp
 rw[qyf];unfold qgs qxp
 by_cases h:([46]:List UInt8)=s
 · subst h;rfl
 · have hb:(([46]:List UInt8)==s)=false:=by simpa using h
   rw[hb]
   rfl
theorem qbvl (s:LU):qwt s [46]=some ((s.count 46:Nat):Int):=by
 rw[qbdf];unfold qoe qxo Lib.countByte
 rfl
theorem qbvm (pre post:LU):cutI (pre++46::post) none (some ((pre.length:Nat):Int))=some pre:=by
 unfold cutI
 simp only[Option.getD_none,Option.getD_some]
 rw[if_pos ⟨by omega,by omega,by simp;omega⟩]
 simp
theorem qbti (pre post:LU):cutI (pre++46::post) (some ((pre.length+1:Nat):Int)) none=some post:=by
 unfold cutI
 simp only[Option.getD_none,Option.getD_some]
 rw[if_pos ⟨by omega,by simp;omega,by omega⟩]
 rw[Int.toNat_natCast,Int.toNat_natCast,List.take_length]
 rw[List.drop_append]
 simp
theorem qboo (s:LU)(hs:s.length<=1000000000):qrj s [46]=some ((qd5 [] s).map AV.str):=by
 rw[qbdg];unfold qof
 rw[q6m];unfold qkb
 have hc:s.count 46<=s.length:=List.count_le_length
 have w1:IntKind.i64.wrap (((s.count 46:Nat):Int)+1)=((s.count 46+1:Nat):Int):=w64 (by omega) (by omega)
 have w2:IntKind.i64.wrap ((s.length:Int)+1)=((s.length+1:Nat):Int):=w64 (by omega) (by omega)
 have hm:(if((s.length+1:Nat):Int)<((s.count 46+1:Nat):Int)then((s.length+1:Nat):Int)else((s.count 46+1:Nat):Int))=((s.count 46+1:Nat):Int):=if_neg (by omega)
 have hd1:decide (0<=((s.count 46+1:Nat):Int)/\((s.count 46+1:Nat):Int)<=((s.count 46+1:Nat):Int)/\((s.count 46+1:Nat):Int)*16<=281474976710656)=true:=decide_eq_true ⟨by omega,by omega,by omega⟩
 have w3:IntKind.i64.wrap (((s.count 46+1:Nat):Int)-1)=((s.count 46:Nat):Int):=by rw[w64 (by omega) (by omega)];omega
 have b1:(((-1:Int))==0)=false:=rfl
 have b2:(([46]:List UInt8)==([]:List UInt8))=false:=rfl
 have b3:decide ((-1:Int)<0)=true:=rfl
 simp only[b1,b2,cond_f,qzt,qhg,b3,cond_t,qbvl,oB_s,w1,w2,hm,hd1,hd_self,Bool.and_true,w3,Int.toNat_natCast]
 generalize hn:s.count 46=n at*
 rw[qzu]
 let kx:List UInt8->Int->List AV->Option (List AV):=fun v0 v10 a0=>(bif decide (0<=v10/\v10<a0.length)then(oB (a0[v10.toNat]?) fun y1=>(oB (putE y1 0 1 [(.str v0)]) fun z2=>(bif hd (a0.set v10.toNat z2) a0.length then(oB (cutI (a0.set v10.toNat z2) none (some (IntKind.i64.wrap (v10+1)))) fun s3=>(some s3))else none)))else none)
 have key:=qbao (fun k (q:List UInt8×Int×List AV)=>qc3 [46] 0 (n:Int) kx k q.1 q.2.1 q.2.2)
  (fun q nx=>qes q.1 [46] 0 (n:Int) q.2.1 q.2.2 (fun a b c=>nx (a,(b,c))) kx) (fun _ _=>rfl)
  (fun q=>∃dn:List (List UInt8),q.2.1=dn.length/\q.2.2=dn.map AV.str++List.replicate (n+1-dn.length) (AV.str [])/\dn.length<=n/\q.1.count 46=n-dn.length/\dn++qd5 [] q.1=qd5 [] s/\q.1.length<=1000000000)
  (fun q=>n-q.2.1.toNat) (fun q=>some ((qd5 [] s).map AV.str)) ?_ FU (s,(0,List.replicate (n+1) (AV.str []))) ⟨[],rfl,by simp,by simp,by simpa using hn,rfl,hs⟩ (qek (by simp;omega))
 · have key':qc3 [46] 0 (n:Int) kx FU s 0 (List.replicate (n+1) (AV.str []))=some ((qd5 [] s).map AV.str):=key
   show oB (qc3 [46] 0 (n:Int) kx FU s 0 (List.replicate (n+1) (AV.str []))) _=_
   rw[key']
   rfl
 · rintro⟨v0,v10,a0⟩ ⟨dn,rfl,rfl,h1,h2,h3,h5⟩ nx hnx
   simp only at h1 h2 h3 h5
   show qes v0 [46] 0 (n:Int) (dn.length:Int) (dn.map AV.str++List.replicate (n+1-dn.length) (AV.str [])) (fun a b c=>nx (a,(b,c))) kx=some ((qd5 [] s).map AV.str)
   have hlen:(dn.map AV.str++List.replicate (n+1-dn.length) (AV.str [])).length=n+1:=by simp;omega
   have hget:(dn.map AV.str++List.replicate (n+1-dn.length) (AV.str []))[dn.length]?=some (.str []):=by
    rw[List.getElem?_append_right (by simp)]
    simp only[List.length_map,Nat.sub_self]
    rw[List.getElem?_replicate,if_pos (by omega)]
   have hdec:decide (0<=(dn.length:Int)/\(dn.length:Int)<((dn.map AV.str++List.replicate (n+1-dn.length) (AV.str [])).length:Int))=true:=decide_eq_true ⟨by omega,by rw[hlen];omega⟩
   have hset:∀x,(dn.map AV.str++List.replicate (n+1-dn.length) (AV.str [])).set dn.length (.str x)=(dn++[x]).map AV.str++List.replicate (n+1-(dn.length+1)) (AV.str []):=by
    intro x
    rw[List.set_append_right _ _ (by simp)]
    simp only[List.length_map,Nat.sub_self]
    rw[show n+1-dn.length=(n+1-(dn.length+1))+1 by omega,List.replicate_succ]
    simp
   have hhd:∀x,hd ((dn.map AV.str++List.replicate (n+1-dn.length) (AV.str [])).set dn.length (.str x)) (dn.map AV.str++List.replicate (n+1-dn.length) (AV.str [])).length=true:=fun x=>by simp[hd]
   unfold qes
   by_cases hlt:dn.length<n
   · have c1:decide ((dn.length:Int)<(n:Int))=true:=decide_eq_true (by omega)
     obtain⟨pre,post,e1,e2,e3⟩:=qbg1 v0 [] (by omega)
     subst e1
     have hpl:pre.length+1+post.length=(pre++46::post).length:=by simp;omega
     generalize hv:pre++46::post=v0 at*
     have c2:decide (Lib.indexByte v0 46<0)=false:=decide_eq_false (by omega)
     have w4:IntKind.i64.wrap (Lib.indexByte v0 46+0)=(pre.length:Int):=by rw[e2,w64 (by omega) (by omega)];omega
     have w5:IntKind.i64.wrap (Lib.indexByte v0 46+(([46]:List UInt8).length:Int))=((pre.length+1:Nat):Int):=by rw[e2];simp;rw[w64 (by omega) (by omega)]
     have w6:IntKind.i64.wrap ((dn.length:Int)+1)=((dn.length+1:Nat):Int):=w64 (by omega) (by omega)
     have k1:cutI v0 none (some ((pre.length:Nat):Int))=some pre:=by rw[<-hv];exact qbvm pre post
     have k2:cutI v0 (some ((pre.length+1:Nat):Int)) none=some post:=by rw[<-hv];exact qbti pre post
     have hp:putE (.str []) 0 1 [AV.str pre]=some (.str pre):=rfl
     simp only[c1,cond_t,qbvk,oB_s,c2,cond_f,w4,k1,hd_self,hdec,Int.toNat_natCast,hget,hp,w5,k2,hhd,w6]
     refine hnx _ ⟨dn++[pre],by simp,by rw[hset];simp,by simp;omega,?_,?_,by show post.length<=1000000000;omega⟩ (by simp;omega)
     · have hcp:v0.count 46=(qd5 [] v0).length-1:=by rw[qwi];simp
       have:(qd5 [] post).length=post.count 46+1:=qwi post []
       rw[e3]at hcp
       simp at hcp
       simp
       omega
     · rw[<-h3,e3]
       simp
   · have hdn:dn.length=n:=by omega
     have c1:decide ((dn.length:Int)<(n:Int))=false:=decide_eq_false (by omega)
     have hp:putE (.str []) 0 1 [AV.str v0]=some (.str v0):=rfl
     have w6:IntKind.i64.wrap ((dn.length:Int)+1)=((n+1:Nat):Int):=by rw[w64 (by omega) (by omega)];omega
     have k3:cutI ((dn++[v0]).map AV.str++List.replicate (n+1-(dn.length+1)) (AV.str [])) none (some ((n+1:Nat):Int))=some ((dn++[v0]).map AV.str):=by
      have hz:n+1-(dn.length+1)=0:=by omega
      rw[hz]
      simp only[List.replicate_zero,List.append_nil]
      have hL:((dn++[v0]).map AV.str).length=n+1:=by simp;omega
      generalize (dn++[v0]).map AV.str=L at hL⊢
      unfold cutI
      simp only[Option.getD_none,Option.getD_some]
      rw[if_pos ⟨by omega,by omega,by omega⟩,Int.toNat_natCast,<-hL,List.take_length]
      rfl
     simp only[c1,cond_f]
     show kx v0 (dn.length:Int) _=_
     simp only[kx,cond_t,hdec,Int.toNat_natCast,hget,oB_s,hp,hhd,w6]
     rw[hset,k3]
     simp only[oB_s]
     rw[<-h3,qbg0 v0 [] (by omega)]
     simp
def ordB (x:LU):Bool:=decide (1<=x.length)&&decide (x.length<=63)&&x.all labC
theorem qbpt (x:LU)(hx:x.length<=9223372036854775807):qum x=some (ordB x):=by
 rw[qbbj];unfold qmf
 rw[q19,qja x hx (qfp x (x.length:Int) fun _=>some true) (fun i nx=>qfo x (x.length:Int) i nx fun _=>some true) (fun _ _=>rfl) (fun r=>some (r.all labC))]
 · unfold ordB
   by_cases h1:x=[]
   · subst h1;rfl
   · have e1:(x==[])=false:=by simpa using h1
     have h2:1<=x.length:=by
      cases x with
      |nil=>exact absurd rfl h1
      |cons a r=>simp
     by_cases h3:x.length<=63
     · have:¬(x.length:Int)>63:=by omega
       simp only[e1,this,h2,h3,decide_true,decide_false,Bool.or_self,cond_f,Bool.true_and]
     · have:(x.length:Int)>63:=by omega
       simp[e1,this,h3]
 · intro nx;simp[qfo]
 · intro i a r nx h1 h2 h3 h4 h5
   have h6:(i:Int)<(x.length:Int):=by omega
   have key:∀kn:Bool->Option Bool,qo8 x (a.toNat:Int) (x.length:Int) i kn=kn (!labC a):=by
    intro kn
    have co:∀(p a b:Bool),(bif p then kn a else kn b)=kn (bif p then a else b):=by intro p;cases p<;>intros<;>rfl
    rw[q18]
    unfold qiu labC
    simp only[co]
    have fin:∀n:Fin 256,(bif((decide ((n.val:Int)<(97:Int)))||(decide ((n.val:Int)>(122:Int))))then(bif(decide ((n.val:Int)<(48:Int)))then(((n.val:Int) != (45:Int))&&((n.val:Int) != (95:Int)))else(((decide ((n.val:Int)>(57:Int)))&&((n.val:Int) != (45:Int)))&&((n.val:Int) != (95:Int))))else false)=
     !((decide (97<=n.val)&&decide (n.val<=122))||(decide (48<=n.val)&&decide (n.val<=57))||n.val==45||n.val==95):=by decide+kernel
    exact congrArg kn (fin ⟨a.toNat,a.toNat_lt⟩)
   unfold qfo
   simp only[h6,decide_true,cond_t,ixB_nat,h2,oB_s,key,h4]
   cases h7:labC a
   · simp[h7]
   · simp only[Bool.not_true,cond_t,cond_f,h5,List.all_cons,h7,Bool.true_and]
def sufB (x y:LU):Bool:=decide (y.length<=x.length)&&x.drop (x.length-y.length)==y
theorem qbcw (x y:LU)(hx:x.length<=9223372036854775807):qlb x y=some (sufB x y):=by
 rw[q30];unfold qjo
 rw[qye];unfold qgr sufB
 by_cases h:y.length<=x.length
 · have h1:(x.length:Int)>=(y.length:Int):=by omega
   have w:IntKind.i64.wrap ((x.length:Int)-(y.length:Int))=((x.length-y.length:Nat):Int):=by rw[w64 (by omega) (by omega)];omega
   have hc:cutI x (some ((x.length-y.length:Nat):Int)) none=some (x.drop (x.length-y.length)):=by
    unfold cutI
    simp only[Option.getD_none,Option.getD_some]
    rw[if_pos ⟨by omega,by omega,by omega⟩,Int.toNat_natCast,Int.toNat_natCast,List.take_length]
   simp only[h1,decide_true,cond_t,w,hc,oB_s,h,Bool.true_and]
 · have h1:¬(x.length:Int)>=(y.length:Int):=by omega
   simp[h1,h]
def q06:Bool->List (List UInt8)->Bool
 |_,[]=>true
 |f,l::ls=>(ordB l||(f&&l==[42]))&&q06 false ls
def valB (x:LU):Bool:=x==[46]||(decide (x.length<255)&&sufB x [46]&&q06 true (qd5 [] (x.take (x.length-1))))
theorem qbei:∀(s cur:LU),∀l,l∈qd5 cur s->l.length<=cur.length+s.length
 |[],cur,l,h=>by simp[qd5]at h;subst h;simp
 |c::r,cur,l,h=>by
  unfold qd5 at h
  split at h
  · rcases List.mem_cons.1 h with rfl|h
    · simp<;>omega
    · have:=qbei r [] l h;simp at this⊢;omega
  · have:=qbei r _ l h;simp at this⊢;omega
theorem qbws (ps:List (List UInt8))(hps:ps.length<=9223372036854775807)(hl:∀l,l∈ps->l.length<=9223372036854775807):
 qte (ps.map AV.str) ((ps.map AV.str).length:Int) (fun _=>some true) FU 0=some (q06 true ps):=by
 have hlen:(ps.map AV.str).length=ps.length:=by simp
 rw[q8a,hlen]
 have key:=qem (σ:=Unit) ps hps (fun n i _=>qip (ps.map AV.str) (ps.length:Int) (fun _=>some true) n i) (fun i _ nx=>qio (ps.map AV.str) (ps.length:Int) i (fun j=>nx j ()) (fun _=>some true)) (fun _ _ _=>rfl)
  (fun _ _=>True) (fun r _=>some (q06 (decide (r.length=ps.length)) r)) ?_ ?_ () FU trivial (qek (by omega))
 · simpa using key
 · intro s nx _
   simp[qio,q06]
 · intro i l r s nx h1 h2 h3 h4 _ h5
   have h6:(i:Int)<(ps.length:Int):=by omega
   have hg:(ps.map AV.str)[i]?=some (.str l):=by simp[h2]
   have hr:r.length=ps.length-(i+1):=by
    have:=congrArg List.length h1
    simp at this
    omega
   unfold qio
   simp only[h6,decide_true,cond_t,ixB_nat,hg,oB_s]
   rw[show fitC [.s] (AV.str l).cells=true from rfl,show gS (AV.str l).cells 0=l from rfl]
   simp only[cond_t,q79,qld,qbpt l (hl l (List.mem_of_getElem? h2)),oB_s,h4,h5 () trivial,q06]
   have e1:decide (r.length=ps.length)=false:=decide_eq_false (by omega)
   have e2:decide ((l::r).length=ps.length)=decide (i=0):=decide_eq_decide.2 (by simp;omega)
   rw[e1,e2]
   by_cases hi:i=0
   · subst hi
     cases ordB l<;>cases(l==[42])<;>rfl
   · have a1:decide ((i:Int)>0)=true:=decide_eq_true (by omega)
     have a2:decide (i=0)=false:=decide_eq_false hi
     rw[a1,a2]
     cases ordB l<;>rfl
theorem qbtj (x:LU)(hx:x.length<=9223372036854775807):qet x=some (valB x):=by
 rw[qbhl];unfold qrk valB
 by_cases h1:x=[46]
 · subst h1;rfl
 · have e1:(x==[46])=false:=by simpa using h1
   rw[e1]
   simp only[cond_f,q77,qlc,qbcw x _ hx,oB_s,Bool.false_or]
   by_cases h2:x.length<255
   · have e2:¬(x.length:Int)>=255:=by omega
     simp only[e2,decide_false,cond_f,h2,decide_true,Bool.true_and]
     cases h3:sufB x [46]with
     |false=>rfl
     |true=>
      have h4:1<=x.length:=by
       simp[sufB]at h3
       exact h3.1
      have w:IntKind.i64.wrap ((x.length:Int)-1)=((x.length-1:Nat):Int):=by rw[w64 (by omega) (by omega)];omega
      have hc:cutI x none (some ((x.length-1:Nat):Int))=some (x.take (x.length-1)):=by
       unfold cutI
       simp only[Option.getD_none,Option.getD_some]
       rw[if_pos ⟨by omega,by omega,by omega⟩,Int.toNat_natCast]
       rfl
      have hpl:=qwi (x.take (x.length-1)) []
      have hcl:(x.take (x.length-1)).count 46<=(x.take (x.length-1)).length:=List.count_le_length
      have htl:(x.take (x.length-1)).length<=254:=by simp;omega
      simp only[Bool.not_true,cond_f,w,hc,oB_s,qboo _ (by omega:(x.take (x.length-1)).length<=1000000000)]
      rw[qbws _ (by omega) (fun l hl=>by have:=qbei _ _ l hl;simp only[List.length_nil]at this;omega)]
      simp
   · have e2:(x.length:Int)>=255:=by omega
     simp[e2,h2]
theorem q07:∀(y cur:LU),spl cur (y++[46])=qd5 cur y
 |[],cur=>by simp[spl,qd5]
 |c::r,cur=>by
  simp only[List.cons_append,spl,qd5]
  split
  · rw[q07 r]
  · rw[q07 r]
theorem qbop:∀(ls:List (List UInt8)) (f:Bool),q06 f ls=ql2 f ls
 |[],f=>rfl
 |l::ls,f=>by
  unfold q06 ql2
  rw[qbop ls false]
  by_cases h:l=[42]
  · subst h
    rw[show ordB [42]=false from by decide,show q05 [42]=true from by decide]
    cases f<;>rfl
  · have e:(l==[42])=false:=by simpa using h
    rw[e]
    rw[show q05 l=ordB l by simp[q05,ordB,e]]
    cases ordB l<;>cases f<;>rfl
theorem qbwt (x:LU):valB x=qbc x:=by
 unfold valB qbc qh2
 by_cases h1:x=[46]
 · subst h1;rfl
 · have e1:(x==[46])=false:=by simpa using h1
   rw[e1,if_neg h1,Bool.false_or]
   rcases List.eq_nil_or_concat x with rfl|⟨y,c,rfl⟩
   · rfl
   · rw[List.concat_eq_append]at*
     have hl:(y++[c]).length-1=y.length:=by simp
     have hs:sufB (y++[c]) [46]=(c==46):=by
      unfold sufB
      have:(y++[c]).length-([46]:List UInt8).length=y.length:=by simp
      rw[this]
      simp
     have he:ql1 (y++[c])=(decide (1<=y.length)&&decide ((y++[c]).length<255)&&(c==46)):=by
      unfold ql1
      have a1:decide (2<=(y++[c]).length)=decide (1<=y.length):=decide_eq_decide.2 (by simp)
      have a2:decide ((y++[c]).length<=254)=decide ((y++[c]).length<255):=decide_eq_decide.2 (by omega)
      rw[a1,a2]
      simp
     rw[hl,hs,he,List.take_left]
     by_cases hc:c=46
     · subst hc
       rw[q07,qbop]
       have hy:1<=y.length:=by
        cases y with
        |nil=>exact absurd rfl h1
        |cons a r=>simp
       rw[decide_eq_true hy]
       cases decide ((y++[46]).length<255)<;>cases ql2 true (qd5 [] y)<;>simp
     · have hb:(c==46)=false:=by simpa using hc
       rw[hb]
       simp
theorem ql4 (x:LU)(hx:x.length<=9223372036854775807):qet x=some (qbc x):=by rw[qbtj x hx,qbwt]
def qra (x y:LU):Bool:=qbc x&&(qbc y&&(y==[46]||x==y||sufB x (46::y)))
theorem qbg2 {x:LU}(h:qbc x=true):x.length<=254:=by
 unfold qbc qh2 at h
 split at h
 · rename_i h1;subst h1;simp
 · split at h
   · rename_i h2
     have:=h2.1
     simp[ql1]at this
     omega
   · cases h
theorem qbvn (x y:LU)(hx:x.length<=9223372036854775807)(hy:y.length<=9223372036854775807):q1g x y=some (qra x y):=by
 rw[qbhn];unfold qrn qra
 simp only[ql4 x hx,ql4 y hy,oB_s]
 cases h1:qbc x with
 |false=>rfl
 |true=>
  cases h2:qbc y with
  |false=>rfl
  |true=>
   have hl:=qbg2 h2
   simp only[cond_t,Bool.true_and]
   rw[qbkf];unfold qtg
   have hd:decide (([46]:List UInt8).length+y.length<=9223372036854775807)=true:=decide_eq_true (by simp;omega)
   cases h3:(y==[46]||x==y)with
   |true=>rfl
   |false=>
    simp only[cond_f,hd,cond_t,qbcw x _ hx,oB_s,Bool.false_or]
    rfl
def ql (x:LU):List (List UInt8):=(qh2 x).1
theorem qbej (x:LU)(hx:x.length<=9223372036854775807):qo9 x=some (avS (ql x)):=by
 rw[qbe2];unfold qp2
 simp only[q8e,qlf,ql4 x hx,oB_s]
 by_cases h1:x=[46]
 · subst h1;rfl
 · have e1:(x==[46])=false:=by simpa using h1
   rw[e1]
   simp only[cond_f]
   cases h2:qbc x with
   |false=>
    unfold ql
    unfold qbc qh2 at h2
    unfold qh2
    rw[if_neg h1]at h2⊢
    split at h2
    · cases h2
    · rename_i h3
      rw[if_neg h3]
      rfl
   |true=>
    have hl:=qbg2 h2
    have h5:=h2
    unfold qbc qh2 at h5
    rw[if_neg h1]at h5
    split at h5
    · rename_i h3
      have hend:=h3.1
      simp only[ql1,Bool.and_eq_true,decide_eq_true_eq,beq_iff_eq]at hend
      have h4:1<=x.length:=by omega
      have w:IntKind.i64.wrap ((x.length:Int)-1)=((x.length-1:Nat):Int):=by rw[w64 (by omega) (by omega)];omega
      have hc:cutI x none (some ((x.length-1:Nat):Int))=some (x.take (x.length-1)):=by
       unfold cutI
       simp only[Option.getD_none,Option.getD_some]
       rw[if_pos ⟨by omega,by omega,by omega⟩,Int.toNat_natCast]
       rfl
      have htl:(x.take (x.length-1)).length<=254:=by simp;omega
      simp only[Bool.not_true,cond_f,w,hc,oB_s,qboo _ (by omega:(x.take (x.length-1)).length<=1000000000)]
      unfold ql qh2
      rw[if_neg h1,if_pos h3]
      rcases List.eq_nil_or_concat x with rfl|⟨y,c,rfl⟩
      · simp at h4
      · rw[List.concat_eq_append]at*
        have hc46:c=46:=by have:=hend.2;simpa using this
        subst hc46
        have hlen:(y++[46]).length-1=y.length:=by simp
        rw[hlen,List.take_left,q07]
        rfl
    · cases h5
theorem qbar {α R:Type}(l:List α)(hl:l.length<=9223372036854775807)(L:Nat->Int->Option R)(B:Int->(Int->Option R)->Option R)(hL:∀n i,L (n+1) i=B i (L n))
 (S:Nat->List α->Option R) (h0:∀nx,B (l.length:Int) nx=S l.length [])
 (hs:∀(i:Nat) (a:α) (r:List α) nx,l.drop i=a::r->l[i]?=some a->i<l.length->IntKind.i64.wrap ((i:Int)+1)=((i+1:Nat):Int)->nx ((i+1:Nat):Int)=S (i+1) r->B (i:Int) nx=S i (a::r)):
 L FU 0=S 0 l:=by
 have:=qja l hl L B hL (fun r=>S (l.length-r.length) r) (fun nx=>by simpa using h0 nx) (fun i a r nx h1 h2 h3 h4 h5=>by
  have hr:r.length=l.length-(i+1):=by
   have:=congrArg List.length h1
   simp at this;omega
  have e1:l.length-r.length=i+1:=by omega
  have e2:l.length-(a::r).length=i:=by simp;omega
  simp only[e1]at h5
  simp only[e2]
  exact hs i a r nx h1 h2 h3 h4 h5)
 simpa using this
theorem qwj {l:LT}{ls:List LT}{cs:LA}(h:fitC (l::ls) cs=true):∃x r,cs=x::r/\fitL l x=true/\fitC ls r=true:=by
 cases cs with
 |nil=>simp[fitC]at h
 |cons x r=>
  simp only[fitC]at h
  cases hl:fitL l x
  · rw[hl]at h;cases h
  · rw[hl]at h;exact⟨x,r,rfl,hl,h⟩
theorem qbtk {cs:LA}(h:fitC [] cs=true):cs=[]:=by
 cases cs with
 |nil=>rfl
 |cons x r=>simp[fitC]at h
theorem qbih:∀(q cur y:LU),spl cur (q++46::y)=spl cur (q++[46])++spl [] y
 |[],cur,y=>by simp[spl]
 |c::r,cur,y=>by
  simp only[List.cons_append,spl]
  split
  · simp[qbih r [] y]
  · exact qbih r _ y
theorem qm5:∀(x cur:LU),x.getLast? =some 46->(spl cur x).flatMap (· ++[46])=cur++x
 |[],cur,h=>by simp at h
 |[c],cur,h=>by
  have:c=46:=by simpa using h
  subst this
  simp[spl]
 |c::d::r,cur,h=>by
  have h':(d::r).getLast? =some 46:=by simpa using h
  unfold spl
  split
  · rename_i hc
    subst hc
    simp[qm5 (d::r) [] h']
  · rw[qm5 (d::r) _ h']
    simp
theorem ql3 {x:LU}(h:qbc x=true):x=[46]/\ql x=[]\/x≠[46]/\2<=x.length/\x.getLast? =some 46/\ql2 true (spl [] x)=true/\ql x=spl [] x:=by
 unfold qbc at h
 unfold ql
 unfold qh2 at h⊢
 by_cases h1:x=[46]
 · left;exact⟨h1,by rw[if_pos h1]⟩
 · right
   rw[if_neg h1]at h⊢
   split at h
   · rename_i h2
     rw[if_pos h2]
     have h3:=h2.1
     simp only[ql1,Bool.and_eq_true,decide_eq_true_eq,beq_iff_eq]at h3
     exact⟨h1,h3.1.1,h3.2,h2.2,rfl⟩
   · cases h
theorem qbtl {x y:LU}:sufB x y=true↔y<:+x:=by
 unfold sufB
 rw[Bool.and_eq_true,decide_eq_true_eq,beq_iff_eq,List.suffix_iff_eq_drop]
 constructor
 · rintro⟨_,h⟩;exact h.symm
 · intro h
   refine⟨?_,h.symm⟩
   have:=congrArg List.length h
   simp at this;omega
theorem qbrq {x y:LU}(hx:qbc x=true)(hy:qbc y=true):ql y<:+ql x↔(y==[46]||x==y||sufB x (46::y))=true:=by
 simp only[Bool.or_eq_true,beq_iff_eq,qbtl]
 rcases ql3 hy with⟨rfl,e⟩|⟨y1,y2,y3,y4,y5⟩
 · simp[e]
 · have jy:=qm5 y [] y3
   rw[List.nil_append]at jy
   rcases ql3 hx with⟨rfl,e⟩|⟨x1,x2,x3,x4,x5⟩
   · rw[e,y5]
     constructor
     · intro h
       have:spl [] y=[]:=List.suffix_nil.1 h
       rw[this]at jy
       simp at jy
       subst jy
       simp at y2
     · rintro((h|h)|h)
       · exact absurd h y1
       · exact absurd h.symm y1
       · have:=h.length_le
         rw[List.length_cons,List.length_singleton]at this
         omega
   · have jx:=qm5 x [] x3
     rw[List.nil_append]at jx
     rw[x5,y5]
     constructor
     · rintro⟨p,hp⟩
       rw[<-hp,List.flatMap_append,jy]at jx
       rcases List.eq_nil_or_concat p with rfl|⟨q,l,rfl⟩
       · left;right;simpa using jx.symm
       · right
         rw[List.concat_eq_append]at jx
         refine⟨q.flatMap (· ++[46])++l,?_⟩
         rw[<-jx];simp
     · rintro((h|h)|⟨q,h⟩)
       · exact absurd h y1
       · subst h;exact List.suffix_refl _
       · rw[<-h,qbih]
         exact⟨_,rfl⟩
def comm:List (List UInt8)->List (List UInt8)->Nat
 |a::r,b::s=>if a=b then comm r s+1 else 0
 |_,_=>0
theorem qbmy:∀(a b:List (List UInt8)),comm a b=b.length↔b<+:a
 |[],[]=>by simp[comm]
 |[],_::_=>by simp[comm]
 |_::_,[]=>by simp[comm]
 |a::r,b::s=>by
  unfold comm
  by_cases h:a=b
  · subst h
    rw[if_pos rfl,List.cons_prefix_cons]
    simp[qbmy r s]
  · rw[if_neg h,List.cons_prefix_cons]
    simp
    exact fun e=>absurd e.symm h
theorem qve (l:List (List UInt8))(i:Nat)(h:i<l.length):(avS l)[l.length-1-i]?=some (.str (l.reverse[i]'(by simpa using h))):=by
 unfold avS
 rw[List.getElem?_map,List.getElem_reverse,List.getElem?_eq_getElem (by omega)]
 rfl
theorem qbmz (xs ys:List (List UInt8))(hx:xs.length<=1000000000)(hy:ys.length<=1000000000):qnf (avS xs) (avS ys)=some ((comm xs.reverse ys.reverse:Nat):Int):=by
 rw[qbdx];unfold qos
 rw[q7d]
 have lx:(avS xs).length=xs.length:=by simp[avS]
 have ly:(avS ys).length=ys.length:=by simp[avS]
 have key:=qbao (fun n (i:Int)=>qe7 (avS xs) (avS ys) (fun v5=>some v5) n i) (fun i nx=>qkq (avS xs) (avS ys) i nx (fun v5=>some v5)) (fun _ _=>rfl)
  (fun i=>0<=i/\i<=xs.length) (fun i=>(xs.length-i).toNat) (fun i=>some (i+((comm (xs.reverse.drop i.toNat) (ys.reverse.drop i.toNat):Nat):Int))) ?_ FU 0 (by simp) (qek (by simp;omega))
 · rw[show qe7 (avS xs) (avS ys) (fun v5=>some v5) FU 0=_ from key]
   simp
 · rintro i ⟨h0,h1⟩ nx hn
   obtain⟨i,rfl⟩:∃j:Nat,i=j:=⟨i.toNat,by omega⟩
   unfold qkq
   rw[q7c];unfold qkp
   simp only[lx,ly,Int.toNat_natCast]
   have hw:IntKind.i64.wrap ((i:Int)+1)=((i+1:Nat):Int):=w64 (by omega) (by omega)
   by_cases hi:i<xs.length
   · have hdx:xs.reverse.drop i=xs.reverse[i]'(by simpa using hi)::xs.reverse.drop (i+1):=List.drop_eq_getElem_cons (by simpa using hi)
     by_cases hj:i<ys.length
     · have hdy:ys.reverse.drop i=ys.reverse[i]'(by simpa using hj)::ys.reverse.drop (i+1):=List.drop_eq_getElem_cons (by simpa using hj)
       have w1:IntKind.i64.wrap (IntKind.i64.wrap ((xs.length:Int)-1)-(i:Int))=((xs.length-1-i:Nat):Int):=by
        rw[w64 (i:=(xs.length:Int)-1) (by omega) (by omega),w64 (by omega) (by omega)];omega
       have w2:IntKind.i64.wrap (IntKind.i64.wrap ((ys.length:Int)-1)-(i:Int))=((ys.length-1-i:Nat):Int):=by
        rw[w64 (i:=(ys.length:Int)-1) (by omega) (by omega),w64 (by omega) (by omega)];omega
       have d1:decide ((i:Int)<(xs.length:Int))=true:=decide_eq_true (by omega)
       have d2:decide ((i:Int)<(ys.length:Int))=true:=decide_eq_true (by omega)
       simp only[d1,d2,cond_t,w1,w2,ixB_nat,qve _ _ hi,qve _ _ hj,oB_s,hw]
       have f:∀s:List UInt8,fitC [.s] (AV.str s).cells=true:=fun _=>rfl
       have g:∀s:List UInt8,gS (AV.str s).cells 0=s:=fun _=>rfl
       simp only[f,cond_t,g]
       have hnx:=hn ((i+1:Nat):Int) ⟨by omega,by omega⟩ (by omega)
       simp only[Int.toNat_natCast]at hnx
       rw[hdx,hdy]
       unfold comm
       by_cases he:xs.reverse[i]'(by simpa using hi)=ys.reverse[i]'(by simpa using hj)
       · have hb:(xs.reverse[i]'(by simpa using hi)==ys.reverse[i]'(by simpa using hj))=true:=beq_iff_eq.2 he
         rw[hb,cond_t,hnx,if_pos he]
         congr 1;omega
       · have hb:(xs.reverse[i]'(by simpa using hi)==ys.reverse[i]'(by simpa using hj))=false:=by simpa using he
         rw[hb,cond_f,if_neg he]
         simp
     · have d1:decide ((i:Int)<(xs.length:Int))=true:=decide_eq_true (by omega)
       have d2:decide ((i:Int)<(ys.length:Int))=false:=decide_eq_false (by omega)
       have e:ys.reverse.drop i=[]:=List.drop_eq_nil_of_le (by simp;omega)
       rw[e,hdx]
       simp only[d1,d2,cond_t,cond_f]
       simp[comm]
   · have d1:decide ((i:Int)<(xs.length:Int))=false:=decide_eq_false (by omega)
     have e:xs.reverse.drop i=[]:=List.drop_eq_nil_of_le (by simp;omega)
     rw[e]
     simp only[d1,cond_f]
     simp[comm]
theorem qqk {x:LU}:(ql x).length<=254:=by
 unfold ql qh2
 split
 · simp
 · split
   · rename_i h
     have h3:=h.1
     simp only[ql1,Bool.and_eq_true,decide_eq_true_eq,beq_iff_eq]at h3
     have:=qbig x []
     simp;omega
   · simp
theorem qbrr (x:LU)(hx:x.length<=9223372036854775807):qtq x=some (avS (ql x)):=by
 rw[q8x];unfold qlk
 rw[qx1 x hx];rfl
theorem qbtm (x y:LU)(hx:x.length<=9223372036854775807)(hy:y.length<=9223372036854775807):quu x y=some (qra x y):=by
 rw[qbb7];unfold qmw qra
 rw[qx1 x hx,qx1 y hy]
 simp only[oB_s]
 show(bif qbc x&&qbc y then oB (qnf (avS (ql x)) (avS (ql y))) _ else _)=_
 cases h1:qbc x
 · rfl
 cases h2:qbc y
 · rfl
 have l1:=qqk (x:=x)
 have l2:=qqk (x:=y)
 rw[qbmz _ _ (by omega) (by omega)]
 simp only[Bool.and_self,cond_t,oB_s,Bool.true_and]
 have ly:(avS (qh2 y).1).length=(ql y).length:=by simp[avS,ql]
 rw[ly]
 congr 1
 rw[Bool.eq_iff_iff,beq_iff_eq,<-qbrq h1 h2,<-List.reverse_prefix,<-qbmy,List.length_reverse]
 omega
theorem qbrs {x:LU}(h:qbc x=true):((ql x).head? =some [42])↔x.head? =some 42:=by
 rcases ql3 h with⟨rfl,e⟩|⟨y1,y2,y3,y4,y5⟩
 · simp[e]
 · rw[y5]
   have jy:=qm5 x [] y3
   rw[List.nil_append]at jy
   cases hs:spl [] x with
   |nil=>rw[hs]at jy;simp at jy;subst jy;simp at y2
   |cons l ls=>
    rw[hs]at jy y4
    simp only[ql2,Bool.and_eq_true]at y4
    have hl:=y4.1.1
    simp only[List.head?_cons,Option.some.injEq]
    constructor
    · intro e;subst e;rw[<-jy];simp
    · intro e
      unfold q05 at hl
      simp only[Bool.or_eq_true,beq_iff_eq,Bool.and_eq_true,decide_eq_true_eq]at hl
      rcases hl with hl|⟨⟨hl1,_⟩,hl2⟩
      · exact hl
      · cases l with
        |nil=>simp at hl1
        |cons c r=>
         rw[<-jy]at e
         have:c=42:=by simpa using e
         subst this
         simp[labC]at hl2
def cmpS (a b:LU):Int:=Lib.compareBytes a b
theorem q08:∀a b,cmpS a b= -1\/cmpS a b=0\/cmpS a b=1
 |[],[]=>by simp[cmpS,Lib.compareBytes]
 |[],_::_=>by simp[cmpS,Lib.compareBytes]
 |_::_,[]=>by simp[cmpS,Lib.compareBytes]
 |a::as_,b::bs=>by
  have ih:=q08 as_ bs
  show(if a<b then(-1:Int)else if b<a then 1 else cmpS as_ bs)= -1\/_\/_
  have e:cmpS (a::as_) (b::bs)=if a<b then(-1:Int)else if b<a then 1 else cmpS as_ bs:=rfl
  rw[e]
  split
  · simp
  · split
    · simp
    · exact ih
theorem qvf (a b:UInt8):a<b\/a=b\/b<a:=by
 rcases Nat.lt_trichotomy a.toNat b.toNat with h|h|h
 · exact .inl h
 · exact .inr (.inl (UInt8.toNat_inj.1 h))
 · exact .inr (.inr h)
theorem qer {a b:UInt8}(h:a<b):¬b<a:=fun h2=>by
 have h1:a.toNat<b.toNat:=h
 have h2:b.toNat<a.toNat:=h2
 omega
theorem qbtn {a b c:UInt8}(h:a<b)(h2:b<c):a<c:=Nat.lt_trans (show a.toNat<b.toNat from h) h2
theorem qwk (a b:UInt8)(r s:LU):cmpS (a::r) (b::s)=if a<b then-1 else if b<a then 1 else cmpS r s:=rfl
theorem qjb:∀{a b},cmpS a b=0↔a=b
 |[],[]=>by simp[cmpS,Lib.compareBytes]
 |[],_::_=>by simp[cmpS,Lib.compareBytes]
 |_::_,[]=>by simp[cmpS,Lib.compareBytes]
 |a::r,b::s=>by
  rw[qwk]
  rcases qvf a b with h|rfl|h
  · rw[if_pos h]
    simp only[List.cons.injEq]
    exact⟨fun h=>by omega,fun e=>by rw[e.1]at h;exact absurd h (qer h)⟩
  · rw[if_neg (fun h=>qer h h),if_neg (fun h=>qer h h),qjb]
    simp
  · rw[if_neg (qer h),if_pos h]
    simp only[List.cons.injEq]
    exact⟨fun h=>by omega,fun e=>by rw[e.1]at h;exact absurd h (qer h)⟩
theorem qbad:∀a b,cmpS b a= -cmpS a b
 |[],[]=>by simp[cmpS,Lib.compareBytes]
 |[],_::_=>by simp[cmpS,Lib.compareBytes]
 |_::_,[]=>by simp[cmpS,Lib.compareBytes]
 |a::r,b::s=>by
  rw[qwk,qwk]
  rcases qvf a b with h|rfl|h
  · simp[h,qer h]
  · simp[fun h=>qer (a:=a) (b:=a) h h,qbad r s]
  · simp[h,qer h]
theorem q5v:∀{a b c},cmpS a b<0->cmpS b c<0->cmpS a c<0
 |[],[],_,h,_=>by simp[cmpS,Lib.compareBytes]at h
 |[],_::_,[],_,h=>by simp[cmpS,Lib.compareBytes]at h
 |[],_::_,_::_,_,_=>by simp[cmpS,Lib.compareBytes]
 |_::_,[],_,h,_=>by simp[cmpS,Lib.compareBytes]at h
 |_::_,_::_,[],_,h=>by simp[cmpS,Lib.compareBytes]at h
 |a::r,b::s,c::t,h1,h2=>by
  rw[qwk]at h1 h2⊢
  rcases qvf a b with h|rfl|h
  · rcases qvf b c with k|rfl|k
    · rw[if_pos (qbtn h k)];omega
    · rw[if_pos h];omega
    · rw[if_neg (qer k),if_pos k]at h2;omega
  · rw[if_neg (fun h=>qer h h),if_neg (fun h=>qer h h)]at h1
    rcases qvf a c with k|rfl|k
    · rw[if_pos k];omega
    · rw[if_neg (fun h=>qer h h),if_neg (fun h=>qer h h)]at h2⊢
      exact q5v h1 h2
    · rw[if_neg (qer k),if_pos k]at h2;omega
  · rw[if_neg (qer h),if_pos h]at h1;omega
theorem qbju:∀a b,Op.bytesLess a b=decide (cmpS a b<0)
 |[],[]=>by simp[Op.bytesLess,cmpS,Lib.compareBytes]
 |[],_::_=>by simp[Op.bytesLess,cmpS,Lib.compareBytes]
 |_::_,[]=>by simp[Op.bytesLess,cmpS,Lib.compareBytes]
 |a::r,b::s=>by
  rw[qwk]
  unfold Op.bytesLess
  rw[qbju r s]
  rcases qvf a b with h|rfl|h
  · simp[h]
  · simp[fun h=>qer (a:=a) (b:=a) h h]
  · have hne:a≠b:=fun e=>by rw[e]at h;exact qer h h
    simp[h,qer h,hne]
theorem qbg3 (a b:LU):qoh a b=some (cmpS a b):=by
 rw[q8c]
 unfold qle
 rw[qyi]
 rfl
theorem qbwu (a b:LU):qrr a b=some (cmpS a b):=by
 rw[qbdw]
 unfold qor
 rw[qbju]
 rcases q08 a b with h|h|h
 · simp[h]
 · have e:=qjb.1 h
   subst e
   simp[h]
 · have e:(a==b)=false:=by
    have:a≠b:=fun e=>by rw[qjb.2 e]at h;omega
    simpa using this
   simp[h,e]
def cmpZ:List (List UInt8)->List (List UInt8)->Option Int
 |a::r,b::s=>if cmpS a b=0 then cmpZ r s else some (cmpS a b)
 |_,_=>none
def cmpR (x y:List (List UInt8)):Int:=(cmpZ x y).getD (if x.length<y.length then-1 else if x.length>y.length then 1 else 0)
def cmpN (x y:LU):Int:=
 if qbc x=true/\qbc y=false then-1 else if qbc y=true/\qbc x=false then 1 else if qbc x=false then cmpS x y else cmpR (ql x).reverse (ql y).reverse
theorem qwl (a b:LU)(r s:List (List UInt8)):cmpR (a::r) (b::s)=if cmpS a b=0 then cmpR r s else cmpS a b:=by
 unfold cmpR
 simp only[cmpZ]
 split
 · simp
 · rfl
theorem qbjv:∀{x y},cmpR x y=0↔x=y
 |[],[]=>by simp[cmpR,cmpZ]
 |[],_::_=>by simp[cmpR,cmpZ]
 |_::_,[]=>by simp[cmpR,cmpZ]
 |a::r,b::s=>by
  rw[qwl]
  split
  · rename_i h
    rw[qbjv,qjb.1 h];simp
  · rename_i h
    simp only[List.cons.injEq]
    exact⟨fun e=>absurd e h,fun e=>absurd (qjb.2 e.1) h⟩
theorem qbjw:∀x y,cmpR y x= -cmpR x y
 |[],[]=>by simp[cmpR,cmpZ]
 |[],_::_=>by simp[cmpR,cmpZ]
 |_::_,[]=>by simp[cmpR,cmpZ]
 |a::r,b::s=>by
  rw[qwl,qwl,qbad a b,qbjw r s]
  split<;>split<;>omega
theorem qbg4:∀{x y z},cmpR x y<0->cmpR y z<0->cmpR x z<0
 |[],[],_,h,_=>by simp[cmpR,cmpZ]at h
 |[],_::_,[],_,h=>by simp[cmpR,cmpZ]at h
 |[],_::_,_::_,_,_=>by simp[cmpR,cmpZ]
 |_::_,[],_,h,_=>by simp[cmpR,cmpZ]at h
 |_::_,_::_,[],_,h=>by simp[cmpR,cmpZ]at h
 |a::r,b::s,c::t,h1,h2=>by
  rw[qwl]at h1 h2⊢
  by_cases e1:cmpS a b=0
  · have:=qjb.1 e1
    subst this
    rw[if_pos e1]at h1
    by_cases e2:cmpS a c=0
    · rw[if_pos e2]at h2⊢
      exact qbg4 h1 h2
    · rw[if_neg e2]at h2⊢;exact h2
  · rw[if_neg e1]at h1
    by_cases e2:cmpS b c=0
    · have:=qjb.1 e2
      subst this
      rw[if_neg e1];exact h1
    · rw[if_neg e2]at h2
      have:=q5v h1 h2
      rw[if_neg (by omega)];exact this
theorem qbjx:∀x y,cmpR x y= -1\/cmpR x y=0\/cmpR x y=1
 |[],[]=>by simp[cmpR,cmpZ]
 |[],_::_=>by simp[cmpR,cmpZ]
 |_::_,[]=>by simp[cmpR,cmpZ]
 |a::r,b::s=>by
  rw[qwl]
  split
  · exact qbjx r s
  · exact q08 a b
theorem qbpu {x y:LU}(hx:qbc x=true)(hy:qbc y=true)(h:ql x=ql y):x=y:=by
 rcases ql3 hx with⟨a1,a2⟩|⟨a1,a2,a3,a4,a5⟩<;>rcases ql3 hy with⟨b1,b2⟩|⟨b1,b2,b3,b4,b5⟩
 · rw[a1,b1]
 · exfalso
   have h2:=qm5 y [] b3
   rw[<-b5,<-h,a2]at h2
   simp at h2
   subst h2
   simp at b2
 · exfalso
   have h2:=qm5 x [] a3
   rw[<-a5,h,b2]at h2
   simp at h2
   subst h2
   simp at a2
 · have h1:=qm5 x [] a3
   have h2:=qm5 y [] b3
   rw[<-a5,h,b5]at h1
   simp only[List.nil_append]at h1 h2
   exact h1.symm.trans h2
theorem qbjy {x y:LU}:cmpN x y=0↔x=y:=by
 unfold cmpN
 cases hx:qbc x<;>cases hy:qbc y
 · simp[qjb]
 · simp only[Bool.true_eq_false,and_self,Bool.false_eq_true,false_and,if_false,if_true]
   exact⟨fun h=>by omega,fun e=>by rw[e,hy]at hx;cases hx⟩
 · simp only[and_self,if_true]
   exact⟨fun h=>by omega,fun e=>by rw[e,hy]at hx;cases hx⟩
 · simp only[Bool.true_eq_false,and_false,if_false,qbjv]
   exact⟨fun h=>qbpu hx hy (by simpa using congrArg List.reverse h),fun e=>by rw[e]⟩
theorem qbrt (x y:LU):cmpN y x= -cmpN x y:=by
 unfold cmpN
 cases hx:qbc x<;>cases hy:qbc y<;>simp
 · exact qbad x y
 · exact qbjw _ _
theorem qbpv {x y z:LU}(h1:cmpN x y<0)(h2:cmpN y z<0):cmpN x z<0:=by
 unfold cmpN at*
 cases hx:qbc x<;>cases hy:qbc y<;>cases hz:qbc z<;>simp[hx,hy,hz]at h1 h2⊢
 · exact q5v h1 h2
 · exact qbg4 h1 h2
theorem qbru (x y:LU):cmpN x y= -1\/cmpN x y=0\/cmpN x y=1:=by
 unfold cmpN
 split
 · simp
 · split
   · simp
   · split
     · exact q08 x y
     · exact qbjx _ _
theorem qbjz (xs ys:List (List UInt8))(hx:xs.length<=1000000000)(hy:ys.length<=1000000000)(kx:Unit->Option Int):∀(n j:Nat),j<=xs.length->j<=ys.length->xs.length-j<n->
 qep (avS xs) (avS ys) kx n ((j+1:Nat):Int)=match cmpZ (xs.reverse.drop j) (ys.reverse.drop j)with
  |some c=>some c
  |none=>kx ()
 |0,j,_,_,h=>by omega
 |n+1,j,h1,h2,h3=>by
  unfold qep qnz
  have hlx:(avS xs).length=xs.length:=by simp[avS]
  have hly:(avS ys).length=ys.length:=by simp[avS]
  rw[hlx,hly]
  by_cases hc:j<xs.length/\j<ys.length
  · have e1:(decide (((j+1:Nat):Int)<=(xs.length:Int))&&decide (((j+1:Nat):Int)<=(ys.length:Int)))=true:=by simp;omega
    rw[e1,cond_t,w64 (by omega) (by omega),qbgo (j:=xs.length-1-j) (by omega),qve xs j hc.1,oB_s]
    rw[show fitC [.s] (AV.str (xs.reverse[j]'(by simpa using hc.1))).cells=true from rfl,cond_t,w64 (by omega) (by omega),qbgo (j:=ys.length-1-j) (by omega),qve ys j hc.2,oB_s]
    rw[show fitC [.s] (AV.str (ys.reverse[j]'(by simpa using hc.2))).cells=true from rfl,cond_t]
    rw[show gS (AV.str (xs.reverse[j]'(by simpa using hc.1))).cells 0=xs.reverse[j]'(by simpa using hc.1)from rfl,show gS (AV.str (ys.reverse[j]'(by simpa using hc.2))).cells 0=ys.reverse[j]'(by simpa using hc.2)from rfl,qbg3,oB_s]
    rw[List.drop_eq_getElem_cons (l:=xs.reverse) (i:=j) (by simpa using hc.1),List.drop_eq_getElem_cons (l:=ys.reverse) (i:=j) (by simpa using hc.2)]
    simp only[cmpZ]
    by_cases h0:cmpS (xs.reverse[j]'(by simpa using hc.1)) (ys.reverse[j]'(by simpa using hc.2))=0
    · rw[if_pos h0,h0]
      simp only[bne_self_eq_false,cond_f]
      have ih:=qbjz xs ys hx hy kx n (j+1) (by omega) (by omega) (by omega)
      rw[w64 (by omega) (by omega)]
      rw[show((j+1:Nat):Int)+1=((j+1+1:Nat):Int) by omega]
      exact ih
    · rw[if_neg h0]
      have:(cmpS (xs.reverse[j]'(by simpa using hc.1)) (ys.reverse[j]'(by simpa using hc.2)) != 0)=true:=by simpa using h0
      rw[this,cond_t]
  · have e1:(decide (((j+1:Nat):Int)<=(xs.length:Int))&&decide (((j+1:Nat):Int)<=(ys.length:Int)))=false:=by
     rw[Bool.and_eq_false_iff];simp;omega
    rw[e1,cond_f]
    have:cmpZ (xs.reverse.drop j) (ys.reverse.drop j)=none:=by
     rcases Classical.not_and_iff_not_or_not.1 hc with h|h
     · rw[List.drop_eq_nil_of_le (by simp;omega)];simp[cmpZ]
     · have e:ys.reverse.drop j=[]:=List.drop_eq_nil_of_le (by simp;omega)
       rw[e]
       cases xs.reverse.drop j<;>simp[cmpZ]
    rw[this]
theorem lenC (a b:Nat):(bif decide ((a:Int)<(b:Int))then some (-1:Int)else bif decide ((a:Int)>(b:Int))then some 1 else some 0)=some (if a<b then-1 else if a>b then 1 else 0):=by
 rcases Nat.lt_trichotomy a b with h|h|h
 · have:(a:Int)<b:=by omega
   simp[h,this]
 · subst h;simp
 · have h1:¬(a:Int)<b:=by omega
   have h2:(b:Int)<a:=by omega
   have h3:¬a<b:=by omega
   simp[h1,h2,h3,h]
theorem q5w (x y:LU)(hx:x.length<=9223372036854775807)(hy:y.length<=9223372036854775807):qne x y=some (cmpN x y):=by
 rw[qbdj]
 unfold qoi cmpN
 rw[ql4 x hx,oB_s,ql4 y hy,oB_s,qbej x hx,oB_s,qbej y hy,oB_s,q34]
 have hlx:=qqk (x:=x)
 have hly:=qqk (x:=y)
 have hL:=qbjz (ql x) (ql y) (by omega) (by omega) (fun _=>(bif(decide (((avS (ql x)).length:Int)<((avS (ql y)).length:Int)))then(some (-1:Int))else(bif(decide (((avS (ql x)).length:Int)>((avS (ql y)).length:Int)))then(some (1:Int))else(some (0:Int))))) FU 0 (by omega) (by omega) (qek (by omega))
 rw[show((0+1:Nat):Int)=1 from rfl]at hL
 rw[hL]
 cases qbc x<;>cases qbc y<;>simp only[Bool.not_true,Bool.not_false,Bool.and_true,Bool.and_false,Bool.and_self,cond_t,cond_f,qbg3,oB_s,and_self,if_true,Bool.true_eq_false,Bool.false_eq_true,and_false,false_and,if_false]
 simp only[List.drop_zero]
 unfold cmpR
 cases cmpZ (ql x).reverse (ql y).reverse with
 |some c=>rfl
 |none=>
  simp only[avS,List.length_map,Option.getD_none,List.length_reverse]
  exact lenC _ _
theorem qbj0:∀(a b:List (List UInt8)),cmpZ a b=if h:comm a b<a.length/\comm a b<b.length then some (cmpS (a[comm a b]'h.1) (b[comm a b]'h.2))else none
 |[],b=>by simp[cmpZ,comm]
 |a::r,[]=>by simp[cmpZ,comm]
 |a::r,b::s=>by
  unfold cmpZ comm
  by_cases e:a=b
  · subst e
    rw[if_pos (qjb.2 rfl),qbj0 r s]
    simp only[if_true]
    by_cases h:comm r s<r.length/\comm r s<s.length
    · rw[dif_pos h,dif_pos (by simp;omega)]
      simp
    · rw[dif_neg h,dif_neg (by simp;omega)]
  · rw[if_neg (fun h=>e (qjb.1 h))]
    simp[e]
theorem qbrv (x:LU):(qh2 x).2=qbc x:=rfl
theorem qbg5 (x y:LU)(hx:x.length<=9223372036854775807)(hy:y.length<=9223372036854775807):qmu x y=some (cmpN x y):=by
 rw[q7e]
 unfold qkr cmpN
 rw[qx1 x hx,oB_s,qx1 y hy,oB_s]
 simp only[qbrv,qbwu,oB_s]
 have hlx:=qqk (x:=x)
 have hly:=qqk (x:=y)
 rw[show(qh2 x).1=ql x from rfl,show(qh2 y).1=ql y from rfl,qbmz _ _ (by omega) (by omega),oB_s]
 cases qbc x<;>cases qbc y<;>simp only[Bool.not_true,Bool.not_false,Bool.or_true,Bool.or_false,Bool.or_self,cond_t,cond_f,and_self,if_true,Bool.true_eq_false,Bool.false_eq_true,and_false,false_and,if_false]
 have hax:(avS (ql x)).length=(ql x).length:=by simp[avS]
 have hay:(avS (ql y)).length=(ql y).length:=by simp[avS]
 rw[hax,hay]
 unfold cmpR
 rw[qbj0]
 by_cases h:comm (ql x).reverse (ql y).reverse<(ql x).length/\comm (ql x).reverse (ql y).reverse<(ql y).length
 · have e1:(decide (((comm (ql x).reverse (ql y).reverse:Nat):Int)<((ql x).length:Int))&&decide (((comm (ql x).reverse (ql y).reverse:Nat):Int)<((ql y).length:Int)))=true:=by simp;omega
   rw[e1,cond_t,dif_pos (by simpa using h)]
   rw[w64 (i:=((ql x).length:Int)-1) (by omega) (by omega),w64 (by omega) (by omega),qbgo (j:=(ql x).length-1-comm (ql x).reverse (ql y).reverse) (by omega),qve _ _ h.1,oB_s]
   rw[show fitC [.s] (AV.str ((ql x).reverse[comm (ql x).reverse (ql y).reverse]'(by simpa using h.1))).cells=true from rfl,cond_t]
   rw[w64 (i:=((ql y).length:Int)-1) (by omega) (by omega),w64 (by omega) (by omega),qbgo (j:=(ql y).length-1-comm (ql x).reverse (ql y).reverse) (by omega),qve _ _ h.2,oB_s]
   rw[show fitC [.s] (AV.str ((ql y).reverse[comm (ql x).reverse (ql y).reverse]'(by simpa using h.2))).cells=true from rfl,cond_t]
   rfl
 · have e1:(decide (((comm (ql x).reverse (ql y).reverse:Nat):Int)<((ql x).length:Int))&&decide (((comm (ql x).reverse (ql y).reverse:Nat):Int)<((ql y).length:Int)))=false:=by
    rw[Bool.and_eq_false_iff];simp;omega
   rw[e1,cond_f,dif_neg (by simpa using h)]
   simp only[Option.getD_none,List.length_reverse]
   exact lenC _ _
theorem qbwv (v:Bool)(hi lo:Int)(w:Bool)(whi wlo:Int):cmpA v hi lo w whi wlo=cmpP v hi lo 0 w whi wlo 0:=by
 unfold cmpP
 cases h:(cmpA v hi lo w whi wlo != 0)
 · simp at h;simp[h]
 · simp
theorem qbpw (v:Bool)(hi lo:Int)(w:Bool)(whi wlo:Int):(cmpA v hi lo w whi wlo<0/\ltP v hi lo 0 w whi wlo 0)\/(cmpA v hi lo w whi wlo=0/\v=w/\hi=whi/\lo=wlo)\/(cmpA v hi lo w whi wlo>0/\ltP w whi wlo 0 v hi lo 0):=by
 rw[qbwv]
 rcases qxs v hi lo 0 w whi wlo 0 with h|⟨h1,h2,h3,h4,_⟩|h
 · exact .inl h
 · exact .inr (.inl ⟨h1,h2,h3,h4⟩)
 · exact .inr (.inr h)
def qbm0 (y:AV):Prop:=fitC qj y.cells=true/\uok (gI y.cells 2)/\uok (gI y.cells 3)/\(gS y.cells 0).length<=9223372036854775807
def qnn (l:LA):Prop:=l.length<=9223372036854775807/\∀y,y∈l->qbm0 y
def mkH (n:LU)(v:Bool)(hi lo t:Int):AV:=.agg [(.str n),(.bool v),(.int .u64 hi),(.int .u64 lo),(.int .i64 t)]
theorem qbxl {cs:LA}(h:fitC qj cs=true):cs=(mkH (gS cs 0) (gB cs 1) (gI cs 2) (gI cs 3) (gI cs 4)).cells:=by
 unfold qj at h
 obtain⟨x0,r,rfl,h0,h⟩:=qwj h
 obtain⟨x1,r,rfl,h1,h⟩:=qwj h
 obtain⟨x2,r,rfl,h2,h⟩:=qwj h
 obtain⟨x3,r,rfl,h3,h⟩:=qwj h
 obtain⟨x4,r,rfl,h4,h⟩:=qwj h
 have:=qbtk h
 subst this
 cases x0<;>simp[fitL]at h0
 cases x1<;>simp[fitL]at h1
 cases x2<;>simp[fitL]at h2
 cases x3<;>simp[fitL]at h3
 cases x4<;>simp[fitL]at h4
 subst h2 h3 h4
 rfl
theorem qbm1 {y:AV}(h:fitC qj y.cells=true):mkH (gS y.cells 0) (gB y.cells 1) (gI y.cells 2) (gI y.cells 3) (gI y.cells 4)=y:=by
 have h5:=qbxl h
 cases y with
 |agg cs=>exact congrArg AV.agg h5.symm
 |_=>
  exfalso
  have:=congrArg List.length h5
  simp[AV.cells,mkH]at this
def qd2 (n:LU)(v:Bool)(hi lo:Int)(m:LU)(w:Bool)(whi wlo:Int):Int:=bif(cmpA v hi lo w whi wlo != 0)then cmpA v hi lo w whi wlo else cmpN n m
def cmpH (y z:AV):Int:=qd2 (gS y.cells 0) (gB y.cells 1) (gI y.cells 2) (gI y.cells 3) (gS z.cells 0) (gB z.cells 1) (gI z.cells 2) (gI z.cells 3)
def ltHr (n:LU)(v:Bool)(hi lo:Int)(m:LU)(w:Bool)(whi wlo:Int):Prop:=ltP v hi lo 0 w whi wlo 0\/(v=w/\hi=whi/\lo=wlo/\cmpN n m<0)
def ltH (y z:AV):Prop:=ltHr (gS y.cells 0) (gB y.cells 1) (gI y.cells 2) (gI y.cells 3) (gS z.cells 0) (gB z.cells 1) (gI z.cells 2) (gI z.cells 3)
theorem qxt (n:LU)(v:Bool)(hi lo:Int)(m:LU)(w:Bool)(whi wlo:Int):
 (qd2 n v hi lo m w whi wlo<0/\ltHr n v hi lo m w whi wlo)\/(qd2 n v hi lo m w whi wlo=0/\n=m/\v=w/\hi=whi/\lo=wlo)\/(qd2 n v hi lo m w whi wlo>0/\ltHr m w whi wlo n v hi lo):=by
 unfold qd2
 rcases qbpw v hi lo w whi wlo with⟨h1,h2⟩|⟨h1,rfl,rfl,rfl⟩|⟨h1,h2⟩
 · have:(cmpA v hi lo w whi wlo != 0)=true:=by simp;omega
   rw[this,cond_t]
   exact .inl ⟨h1,.inl h2⟩
 · rw[h1,show((0:Int) != 0)=false from rfl,cond_f]
   have hs:=qbrt n m
   rcases qbru n m with h|h|h
   · exact .inl ⟨by omega,.inr ⟨rfl,rfl,rfl,by omega⟩⟩
   · exact .inr (.inl ⟨h,qbjy.1 h,rfl,rfl,rfl⟩)
   · exact .inr (.inr ⟨by omega,.inr ⟨rfl,rfl,rfl,by omega⟩⟩)
 · have:(cmpA v hi lo w whi wlo != 0)=true:=by simp;omega
   rw[this,cond_t]
   exact .inr (.inr ⟨h1,.inl h2⟩)
theorem qjc {n:LU}{v:Bool}{hi lo:Int}:¬ltHr n v hi lo n v hi lo:=fun h=>by
 rcases h with h|⟨_,_,_,h⟩
 · exact qhm h
 · rw[qbjy.2 rfl]at h;omega
theorem qbae {x y z:AV}(h1:ltH x y)(h2:ltH y z):ltH x z:=by
 unfold ltH at*
 rcases h1 with h1|⟨a1,a2,a3,a4⟩
 · rcases h2 with h2|⟨b1,b2,b3,b4⟩
   · exact .inl (q95 h1 h2)
   · left;rw[<-b1,<-b2,<-b3];exact h1
 · rcases h2 with h2|⟨b1,b2,b3,b4⟩
   · left;rw[a1,a2,a3];exact h2
   · exact .inr ⟨a1.trans b1,a2.trans b2,a3.trans b3,qbpv a4 b4⟩
theorem qbg6 {y:AV}:¬ltH y y:=qjc
theorem qbg7 {y z:AV}:ltH y z↔cmpH y z<0:=by
 unfold ltH cmpH
 rcases qxt (gS y.cells 0) (gB y.cells 1) (gI y.cells 2) (gI y.cells 3) (gS z.cells 0) (gB z.cells 1) (gI z.cells 2) (gI z.cells 3)with⟨h1,h2⟩|⟨h1,h2,h3,h4,h5⟩|⟨h1,h2⟩
 · exact⟨fun _=>h1,fun _=>h2⟩
 · refine⟨fun h=> ?_,fun h=>by omega⟩
   rw[h2,h3,h4,h5]at h
   exact absurd h qjc
 · refine⟨fun h=> ?_,fun h=>by omega⟩
   exact absurd (qbae (x:=y) (y:=z) (z:=y) h h2) qbg6
def samH (y z:AV):Bool:=gS y.cells 0==gS z.cells 0&&((gB y.cells 1==gB z.cells 1)&&((gI y.cells 2==gI z.cells 2)&&((gI y.cells 3==gI z.cells 3)&&true)))
def atH (n:LU)(v:Bool)(hi lo:Int)(y:AV):Bool:=gS y.cells 0==n&&((gB y.cells 1==v)&&((gI y.cells 2==hi)&&((gI y.cells 3==lo)&&true)))
theorem q3p {n:LU}{v:Bool}{hi lo:Int}{y:AV}:atH n v hi lo y=true↔gS y.cells 0=n/\gB y.cells 1=v/\gI y.cells 2=hi/\gI y.cells 3=lo:=by
 unfold atH;simp[and_assoc]
theorem qx2 {n:LU}{v:Bool}{hi lo:Int}{y:AV}:atH n v hi lo y=true↔qd2 (gS y.cells 0) (gB y.cells 1) (gI y.cells 2) (gI y.cells 3) n v hi lo=0:=by
 rw[q3p]
 rcases qxt (gS y.cells 0) (gB y.cells 1) (gI y.cells 2) (gI y.cells 3) n v hi lo with⟨h1,h2⟩|⟨h1,h2,h3,h4,h5⟩|⟨h1,h2⟩
 · refine⟨fun h=> ?_,fun h=>by omega⟩
   rw[h.1,h.2.1,h.2.2.1,h.2.2.2]at h2
   exact absurd h2 qjc
 · exact⟨fun _=>h1,fun _=>⟨h2,h3,h4,h5⟩⟩
 · refine⟨fun h=> ?_,fun h=>by omega⟩
   rw[h.1,h.2.1,h.2.2.1,h.2.2.2]at h2
   exact absurd h2 qjc
theorem qbg8 (n:LU)(v:Bool)(hi lo:Int)(m:LU)(w:Bool)(whi wlo:Int):(qd2 n v hi lo m w whi wlo<0↔qd2 m w whi wlo n v hi lo>0)/\(qd2 n v hi lo m w whi wlo=0↔qd2 m w whi wlo n v hi lo=0):=by
 have tr:∀{n v hi lo m w whi wlo},ltHr n v hi lo m w whi wlo->ltHr m w whi wlo n v hi lo->False:=fun {n v hi lo m w whi wlo} h1 h2=>
  qbg6 (qbae (x:=mkH n v hi lo 0) (y:=mkH m w whi wlo 0) (z:=mkH n v hi lo 0) h1 h2)
 rcases qxt n v hi lo m w whi wlo with⟨h1,h2⟩|⟨h1,e1,e2,e3,e4⟩|⟨h1,h2⟩<;>rcases qxt m w whi wlo n v hi lo with⟨k1,k2⟩|⟨k1,k3,k4,k5,k6⟩|⟨k1,k2⟩
 · exact(tr h2 k2).elim
 · subst k3 k4 k5 k6;exact absurd h2 qjc
 · exact⟨by omega,by omega⟩
 · subst e1 e2 e3 e4;exact absurd k2 qjc
 · exact⟨by omega,by omega⟩
 · subst e1 e2 e3 e4;exact absurd k2 qjc
 · exact⟨by omega,by omega⟩
 · subst k3 k4 k5 k6;exact absurd h2 qjc
 · exact(tr h2 k2).elim
section
variable (n:LU)(v:Bool)(hi lo t:Int)(m:LU)(w:Bool)(whi wlo s:Int)(hn:n.length<=9223372036854775807)(hm:m.length<=9223372036854775807)
include hn hm
theorem qbto:qwv n v hi lo t m w whi wlo s=some (qd2 n v hi lo m w whi wlo):=by
 rw[qbdk];unfold qoj qd2
 rw[qbic,oB_s,q5w n m hn hm,oB_s]
 cases(cmpA v hi lo w whi wlo != 0)<;>rfl
theorem qbm2:qpa n v hi lo t m w whi wlo s=some (qd2 n v hi lo m w whi wlo):=by
 rw[qbe4];unfold qp3 qd2
 rw[qbic,oB_s,q5w n m hn hm,oB_s]
 cases(cmpA v hi lo w whi wlo != 0)<;>rfl
theorem qbtp:qts n v hi lo t m w whi wlo s=some (decide (qd2 n v hi lo m w whi wlo<0)):=by
 rw[q81];unfold qll qd2
 rw[qboh,oB_s,qbg5 n m hn hm]
 by_cases h:cmpA v hi lo w whi wlo<0
 · have:(cmpA v hi lo w whi wlo != 0)=true:=by simp;omega
   simp[h,this]
 · by_cases h2:cmpA v hi lo w whi wlo=0
   · simp[h2]
   · have:(cmpA v hi lo w whi wlo != 0)=true:=by simpa using h2
     have h3:(cmpA v hi lo w whi wlo==0)=false:=by simpa using h2
     simp[h,h3,this]
end
def qxu (x:LU):Bool:=x.head? ==some 42
def qwm (x:LU):Bool:= !qbc x||qxu x
theorem qbxm {x:LU}(h:qbc x=true):∃c r,x=c::r:=by
 rcases ql3 h with⟨rfl,_⟩|⟨_,h2,_⟩
 · exact⟨_,_,rfl⟩
 · cases x with
   |nil=>simp at h2
   |cons c r=>exact⟨c,r,rfl⟩
theorem qbvo {R:Type}{x:LU}(h:qbc x=true)(k:Bool->Option R):(oB (ixB x (0:Int)) fun c=>k ((c.toNat:Int)==(42:Int)))=k (qxu x):=by
 obtain⟨c,r,rfl⟩:=qbxm h
 simp only[ixB_zero,List.getElem?_cons_zero,oB_s,qxu,List.head?_cons]
 congr 1
 rw[Bool.eq_iff_iff]
 simp only[beq_iff_eq,Option.some.injEq]
 constructor
 · intro h;have:c.toNat=42:=by omega
   exact UInt8.toNat_inj.1 this
 · intro h;rw[h];rfl
theorem qbcx {R:Type}{x:LU}(h:qbc x=true)(k:Bool->Option R):(bif(decide (((avS (ql x)).length:Int)>(0:Int)))then(oB (ixB (avS (ql x)) (0:Int)) fun y2=>(bif fitC [.s] y2.cells then(k ((gS y2.cells 0)==([42]:List UInt8)))else none))else k false)=k (qxu x):=by
 have hs:=qbrs h
 unfold qxu
 cases hl:ql x with
 |nil=>
  rw[hl]at hs
  have:(x.head? ==some 42)=false:=by
   rw[Bool.eq_false_iff]
   intro e
   have:=hs.2 (by simpa using e)
   simp at this
  simp[avS,this]
 |cons a r=>
  rw[hl]at hs
  have e:(a==[42])=(x.head? ==some 42):=by
   rw[Bool.eq_iff_iff]
   simp only[beq_iff_eq]
   rw[<-hs];simp
  have hpos:(((avS (a::r)).length:Int)>0):=by simp[avS]
  rw[decide_eq_true hpos,cond_t]
  simp only[ixB_zero]
  show k (a==[42])=_
  rw[e]
def q3q (n:LU)(v:Bool)(hi lo t:Int):Int:=bif qwm n then 2 else bif !qel v hi lo then 3 else bif(decide (t<0)||decide (t>2147483647))then 1 else 0
theorem qbtq (n:LU)(v:Bool)(hi lo t:Int)(hn:n.length<=9223372036854775807):qwu n v hi lo t=some (q3q n v hi lo t):=by
 rw[qbdi];unfold qog
 rw[q6o];unfold qkc
 rw[ql4 n hn,oB_s,qbec,oB_s]
 unfold q3q qwm
 cases h:qbc n
 · simp
 · simp only[Bool.not_true,cond_f,Bool.false_or]
   rw[qbvo h (fun b=>bif b then some 2 else bif !qel v hi lo then some 3 else bif(decide (t<0)||decide (t>2147483647))then some 1 else some 0)]
   cases qxu n<;>simp only[cond_t,cond_f]
   cases qel v hi lo<;>simp only[Bool.not_true,Bool.not_false,cond_t,cond_f]
   cases(decide (t<0)||decide (t>2147483647))<;>rfl
theorem qbrw (n:LU)(hn:n.length<=9223372036854775807)(h:qbc n=true):qr8 n=some (qxu n):=by
 rw[q7a];unfold qko
 rw[qbrr n hn,oB_s]
 exact qbcx h some
theorem qbtr (n:LU)(hn:n.length<=9223372036854775807)(h:qbc n=true):qwx n=some (qxu n):=by
 rw[qbdn];unfold qol
 rw[qbej n hn,oB_s]
 exact qbcx h some
def q3r (y:AV):Int:=q3q (gS y.cells 0) (gB y.cells 1) (gI y.cells 2) (gI y.cells 3) (gI y.cells 4)
def qbg9 (p:Option AV)(y:AV):Int:=match p with
 |none=>0
 |some z=>bif decide (cmpH y z<0)then 7 else bif(cmpH y z==0)then 12 else 0
def errH (p:Option AV)(y:AV):Int:=bif q3r y != 0 then q3r y else qbg9 p y
def chkH:Option AV->List AV->Int
 |_,[]=>0
 |p,y::r=>bif errH p y != 0 then errH p y else chkH (some y) r
def qnh (l:LA):Int:=bif decide ((l.length:Int)>256)then 9 else chkH none l
def qe0 (l:LA)(i:Nat):Option AV:=match i with
 |0=>none
 |i+1=>l[i]?
theorem qbm3 (l:LA)(hl:qnn l):qrl l=some (qnh l):=by
 rw[qbdl];unfold qok qnh
 by_cases hlen:(l.length:Int)>256
 · simp[hlen]
 · simp only[hlen,decide_false,cond_f]
   rw[q35,qbar l hl.1 (qgy l l (l.length:Int) fun _=>some 0) (fun i nx=>qgx l l (l.length:Int) i nx fun _=>some 0) (fun _ _=>rfl) (fun i r=>some (chkH (qe0 l i) r))]
   · rfl
   · intro nx;simp[qgx,chkH]
   · intro i y r nx h1 h2 h3 h4 h5
     have hy:=hl.2 y (List.mem_of_getElem? h2)
     have h6:(i:Int)<(l.length:Int):=by omega
     unfold qgx chkH
     simp only[h6,decide_true,cond_t,ixB_nat,h2,oB_s,hy.1,qbtq _ _ _ _ _ hy.2.2.2,h4,h5]
     rw[show qe0 l (i+1)=some y from h2]
     unfold errH
     rw[show q3q (gS y.cells 0) (gB y.cells 1) (gI y.cells 2) (gI y.cells 3) (gI y.cells 4)=q3r y from rfl]
     cases hf:(q3r y != 0)
     · simp only[cond_f]
       cases i with
       |zero=>simp[qe0,qbg9]
       |succ i=>
        have e0:(((i+1:Nat):Int)==0)=false:=by simp;omega
        have hw:IntKind.i64.wrap (((i+1:Nat):Int)-1)=(i:Int):=by rw[w64 (by omega) (by have:=hl.1;omega)];omega
        obtain⟨x,hx⟩:∃x,l[i]?=some x:=⟨l[i],by simp⟩
        have hxf:=hl.2 x (List.mem_of_getElem? hx)
        simp only[e0,cond_f,hw,ixB_nat,hx,oB_s,hxf.1,cond_t,qbto _ _ _ _ _ _ _ _ _ _ hy.2.2.2 hxf.2.2.2]
        rw[show qe0 l (i+1)=some x from hx]
        unfold qbg9
        rw[show qd2 (gS y.cells 0) (gB y.cells 1) (gI y.cells 2) (gI y.cells 3) (gS x.cells 0) (gB x.cells 1) (gI x.cells 2) (gI x.cells 3)=cmpH y x from rfl]
        by_cases c1:cmpH y x<0
        · simp[c1,hf]
        · by_cases c2:cmpH y x=0
          · simp[c2,hf]
          · have c3:(cmpH y x==0)=false:=by simpa using c2
            simp[c1,c3,hf]
     · simp[hf]
theorem qbpx (l:LA)(hl:qnn l):qut l=some (qnh l):=by
 rw[qbb5];unfold qmv qnh
 by_cases hlen:(l.length:Int)>256
 · simp[hlen]
 · simp only[hlen,decide_false,cond_f]
   rw[q2v,qbar l hl.1 (qfy l fun _=>some 0) (fun i nx=>qfx l i nx fun _=>some 0) (fun _ _=>rfl) (fun i r=>some (chkH (qe0 l i) r))]
   · rfl
   · intro nx;simp[qfx,chkH]
   · intro i y r nx h1 h2 h3 h4 h5
     have hy:=hl.2 y (List.mem_of_getElem? h2)
     have h6:(i:Int)<(l.length:Int):=by omega
     unfold qfx chkH
     simp only[h6,decide_true,cond_t,ixB_nat,h2,oB_s,hy.1,h4,h5]
     rw[show qe0 l (i+1)=some y from h2]
     have hJ27:∀kn:Bool->Option Int,qpe l (i:Int) (gS y.cells 0) (gB y.cells 1) (gI y.cells 2) (gI y.cells 3) (gI y.cells 4) kn=kn (qwm (gS y.cells 0)):=fun kn=>by
      rw[q2q];unfold qi1 qwm
      rw[qbjt _ hy.2.2.2,oB_s]
      cases h:qbc (gS y.cells 0)
      · simp
      · rw[qbrw _ hy.2.2.2 h];simp
     rw[hJ27,q02,oB_s]
     have hJ51:∀kn:Bool->Option Int,qpf l (i:Int) (gS y.cells 0) (gB y.cells 1) (gI y.cells 2) (gI y.cells 3) (gI y.cells 4) kn=kn (match qe0 l i with
      |none=>false
      |some x=>decide (cmpH y x<0)):=fun kn=>by
      rw[q2s];unfold qi2
      cases i with
      |zero=>simp[qe0]
      |succ i=>
       have hpos:((i+1:Nat):Int)>0:=by omega
       have hw:IntKind.i64.wrap (((i+1:Nat):Int)-1)=(i:Int):=by rw[w64 (by omega) (by have:=hl.1;omega)];omega
       obtain⟨x,hx⟩:∃x,l[i]?=some x:=⟨l[i],by simp⟩
       have hxf:=hl.2 x (List.mem_of_getElem? hx)
       simp only[hpos,decide_true,cond_t,hw,ixB_nat,hx,oB_s,hxf.1,qbtp _ _ _ _ _ _ _ _ _ _ hy.2.2.2 hxf.2.2.2]
       rw[show qe0 l (i+1)=some x from hx]
       rfl
     have hJ58:∀kn:Bool->Option Int,qpg l (i:Int) (gS y.cells 0) (gB y.cells 1) (gI y.cells 2) (gI y.cells 3) (gI y.cells 4) kn=kn (match qe0 l i with
      |none=>false
      |some x=>samH y x):=fun kn=>by
      rw[q2u];unfold qi3
      cases i with
      |zero=>simp[qe0]
      |succ i=>
       have hpos:((i+1:Nat):Int)>0:=by omega
       have hw:IntKind.i64.wrap (((i+1:Nat):Int)-1)=(i:Int):=by rw[w64 (by omega) (by have:=hl.1;omega)];omega
       obtain⟨x,hx⟩:∃x,l[i]?=some x:=⟨l[i],by simp⟩
       have hxf:=hl.2 x (List.mem_of_getElem? hx)
       simp only[hpos,decide_true,cond_t,hw,ixB_nat,hx,oB_s,hxf.1]
       rw[show qe0 l (i+1)=some x from hx]
       unfold samH
       simp only
       cases h:(gS y.cells 0==gS x.cells 0)<;>simp only[cond_t,cond_f,Bool.false_and,Bool.true_and]
     rw[hJ51,hJ58]
     unfold errH q3r q3q
     cases qwm (gS y.cells 0)<;>simp only[cond_t,cond_f]
     · cases qel (gB y.cells 1) (gI y.cells 2) (gI y.cells 3)<;>simp only[Bool.not_true,Bool.not_false,cond_t,cond_f]
       · rfl
       · cases(decide (gI y.cells 4<0)||decide (gI y.cells 4>2147483647))<;>simp only[cond_t,cond_f]
         · unfold qbg9
           cases hp:qe0 l i with
           |none=>simp
           |some x=>
            simp only
            have hsam:samH y x=(cmpH y x==0):=by
             rw[Bool.eq_iff_iff]
             have:=qx2 (n:=gS x.cells 0) (v:=gB x.cells 1) (hi:=gI x.cells 2) (lo:=gI x.cells 3) (y:=y)
             rw[show samH y x=atH (gS x.cells 0) (gB x.cells 1) (gI x.cells 2) (gI x.cells 3) y from rfl,this]
             simp[cmpH]
            rw[hsam]
            by_cases c1:cmpH y x<0
            · simp[c1]
            · by_cases c2:cmpH y x=0
              · simp[c2]
              · have c3:(cmpH y x==0)=false:=by simpa using c2
                simp[c1,c3]
         · rfl
     · rfl
def blkd (l:LA)(v:Bool)(hi lo:Int):Bool:=(qsd (fun y=>qhl (gB y.cells 0) (gI y.cells 1) (gI y.cells 2) (gI y.cells 3) v hi lo) l).2&&
 ((gI (qsd (fun y=>qhl (gB y.cells 0) (gI y.cells 1) (gI y.cells 2) (gI y.cells 3) v hi lo) l).1.cells 4==2)||(gI (qsd (fun y=>qhl (gB y.cells 0) (gI y.cells 1) (gI y.cells 2) (gI y.cells 3) v hi lo) l).1.cells 4==3))
theorem qbm4 (x:AV×Bool):(bif x.2 then(bif((gI x.1.cells 4)==(2:Int))then(some true)else(some ((gI x.1.cells 4)==(3:Int))))else(some false))=some (x.2&&((gI x.1.cells 4==2)||(gI x.1.cells 4==3))):=by
 cases x.2
 · rfl
 · simp only[cond_t,Bool.true_and]
   cases(gI x.1.cells 4==2)<;>rfl
theorem q5x (l:LA)(hl:qbv l)(n:LU)(v:Bool)(hi lo t:Int):qj7 l n v hi lo t=some (blkd l v hi lo):=by
 rw[q7w];unfold qk7 blkd
 rw[qbtc l hl,oB_s,qbm4]
theorem qbrx (l:LA)(hl:qbv l)(v:Bool)(hi lo:Int)(u1:uok hi)(u2:uok lo):qr9 l v hi lo=some (blkd l v hi lo):=by
 rw[q7f];unfold qks blkd
 rw[qbrm l hl v hi lo u1 u2,oB_s,qbm4]
def qbww (z:AV):Prop:=fitC [.s] z.cells=true/\(gS z.cells 0).length<=9223372036854775807
def qx3 (l:LA):Prop:=l.length<=9223372036854775807/\∀z,z∈l->qbww z
def qql (zs:LA)(n:LU):Bool:=zs.any fun z=>qra n (gS z.cells 0)
theorem qbvp (zs:LA)(hz:qx3 zs)(n:LU)(hn:n.length<=9223372036854775807):quv zs n=some (qql zs n):=by
 rw[qbb8];unfold qmx qql
 rw[q4o,qja zs hz.1 (qg0 zs n fun _=>some false) (fun i nx=>qgz zs n i nx fun _=>some false) (fun _ _=>rfl) (fun r=>some (r.any fun z=>qra n (gS z.cells 0)))]
 · intro nx;simp[qgz]
 · intro i z r nx h1 h2 h3 h4 h5
   have hy:=hz.2 z (List.mem_of_getElem? h2)
   have h6:(i:Int)<(zs.length:Int):=by omega
   unfold qgz
   simp only[h6,decide_true,cond_t,ixB_nat,h2,oB_s,hy.1,h4,h5,qbtm n _ hn hy.2,List.any_cons]
   cases qra n (gS z.cells 0)<;>simp
theorem qbaf (zs:LA)(hz:qx3 zs)(n:LU)(hn:n.length<=9223372036854775807):qlt zs n=some (qql zs n):=by
 rw[qbbo];unfold qmg
 rw[qhu];unfold qbr
 rw[qir];unfold qbw
 rw[qhs]
 have key:=qem (σ:=List UInt8) zs hz.1 (fun k i s=>qbe zs (zs.length:Int) (fun b0_0q1=>(fun v4q1 b0_0q2=>(fun v4q1 b0_0q2=>(some v4q1:Option Bool)) (decide (v4q1>=0)) b0_0q2) (-1:Int) b0_0q1) (fun v4q1 b0_0q2=>(fun v4q1 b0_0q2=>(some v4q1:Option Bool)) (decide (v4q1>=0)) b0_0q2) k i s)
  (fun i s nx=>qbd zs (zs.length:Int) i s nx (fun b0_0q1=>(fun v4q1 b0_0q2=>(fun v4q1 b0_0q2=>(some v4q1:Option Bool)) (decide (v4q1>=0)) b0_0q2) (-1:Int) b0_0q1) (fun v4q1 b0_0q2=>(fun v4q1 b0_0q2=>(some v4q1:Option Bool)) (decide (v4q1>=0)) b0_0q2)) (fun _ _ _=>rfl)
  (fun _ s=>s=n) (fun r _=>some (r.any fun z=>qra n (gS z.cells 0))) ?_ ?_ n FU rfl (qek (by have:=hz.1;omega))
 · exact key
 · intro s nx hs;simp[qbd]
 · intro i z r s nx h1 h2 h3 h4 hs h5
   subst hs
   have hy:=hz.2 z (List.mem_of_getElem? h2)
   have h6:(i:Int)<(zs.length:Int):=by omega
   unfold qbd
   simp only[h6,decide_true,cond_t,ixB_nat,h2,oB_s,hy.1,h4]
   rw[q6s];unfold qkd
   rw[qbvn s _ hn hy.2,oB_s]
   show(bif qra s (gS z.cells 0)then some (decide ((i:Int)>=0))else nx ((i+1:Nat):Int) s)=_
   rw[h5 s rfl,List.any_cons]
   have:decide ((i:Int)>=0)=true:=by simp
   cases qra s (gS z.cells 0)<;>simp[this]
def badZ (p:Option AV)(z:AV):Bool:= !qbc (gS z.cells 0)||match p with
 |none=>false
 |some x=>decide (cmpN (gS x.cells 0) (gS z.cells 0)>=0)
def chkZ (k:Int):Option AV->List AV->Int
 |_,[]=>k
 |p,z::r=>bif badZ p z then 2 else chkZ k (some z) r
def chkS (b z:LA):List AV->Int
 |[]=>0
 |h::r=>bif !blkd b (gB h.cells 1) (gI h.cells 2) (gI h.cells 3)then 25 else bif !qql z (gS h.cells 0)then 13 else chkS b z r
def qbha (b h z:LA):Int:=bif qwh b != 0 then qwh b else bif qnh h != 0 then qnh h else bif decide ((z.length:Int)>32)then 9 else chkZ (chkS b z h) none z
section
variable (b h z:LA)(hb:qbv b)(hh:qnn h)(hz:qx3 z)
include hb hh hz
theorem qbwx:qr4 h (h.length:Int) b h z (fun _=>some 0) FU 0=some (chkS b z h):=by
 rw[q64,qja h hh.1 (qh0 h (h.length:Int) b h z fun _=>some 0) (fun i nx=>qhz h (h.length:Int) i b h z nx fun _=>some 0) (fun _ _=>rfl) (fun r=>some (chkS b z r))]
 · intro nx;simp[qhz,chkS]
 · intro i y r nx h1 h2 h3 h4 h5
   have hy:=hh.2 y (List.mem_of_getElem? h2)
   have h6:(i:Int)<(h.length:Int):=by omega
   unfold qhz chkS
   simp only[h6,decide_true,cond_t,ixB_nat,h2,oB_s,hy.1,h4,h5,q5x b hb,qbaf z hz _ hy.2.2.2]
   cases blkd b (gB y.cells 1) (gI y.cells 2) (gI y.cells 3)<;>simp only[Bool.not_true,Bool.not_false,cond_t,cond_f]
   cases qql z (gS y.cells 0)<;>rfl
theorem qbwy:qpi b h z (fun _=>some 0) FU 0=some (chkS b z h):=by
 rw[q21,qja h hh.1 (qf3 b h z fun _=>some 0) (fun i nx=>qf2 i b h z nx fun _=>some 0) (fun _ _=>rfl) (fun r=>some (chkS b z r))]
 · intro nx;simp[qf2,chkS]
 · intro i y r nx h1 h2 h3 h4 h5
   have hy:=hh.2 y (List.mem_of_getElem? h2)
   have h6:(i:Int)<(h.length:Int):=by omega
   unfold qf2 chkS
   simp only[h6,decide_true,cond_t,ixB_nat,h2,oB_s,hy.1,h4,h5,qbrx b hb _ _ _ hy.2.1 hy.2.2.1,qbvp z hz _ hy.2.2.2]
   cases blkd b (gB y.cells 1) (gI y.cells 2) (gI y.cells 3)<;>simp only[Bool.not_true,Bool.not_false,cond_t,cond_f]
   cases qql z (gS y.cells 0)<;>rfl
theorem qbts:qyr b h z=some (qbha b h z):=by
 rw[qbfb];unfold qp8 qbha
 rw[qbs5 b hb,oB_s,qbm3 h hh,oB_s]
 cases(qwh b != 0)
 case true=>rfl
 cases(qnh h != 0)
 case true=>rfl
 simp only[cond_f]
 by_cases hlen:(z.length:Int)>32
 · simp[hlen]
 · simp only[hlen,decide_false,cond_f]
   rw[qbwx b h z hb hh hz]
   rw[q63,qbar z hz.1 (qhy z (z.length:Int) b h z fun _=>some (chkS b z h)) (fun i nx=>qhx z (z.length:Int) i b h z nx fun _=>some (chkS b z h)) (fun _ _=>rfl) (fun i r=>some (chkZ (chkS b z h) (qe0 z i) r))]
   · rfl
   · intro nx;simp[qhx,chkZ]
   · intro i y r nx h1 h2 h3 h4 h5
     have hy:=hz.2 y (List.mem_of_getElem? h2)
     have h6:(i:Int)<(z.length:Int):=by omega
     unfold qhx chkZ
     simp only[h6,decide_true,cond_t,ixB_nat,h2,oB_s,hy.1,h4,h5]
     rw[show qe0 z (i+1)=some y from h2]
     have hJ:∀kn:Bool->Option Int,qr3 (i:Int) (gS y.cells 0) z (z.length:Int) (i:Int) b h z kn=kn (badZ (qe0 z i) y):=fun kn=>by
      rw[q62];unfold qkh badZ
      rw[ql4 _ hy.2,oB_s]
      cases qbc (gS y.cells 0)
      · rfl
      · simp only[Bool.not_true,cond_f,Bool.false_or]
        cases i with
        |zero=>simp[qe0]
        |succ i=>
         have hpos:((i+1:Nat):Int)>0:=by omega
         have hw:IntKind.i64.wrap (((i+1:Nat):Int)-1)=(i:Int):=by rw[w64 (by omega) (by have:=hz.1;omega)];omega
         obtain⟨x,hx⟩:∃x,z[i]?=some x:=⟨z[i],by simp⟩
         have hxf:=hz.2 x (List.mem_of_getElem? hx)
         simp only[hpos,decide_true,cond_t,hw,ixB_nat,hx,oB_s,hxf.1,q5w _ _ hxf.2 hy.2]
         rw[show qe0 z (i+1)=some x from hx]
     rw[hJ]
     cases badZ (qe0 z i) y<;>rfl
theorem qbry:quw b h z=some (qbha b h z):=by
 rw[qbb9];unfold qmy qbha
 rw[qbrh b hb,oB_s,qbpx h hh,oB_s]
 cases(qwh b != 0)
 case true=>rfl
 cases(qnh h != 0)
 case true=>rfl
 simp only[cond_f]
 by_cases hlen:(z.length:Int)>32
 · simp[hlen]
 · simp only[hlen,decide_false,cond_f]
   rw[qbwy b h z hb hh hz]
   rw[q20,qbar z hz.1 (qf1 b h z fun _=>some (chkS b z h)) (fun i nx=>qf0 i b h z nx fun _=>some (chkS b z h)) (fun _ _=>rfl) (fun i r=>some (chkZ (chkS b z h) (qe0 z i) r))]
   · rfl
   · intro nx;simp[qf0,chkZ]
   · intro i y r nx h1 h2 h3 h4 h5
     have hy:=hz.2 y (List.mem_of_getElem? h2)
     have h6:(i:Int)<(z.length:Int):=by omega
     unfold qf0 chkZ
     simp only[h6,decide_true,cond_t,h4,h5]
     rw[show qe0 z (i+1)=some y from h2]
     have hJ:∀kn:Bool->Option Int,qph (i:Int) b h z kn=kn (badZ (qe0 z i) y):=fun kn=>by
      rw[q2z];unfold qi4 badZ
      simp only[ixB_nat,h2,oB_s,hy.1,cond_t]
      rw[qbjt _ hy.2,oB_s]
      cases qbc (gS y.cells 0)
      · rfl
      · simp only[Bool.not_true,cond_f,Bool.false_or]
        cases i with
        |zero=>simp[qe0]
        |succ i=>
         have hpos:((i+1:Nat):Int)>0:=by omega
         have hw:IntKind.i64.wrap (((i+1:Nat):Int)-1)=(i:Int):=by rw[w64 (by omega) (by have:=hz.1;omega)];omega
         obtain⟨x,hx⟩:∃x,z[i]?=some x:=⟨z[i],by simp⟩
         have hxf:=hz.2 x (List.mem_of_getElem? hx)
         simp only[hpos,decide_true,cond_t,hw,ixB_nat,hx,oB_s,hxf.1,h2,hy.1,qbg5 _ _ hxf.2 hy.2]
         rw[show qe0 z (i+1)=some x from hx]
     rw[hJ]
     cases badZ (qe0 z i) y<;>rfl
end
def Cutt (l:LA)(n:LU)(v:Bool)(hi lo:Int)(r:Nat):Prop:=r<=l.length/\∀(k:Nat) (y:AV),l[k]?=some y->(qd2 (gS y.cells 0) (gB y.cells 1) (gI y.cells 2) (gI y.cells 3) n v hi lo<0↔k<r)
theorem qboq (y:AV)(n:LU)(v:Bool)(hi lo t:Int):cmpH y (mkH n v hi lo t)=qd2 (gS y.cells 0) (gB y.cells 1) (gI y.cells 2) (gI y.cells 3) n v hi lo:=rfl
theorem qbvq (y:AV)(n:LU)(v:Bool)(hi lo t:Int):cmpH (mkH n v hi lo t) y=qd2 n v hi lo (gS y.cells 0) (gB y.cells 1) (gI y.cells 2) (gI y.cells 3):=rfl
theorem qbhb (n:LU)(v:Bool)(hi lo:Int):∀{l:LA},l.Pairwise ltH->∃r,Cutt l n v hi lo r
 |[],_=>⟨0,Nat.le_refl _,fun k y h=>by simp at h⟩
 |y::l,hp=>by
  rw[List.pairwise_cons]at hp
  obtain⟨r,h1,h2⟩:=qbhb n v hi lo hp.2
  by_cases hc:qd2 (gS y.cells 0) (gB y.cells 1) (gI y.cells 2) (gI y.cells 3) n v hi lo<0
  · refine⟨r+1,by simp;omega,fun k z hz=> ?_⟩
    cases k with
    |zero=>simp at hz;subst hz;exact⟨fun _=>by omega,fun _=>hc⟩
    |succ k=>rw[h2 k z (by simpa using hz)];omega
  · refine⟨0,Nat.zero_le _,fun k z hz=> ?_⟩
    refine⟨fun h=> ?_,fun h=>by omega⟩
    exfalso
    cases k with
    |zero=>simp at hz;subst hz;exact hc h
    |succ k=>
     have hyz:=hp.1 z (List.mem_of_getElem? (by simpa using hz))
     rw[<-qboq z n v hi lo 0]at h
     rw[<-qboq y n v hi lo 0]at hc
     exact hc (qbg7.1 (qbae hyz (qbg7.2 h)))
theorem qbwz {i j:Nat}(h:i+j<=9223372036854775807):IntKind.i64.wrap ((IntKind.u64.wrap (IntKind.i64.wrap ((i:Int)+(j:Int)))).fdiv (2^min (1:Int).toNat IntKind.u64.bits))=(((i+j) / 2:Nat):Int):=by
 rw[w64 (i:=(i:Int)+(j:Int)) (by omega) (by omega),wu64 (by omega) (by omega)]
 have e:(2:Int)^min (1:Int).toNat IntKind.u64.bits=2:=by decide
 rw[e,Int.fdiv_eq_ediv_of_nonneg _ (by omega),w64 (by omega) (by omega)]
 omega
theorem qbek (l:LA)(hl:qnn l)(hn:l.length<=1000000)(n:LU)(v:Bool)(hi lo t:Int)(hnm:n.length<=9223372036854775807){r:Nat}(hr:Cutt l n v hi lo r)(kx:Int->Option (Int×Bool)):
 ∀(m i j:Nat),i<=r->r<=j->j<=l.length->j-i<m->qm l (l.length:Int) n v hi lo t kx m (i:Int) (j:Int)=kx (r:Int)
 |0,i,j,_,_,_,h=>by omega
 |m+1,i,j,h1,h2,h3,h4=>by
  unfold qm qbn
  by_cases hij:i<j
  · have e1:(i:Int)<(j:Int):=by omega
    rw[decide_eq_true e1,cond_t]
    have e2:=qbwz (i:=i) (j:=j) (by omega)
    rw[e2,ixB_nat]
    have hk:(i+j) / 2<l.length:=by omega
    obtain⟨y,hy⟩:∃y,l[(i+j) / 2]?=some y:=⟨l[(i+j) / 2],by simp[hk]⟩
    have hyf:=hl.2 y (List.mem_of_getElem? hy)
    rw[hy,oB_s,hyf.1,cond_t,qbm2 _ _ _ _ _ _ _ _ _ _ hyf.2.2.2 hnm,oB_s]
    have hc:=hr.2 _ y hy
    by_cases hlt:qd2 (gS y.cells 0) (gB y.cells 1) (gI y.cells 2) (gI y.cells 3) n v hi lo<0
    · rw[decide_eq_true hlt,cond_t,w64 (by omega) (by omega)]
      have:=hc.1 hlt
      have ih:=qbek l hl hn n v hi lo t hnm hr kx m ((i+j) / 2+1) j (by omega) h2 h3 (by omega)
      rw[show(((i+j) / 2:Nat):Int)+1=(((i+j) / 2+1:Nat):Int) by omega]
      exact ih
    · rw[decide_eq_false hlt,cond_f]
      have:¬(i+j) / 2<r:=fun h=>hlt (hc.2 h)
      exact qbek l hl hn n v hi lo t hnm hr kx m i ((i+j) / 2) h1 (by omega) (by omega) (by omega)
  · have e1:¬(i:Int)<(j:Int):=by omega
    rw[decide_eq_false e1,cond_f,show i=r by omega]
theorem qbm5 (l:LA)(hl:qnn l)(hn:l.length<=1000000)(hp:l.Pairwise ltH)(n:LU)(v:Bool)(hi lo t:Int)(hnm:n.length<=9223372036854775807){r:Nat}(hr:Cutt l n v hi lo r):qqy l n v hi lo t=some ((r:Int),l.any (atH n v hi lo)):=by
 rw[qbhm];unfold qrm
 rw[qeo];unfold qbb
 rw[qef]
 have:=qbek l hl hn n v hi lo t hnm hr (fun v9q1=>(bif(decide (v9q1<(l.length:Int)))then(oB (ixB l v9q1) fun y2=>(bif fitC qj y2.cells then(oB (qpa (gS y2.cells 0) (gB y2.cells 1) (gI y2.cells 2) (gI y2.cells 3) (gI y2.cells 4) n v hi lo t) fun r3=>(some (v9q1,(r3==(0:Int)))))else none))else(some (v9q1,false)))) FU 0 l.length (Nat.zero_le _) hr.1 (Nat.le_refl _) (qek (by omega))
 rw[Int.natCast_zero]at this
 rw[this]
 have hany:l.any (atH n v hi lo)=match l[r]? with
  |some y=>atH n v hi lo y
  |none=>false:=by
  cases hy:l[r]? with
  |none=>
   simp only
   rw[Bool.eq_false_iff]
   intro h
   obtain⟨y,hym,hat⟩:=List.any_eq_true.1 h
   obtain⟨k,hk,rfl⟩:=List.mem_iff_getElem.1 hym
   have h0:=qx2.1 hat
   have:=(hr.2 k l[k] (by simp[hk])).2 (by have:=List.getElem?_eq_none_iff.1 hy;omega)
   omega
  |some y=>
   simp only
   have hrl:=(List.getElem?_eq_some_iff.1 hy).1
   rw[Bool.eq_iff_iff,List.any_eq_true]
   refine⟨?_,fun h=>⟨y,List.mem_of_getElem? hy,h⟩⟩
   rintro⟨z,hzm,hat⟩
   obtain⟨k,hk,rfl⟩:=List.mem_iff_getElem.1 hzm
   have h0:=qx2.1 hat
   have hkr:¬k<r:=fun h=>by have:=(hr.2 k l[k] (by simp[hk])).2 h;omega
   rcases Nat.lt_or_ge r k with h|h
   · exfalso
     have hlt:=List.pairwise_iff_getElem.1 hp r k hrl hk h
     have hnl:¬qd2 (gS y.cells 0) (gB y.cells 1) (gI y.cells 2) (gI y.cells 3) n v hi lo<0:=fun h=>by have:=(hr.2 r y hy).1 h;omega
     apply hnl
     have ey:l[r]=y:=by have:=List.getElem?_eq_some_iff.1 hy;exact this.2
     rw[ey]at hlt
     obtain⟨e1,e2,e3,e4⟩:=q3p.1 hat
     have:=qbg7.1 hlt
     unfold cmpH at this
     rw[e1,e2,e3,e4]at this
     exact this
   · have:k=r:=by omega
     subst this
     have ey:l[k]=y:=by have:=List.getElem?_eq_some_iff.1 hy;exact this.2
     rw[ey]at hat;exact hat
 rw[hany]
 by_cases hrl:r<l.length
 · have e1:(r:Int)<(l.length:Int):=by omega
   obtain⟨y,hy⟩:∃y,l[r]?=some y:=⟨l[r],by simp[hrl]⟩
   have hyf:=hl.2 y (List.mem_of_getElem? hy)
   simp only[e1,decide_true,cond_t,ixB_nat,hy,oB_s,hyf.1,qbm2 _ _ _ _ _ _ _ _ _ _ hyf.2.2.2 hnm]
   have:(qd2 (gS y.cells 0) (gB y.cells 1) (gI y.cells 2) (gI y.cells 3) n v hi lo==0)=atH n v hi lo y:=by
    rw[Bool.eq_iff_iff,qx2];simp
   rw[this]
 · have e1:¬(r:Int)<(l.length:Int):=by omega
   have hy:l[r]?=none:=List.getElem?_eq_none_iff.2 (by omega)
   simp[e1,hy]
def insH (x:AV):List AV->List AV
 |[]=>[x]
 |y::r=>bif decide (cmpH x y<0)then x::y::r else y::insH x r
theorem qbrz (x y:AV)(r:LA):insH x (y::r)=bif decide (cmpH x y<0)then x::y::r else y::insH x r:=rfl
theorem qbii (n:LU)(v:Bool)(hi lo t:Int):∀{l:LA} {r:Nat},Cutt l n v hi lo r->l.any (atH n v hi lo)=false->l.take r++[mkH n v hi lo t]++l.drop r=insH (mkH n v hi lo t) l
 |[],r,_,_=>by simp[insH]
 |y::l,r,hr,ha=>by
  simp only[List.any_cons,Bool.or_eq_false_iff]at ha
  have h0:=hr.2 0 y rfl
  have hs:=(qbg8 (gS y.cells 0) (gB y.cells 1) (gI y.cells 2) (gI y.cells 3) n v hi lo)
  have hne:¬qd2 (gS y.cells 0) (gB y.cells 1) (gI y.cells 2) (gI y.cells 3) n v hi lo=0:=fun h=>by rw[qx2.2 h]at ha;simp at ha
  rw[qbrz]
  rw[qbvq]
  cases r with
  |zero=>
   have h1:¬qd2 (gS y.cells 0) (gB y.cells 1) (gI y.cells 2) (gI y.cells 3) n v hi lo<0:=fun h=>by have:=h0.1 h;omega
   have h2:=qbg8 n v hi lo (gS y.cells 0) (gB y.cells 1) (gI y.cells 2) (gI y.cells 3)
   have:qd2 n v hi lo (gS y.cells 0) (gB y.cells 1) (gI y.cells 2) (gI y.cells 3)<0:=h2.1.2 (by omega)
   simp[this]
  |succ r=>
   have h1:=h0.2 (by omega)
   have:¬qd2 n v hi lo (gS y.cells 0) (gB y.cells 1) (gI y.cells 2) (gI y.cells 3)<0:=by have:=hs.1.1 h1;omega
   have ih:=qbii n v hi lo t (l:=l) (r:=r) ⟨by have:=hr.1;simp at this;omega,fun k z hz=>by
    have:=hr.2 (k+1) z (by simpa using hz)
    rw[this];omega⟩ ha.2
   simp only[this,decide_false,cond_f,List.take_succ_cons,List.drop_succ_cons,List.cons_append]
   rw[<-ih]
theorem qbr0 (l:LA)(hn:l.length<=100000){r:Nat}(hr:r<=l.length)(x:AV):qly 48 l (r:Int) [x]=some (l.take r++[x]++l.drop r):=by
 unfold qly
 have:decide (0<=(r:Int)/\(r:Int)<=(l.length:Int)/\0<([x]:List AV).length/\(l.length+([x]:List AV).length)*48<=140737488355328)=true:=by
  simp;omega
 rw[this];simp
theorem qbw0 (l:LA)(hn:l.length<=100000){r:Nat}(hr:r<l.length):qsw l (r:Int) ((r+1:Nat):Int)=some (l.take r++l.drop (r+1)):=by
 unfold qsw
 have:decide (0<=(r:Int)/\(r:Int)<((r+1:Nat):Int)/\((r+1:Nat):Int)<=(l.length:Int)/\l.length<=9223372036854775807)=true:=by
  simp;omega
 rw[this];simp
structure Sp where
 b:List AV
 h:List AV
 z:List AV
def Sp.av (s:Sp):AV:=.agg [(.sl 8 s.b),(.sl 5 s.h),(.sl 1 s.z)]
def Sp.fr (s:Sp):AV:=.agg [(.fr true 8 s.b),(.fr true 5 s.h),(.fr true 1 s.z)]
def sp0:Sp:=⟨[],[],[]⟩
structure Fits (s:Sp):Prop where
 b:qbv s.b
 h:qnn s.h
 z:qx3 s.z
structure Plan (s:Sp):Prop where
 f:Fits s
 nb:s.b.length<=512
 tb:qf6 s.b
 nh:s.h.length<=256
 fh:∀y,y∈s.h->q3r y=0
 ph:s.h.Pairwise ltH
 nz:s.z.length<=32
 cz:chkZ 0 none s.z=0
 bl:∀y,y∈s.h->blkd s.b (gB y.cells 1) (gI y.cells 2) (gI y.cells 3)=true
 zo:∀y,y∈s.h->qql s.z (gS y.cells 0)=true
structure Chg where
 k:Int
 v:Bool
 hi:Int
 lo:Int
 bits:Int
 bk:Int
 nm:List UInt8
 ow:List UInt8
 vl:Int
 nb:Int
 po:Int
 hn:List UInt8
 hv:Bool
 hhi:Int
 hlo:Int
 ht:Int
 tx:List UInt8
def Chg.av (c:Chg):AV:=.agg [(.int .i64 c.k),(.bool c.v),(.int .u64 c.hi),(.int .u64 c.lo),(.int .i64 c.bits),(.int .i64 c.bk),(.str c.nm),(.str c.ow),(.int .i64 c.vl),(.int .i64 c.nb),(.int .i64 c.po),(.str c.hn),(.bool c.hv),(.int .u64 c.hhi),(.int .u64 c.hlo),(.int .i64 c.ht),(.str c.tx)]
structure CFit (c:Chg):Prop where
 u1:uok c.hi
 u2:uok c.lo
 u3:uok c.hhi
 u4:uok c.hlo
 n1:c.nm.length<=9223372036854775807
 n2:c.ow.length<=9223372036854775807
 n3:c.hn.length<=9223372036854775807
 n4:c.tx.length<=9223372036854775807
def qzn (k:Int):Bool:=k==1||k==2||k==3||k==4||k==5||k==6
def qbhc (c:Chg):Chg:=
 bif c.k==1 then⟨c.k,c.v,c.hi,c.lo,c.bits,c.bk,c.nm,c.ow,c.vl,0,0,[],false,0,0,0,[]⟩else
 bif c.k==2 then⟨c.k,c.v,c.hi,c.lo,c.bits,0,[],[],0,0,0,[],false,0,0,0,[]⟩else
 bif c.k==3 then⟨c.k,c.v,c.hi,c.lo,c.bits,0,c.nm,c.ow,0,c.nb,c.po,[],false,0,0,0,[]⟩else
 bif c.k==4 then⟨c.k,false,0,0,0,0,[],[],0,0,0,c.hn,c.hv,c.hhi,c.hlo,c.ht,[]⟩else
 bif c.k==5 then⟨c.k,false,0,0,0,0,[],[],0,0,0,c.hn,c.hv,c.hhi,c.hlo,0,[]⟩else
 bif c.k==6 then⟨c.k,false,0,0,0,0,[],[],0,0,0,c.hn,c.hv,c.hhi,c.hlo,0,c.tx⟩else
 ⟨c.k,false,0,0,0,0,[],[],0,0,0,[],false,0,0,0,[]⟩
def eqC (a b:Chg):Bool:=(a.k==b.k)&&((a.v==b.v)&&((a.hi==b.hi)&&((a.lo==b.lo)&&((a.bits==b.bits)&&((a.bk==b.bk)&&((a.nm==b.nm)&&((a.ow==b.ow)&&((a.vl==b.vl)&&((a.nb==b.nb)&&((a.po==b.po)&&((a.hn==b.hn)&&((a.hv==b.hv)&&((a.hhi==b.hhi)&&((a.hlo==b.hlo)&&((a.ht==b.ht)&&((a.tx==b.tx)&&true))))))))))))))))
theorem qbw1 (c:Chg):q1b c.k c.v c.hi c.lo c.bits c.bk c.nm c.ow c.vl c.nb c.po c.hn c.hv c.hhi c.hlo c.ht c.tx=some ((qbhc c).av,qzn c.k):=by
 rw[qbhd];unfold qrb
 rw[qbau];unfold ql5 qbhc qzn
 cases h1:(c.k==1)
 case true=>rfl
 cases h2:(c.k==2)
 case true=>rfl
 cases h3:(c.k==3)
 case true=>rfl
 cases h4:(c.k==4)
 case true=>rfl
 cases h5:(c.k==5)
 case true=>rfl
 cases h6:(c.k==6)
 case true=>rfl
 rfl
def okC (c:Chg):Bool:=qzn c.k&&eqC (qbhc c) c
def blkC (c:Chg):AV:=mkB c.v c.hi c.lo c.bits c.bk c.nm c.ow c.vl
def qov (e:Int):Sp×Int:=(sp0,e)
def q09 (s:Sp)(n:LU)(v:Bool)(hi lo t:Int):Sp×Int:=
 bif qnh [mkH n v hi lo t] != 0 then qov (qnh [mkH n v hi lo t])else bif s.h.any (atH n v hi lo)then qov 12 else
 bif decide ((s.h.length:Int)>=256)then qov 9 else bif !blkd s.b v hi lo then qov 25 else bif !qql s.z n then qov 13 else
 (⟨s.b,insH (mkH n v hi lo t) s.h,s.z⟩,0)
def hst0:AV:=mkH [] false 0 0 0
def outH (h:LA)(k:Nat):List AV:=h.take k++h.drop (k+1)
def hAt (h:LA)(k:Nat):AV:=h[k]?.getD hst0
def qrz (s:Sp)(n:LU)(v:Bool)(hi lo:Int):Sp×AV×Int:=match idxO (atH n v hi lo) s.h with
 |none=>(sp0,hst0,11)
 |some k=>(⟨s.b,outH s.h k,s.z⟩,hAt s.h k,0)
def q1a (s:Sp)(n:LU)(v:Bool)(hi lo:Int)(x:LU):Sp×Int:=match idxO (atH n v hi lo) s.h with
 |none=>qov 11
 |some k=>bif qwm x then qov 2 else bif s.h.any (atH x v hi lo)then qov 12 else bif !qql s.z x then qov 13 else
  (⟨s.b,insH (mkH x v hi lo (gI (hAt s.h k).cells 4)) (outH s.h k),s.z⟩,0)
def lost (b h:LA):Bool:=h.any fun y=> !blkd b (gB y.cells 1) (gI y.cells 2) (gI y.cells 3)
def qbua (s:Sp)(c:Chg):Sp×Int:=
 bif c.k==1 then bif(addF s.b (blkC c)).2 != 0 then qov (addF s.b (blkC c)).2 else(⟨(addF s.b (blkC c)).1,s.h,s.z⟩,0)else
 bif c.k==2 then bif(qe8 s.b c.v c.hi c.lo c.bits).2 != 0 then qov (qe8 s.b c.v c.hi c.lo c.bits).2 else bif lost (qe8 s.b c.v c.hi c.lo c.bits).1 s.h then qov 25 else(⟨(qe8 s.b c.v c.hi c.lo c.bits).1,s.h,s.z⟩,0)else
 bif c.k==3 then bif(q3o s.b ⟨c.v,c.hi,c.lo,c.bits⟩ c.nb c.po c.nm c.ow).2.2 != 0 then qov (q3o s.b ⟨c.v,c.hi,c.lo,c.bits⟩ c.nb c.po c.nm c.ow).2.2 else(⟨(q3o s.b ⟨c.v,c.hi,c.lo,c.bits⟩ c.nb c.po c.nm c.ow).1,s.h,s.z⟩,0)else
 bif c.k==4 then q09 s c.hn c.hv c.hhi c.hlo c.ht else
 bif c.k==5 then((qrz s c.hn c.hv c.hhi c.hlo).1,(qrz s c.hn c.hv c.hhi c.hlo).2.2)else
 q1a s c.hn c.hv c.hhi c.hlo c.tx
def qbag (s:Sp)(c:Chg):Sp×Int:=bif okC c then qbua s c else qov 1
structure Wk (s:Sp):Prop where
 f:Fits s
 nb:s.b.length<=1000
 tb:qf6 s.b
 nh:s.h.length<=1000
 ph:s.h.Pairwise ltH
 nz:s.z.length<=1000
theorem qbw2 {l:LA}(hp:l.Pairwise ltH){n:LU}{v:Bool}{hi lo:Int}{r k:Nat}(hr:Cutt l n v hi lo r)(hk:idxO (atH n v hi lo) l=some k):r=k:=by
 obtain⟨y,hy,hf⟩:=qpp l k hk
 have hat:=List.find?_some hf
 have h0:=qx2.1 hat
 have h1:¬k<r:=fun h=>by have:=(hr.2 k y hy).2 h;omega
 have hkl:=(List.getElem?_eq_some_iff.1 hy).1
 rcases Nat.lt_or_ge r k with h|h
 · exfalso
   have hrl:r<l.length:=by omega
   have hlt:=List.pairwise_iff_getElem.1 hp r k hrl hkl h
   have hnl:¬qd2 (gS (l[r]).cells 0) (gB (l[r]).cells 1) (gI (l[r]).cells 2) (gI (l[r]).cells 3) n v hi lo<0:=fun h=>by have:=(hr.2 r l[r] (by simp[hrl])).1 h;omega
   apply hnl
   have ey:l[k]=y:=by have:=List.getElem?_eq_some_iff.1 hy;exact this.2
   rw[ey]at hlt
   obtain⟨e1,e2,e3,e4⟩:=q3p.1 hat
   have:=qbg7.1 hlt
   unfold cmpH at this
   rw[e1,e2,e3,e4]at this
   exact this
 · omega
theorem qbub {s:Sp}(w:Wk s):qs1 s.b s.h s.z=some s.fr:=by
 rw[qbj3];unfold qs0 qr qjg qlq qwd
 have h1:s.b.length*80<=140737488355328:=by have:=w.nb;omega
 have h2:s.h.length*48<=140737488355328:=by have:=w.nh;omega
 have h3:s.z.length*16<=140737488355328:=by have:=w.nz;omega
 simp[h1,h2,h3,Sp.fr]
theorem qzo:hd ([]:List AV) ([]:List AV).length=true:=rfl
theorem qbvr {n:LU}{v:Bool}{hi lo t:Int}(u1:uok hi)(u2:uok lo)(h:n.length<=9223372036854775807):qbm0 (mkH n v hi lo t):=⟨rfl,u1,u2,h⟩
theorem qbvs {y:AV}(h:qbm0 y):qnn [y]:=⟨by simp,fun z hz=>by simp at hz;subst hz;exact h⟩
theorem qbr1 {s:Sp}(w:Wk s)(n:LU)(v:Bool)(hi lo t:Int)(u1:uok hi)(u2:uok lo)(hn:n.length<=9223372036854775807):qup n v hi lo t s.b s.h s.z=some ((q09 s n v hi lo t).1.fr,(q09 s n v hi lo t).2):=by
 obtain⟨r,hr⟩:=qbhb n v hi lo w.ph
 rw[qbbp];unfold qmh q09
 rw[show(AV.agg [(.str n),(.bool v),(.int .u64 hi),(.int .u64 lo),(.int .i64 t)])=mkH n v hi lo t from rfl]
 simp only[hd_self,qzo,cond_t,qbm3 _ (qbvs (qbvr u1 u2 hn)),oB_s,qbm5 s.h w.f.h (by have:=w.nh;omega) w.ph n v hi lo t hn hr,q5x s.b w.f.b,qbaf s.z w.f.z n hn,qbr0 s.h (by have:=w.nh;omega) hr.1]
 cases(qnh [mkH n v hi lo t] != 0)
 case true=>rfl
 simp only[cond_f]
 cases ha:s.h.any (atH n v hi lo)
 case true=>rfl
 simp only[cond_f]
 cases decide ((s.h.length:Int)>=256)
 case true=>rfl
 simp only[cond_f]
 cases blkd s.b v hi lo
 case false=>rfl
 cases qql s.z n
 case false=>rfl
 simp only[Bool.not_true,cond_f]
 rw[qbii n v hi lo t hr ha];rfl
theorem qbr2 {y:AV}(h:fitC qj y.cells=true):∃n v hi lo t,y=mkH n v hi lo t:=⟨_,_,_,_,_,(qbm1 h).symm⟩
theorem qbvt {y:AV}(h:fitC qj y.cells=true):rdE y 0 true 5=some y:=by obtain⟨n,v,hi,lo,t,rfl⟩:=qbr2 h;rfl
theorem qbr3 {y:AV}(h:fitC qj y.cells=true):fitV (.st qj) y=true:=by obtain⟨n,v,hi,lo,t,rfl⟩:=qbr2 h;rfl
theorem qbr4 {h:LA}{k:Nat}{y:AV}(e:h[k]?=some y):hAt h k=y:=by unfold hAt;rw[e];rfl
theorem qbah {s:Sp}(w:Wk s)(n:LU)(v:Bool)(hi lo t:Int)(hn:n.length<=9223372036854775807):qis n v hi lo t s.b s.h s.z=some ((qrz s n v hi lo).1.fr,(qrz s n v hi lo).2.1,(qrz s n v hi lo).2.2):=by
 obtain⟨r,hr⟩:=qbhb n v hi lo w.ph
 rw[q36];unfold qjq qrz
 have hany:s.h.any (atH n v hi lo)=(idxO (atH n v hi lo) s.h).isSome:=by
  rw[<-qvd];unfold idxI
  cases idxO (atH n v hi lo) s.h with
  |none=>rfl
  |some k=>simp
 simp only[hd_self,qzo,cond_t,qbm5 s.h w.f.h (by have:=w.nh;omega) w.ph n v hi lo t hn hr,oB_s,hany]
 cases hk:idxO (atH n v hi lo) s.h with
 |none=>rfl
 |some k=>
  have:=qbw2 w.ph hr hk
  subst this
  obtain⟨y,hy,_⟩:=qpp s.h r hk
  have hrl:=(List.getElem?_eq_some_iff.1 hy).1
  have hyf:=w.f.h.2 y (List.mem_of_getElem? hy)
  have h1:decide (0<=(r:Int)/\(r:Int)<(s.h.length:Int))=true:=decide_eq_true ⟨by omega,by omega⟩
  have hw:IntKind.i64.wrap ((r:Int)+1)=((r+1:Nat):Int):=by rw[w64 (by omega) (by have:=w.nh;omega)];omega
  simp only[Option.isSome_some,Bool.not_true,cond_f,h1,cond_t,Int.toNat_natCast,hy,oB_s,hw,qbw0 s.h (by have:=w.nh;omega) hrl,hd_self]
  rw[qbr4 hy]
  have hz:rdE y 0 true 5=some y:=qbvt hyf.1
  have hv:fitV (.st qj) y=true:=qbr3 hyf.1
  rw[hz]
  simp only[oB_s,hv,cond_t]
  rw[show(AV.agg [(.str (gS y.cells 0)),(.bool (gB y.cells 1)),(.int .u64 (gI y.cells 2)),(.int .u64 (gI y.cells 3)),(.int .i64 (gI y.cells 4))])=y from qbm1 hyf.1]
  rfl
theorem spf0 (s:Sp):gL s.fr.cells 0=s.b:=rfl
theorem spf1 (s:Sp):gL s.fr.cells 1=s.h:=rfl
theorem spf2 (s:Sp):gL s.fr.cells 2=s.z:=rfl
theorem qbvu {h:LA}{k:Nat}{y:AV}(hy:y∈outH h k):y∈h:=by
 rcases List.mem_append.1 hy with h1|h1
 · exact List.mem_of_mem_take h1
 · exact List.mem_of_mem_drop h1
theorem qbij (h:LA)(k:Nat):(outH h k).Sublist h:=by
 have:h=h.take k++h.drop k:=(List.take_append_drop k h).symm
 unfold outH
 conv=>rhs;rw[this]
 exact(List.Sublist.refl _).append (by rw[show h.drop (k+1)=(h.drop k).drop 1 by simp];exact List.drop_sublist 1 _)
theorem Wk.out {s:Sp}(w:Wk s)(k:Nat):Wk ⟨s.b,outH s.h k,s.z⟩:=⟨⟨w.f.b,⟨Nat.le_trans (qbij s.h k).length_le w.f.h.1,fun y hy=>w.f.h.2 y (qbvu hy)⟩,w.f.z⟩,w.nb,w.tb,Nat.le_trans (qbij s.h k).length_le w.nh,w.ph.sublist (qbij s.h k),w.nz⟩
theorem qbvv {h:LA}{k:Nat}{y:AV}(e:h[k]?=some y)(q:AV->Bool):h.any q=((outH h k).any q||q y):=by
 have hk:=(List.getElem?_eq_some_iff.1 e).1
 have hd:h.drop k=y::h.drop (k+1):=by
  rw[List.drop_eq_getElem_cons hk];congr 1;exact(List.getElem?_eq_some_iff.1 e).2
 have:h=h.take k++(y::h.drop (k+1)):=by rw[<-hd,List.take_append_drop]
 conv=>lhs;rw[this]
 unfold outH
 simp only[List.any_append,List.any_cons]
 cases(h.take k).any q<;>cases q y<;>simp
theorem qbtt {s:Sp}(w:Wk s)(n:LU)(v:Bool)(hi lo t:Int)(x:LU)(hn:n.length<=9223372036854775807)(hx:x.length<=9223372036854775807):qwy s.b s.h s.z n v hi lo t x=some ((q1a s n v hi lo x).1.fr,(q1a s n v hi lo x).2):=by
 rw[qbdo];unfold qom q1a
 simp only[qbub w,oB_s,spf0,spf1,spf2,hd_self,qzo,cond_t,Bool.and_self,qbah w n v hi lo t hn]
 unfold qrz
 cases hk:idxO (atH n v hi lo) s.h with
 |none=>rfl
 |some k=>
  obtain⟨y,hy,hf⟩:=qpp s.h k hk
  have hat:=List.find?_some hf
  obtain⟨e1,e2,e3,e4⟩:=q3p.1 hat
  have hkl:=(List.getElem?_eq_some_iff.1 hy).1
  have hyf:=w.f.h.2 y (List.mem_of_getElem? hy)
  have wo:=w.out k
  obtain⟨r,hr⟩:=qbhb x v hi lo wo.ph
  simp only[bne_self_eq_false,cond_f,qbr4 hy,e1,e2,e3,e4,hd_self,cond_t,Bool.and_self,qzo,spf0,spf1,spf2]
  rw[q38];unfold qjr
  rw[ql4 x hx,oB_s]
  unfold qwm
  cases ho:qbc x with
  |false=>rfl
  |true=>
   simp only[Bool.not_true,cond_f,qbtr x hx ho,oB_s,Bool.false_or]
   cases qxu x with
   |true=>rfl
   |false=>
    have hany:s.h.any (atH x v hi lo)=((outH s.h k).any (atH x v hi lo)||(x==n)):=by
     rw[qbvv hy];congr 1
     rw[Bool.eq_iff_iff,q3p]
     simp only[e1,e2,e3,e4,and_true,beq_iff_eq]
     exact eq_comm
    simp only[cond_f,qbm5 (outH s.h k) wo.f.h (by have:=wo.nh;simp only at this;omega) wo.ph x v hi lo (gI y.cells 4) hx hr,oB_s,hany]
    cases hb:((outH s.h k).any (atH x v hi lo)||(x==n))with
    |true=>rfl
    |false=>
     have ha:(outH s.h k).any (atH x v hi lo)=false:=by
      cases h:(outH s.h k).any (atH x v hi lo)with
      |false=>rfl
      |true=>rw[h]at hb;cases hb
     simp only[cond_f,qbaf s.z w.f.z x hx,oB_s]
     cases qql s.z x with
     |false=>rfl
     |true=>
      rw[show(AV.agg [(.str x),(.bool v),(.int .u64 hi),(.int .u64 lo),(.int .i64 (gI y.cells 4))])=mkH x v hi lo (gI y.cells 4)from rfl]
      simp only[Bool.not_true,cond_f,qbr0 (outH s.h k) (by have:=wo.nh;simp only at this;omega) hr.1,oB_s,qbii x v hi lo (gI y.cells 4) hr ha,hd_self,cond_t]
      rfl
theorem qbw3 {R:Type}{s:Sp}(hb:qbv s.b)(hh:qnn s.h)(kr:Bool->List AV->List AV->List AV->Option R):
 qcc s.h s.b s.h s.z kr=kr (lost s.b s.h) s.b s.h s.z:=by
 rw[qg6];unfold qbp
 rw[qh4];unfold qbt
 rw[qg4]
 have key:=qem (σ:=List AV×List AV×List AV) s.h hh.1 (fun k i t=>qba s.h (s.h.length:Int) (fun b0_0q1 b0_1q2 b0_2q3=>(fun v4q1 b0_0q2 b0_1q3 b0_2q4=>(kr (decide (v4q1>=0)) b0_0q2 b0_1q3 b0_2q4)) (-1:Int) b0_0q1 b0_1q2 b0_2q3) (fun v4q1 b0_0q2 b0_1q3 b0_2q4=>(kr (decide (v4q1>=0)) b0_0q2 b0_1q3 b0_2q4)) k i t.1 t.2.1 t.2.2)
  (fun i t nx=>q9 s.h (s.h.length:Int) i t.1 t.2.1 t.2.2 (fun i a b c=>nx i (a,b,c)) (fun b0_0q1 b0_1q2 b0_2q3=>(fun v4q1 b0_0q2 b0_1q3 b0_2q4=>(kr (decide (v4q1>=0)) b0_0q2 b0_1q3 b0_2q4)) (-1:Int) b0_0q1 b0_1q2 b0_2q3) (fun v4q1 b0_0q2 b0_1q3 b0_2q4=>(kr (decide (v4q1>=0)) b0_0q2 b0_1q3 b0_2q4))) (fun _ _ _=>rfl)
  (fun _ t=>t=(s.b,s.h,s.z)) (fun r _=>kr (lost s.b r) s.b s.h s.z) ?_ ?_ (s.b,s.h,s.z) FU rfl (qek (by have:=hh.1;omega))
 · exact key
 · intro t nx ht;subst ht;simp[q9,lost]
 · intro i y r t nx h1 h2 h3 h4 ht h5
   subst ht
   have hy:=hh.2 y (List.mem_of_getElem? h2)
   have h6:(i:Int)<(s.h.length:Int):=by omega
   unfold q9
   simp only[h6,decide_true,cond_t,ixB_nat,h2,oB_s,hy.1,h4]
   rw[qba8];unfold qmb
   rw[q5x s.b hb,oB_s]
   simp only[h5 _ rfl]
   have e:lost s.b (y::r)=((!blkd s.b (gB y.cells 1) (gI y.cells 2) (gI y.cells 3))||lost s.b r):=rfl
   rw[e]
   have:decide ((i:Int)>=0)=true:=by simp
   cases blkd s.b (gB y.cells 1) (gI y.cells 2) (gI y.cells 3)<;>simp[this]
theorem qbr5 {s:Sp}{n:LU}{v:Bool}{hi lo t:Int}(h:(q09 s n v hi lo t).2≠0):(q09 s n v hi lo t).1=sp0:=by
 unfold q09 at*
 cases h1:(qnh [mkH n v hi lo t] != 0)
 case true=>rfl
 cases h2:s.h.any (atH n v hi lo)
 case true=>rfl
 cases h3:decide ((s.h.length:Int)>=256)
 case true=>rfl
 cases h4:blkd s.b v hi lo
 case false=>rfl
 cases h5:qql s.z n
 case false=>rfl
 rw[h1,h2,h3,h4,h5]at h
 exact absurd rfl h
theorem qbr6 {s:Sp}{n:LU}{v:Bool}{hi lo:Int}(h:(qrz s n v hi lo).2.2≠0):(qrz s n v hi lo).1=sp0:=by
 unfold qrz at*
 cases hk:idxO (atH n v hi lo) s.h with
 |none=>rfl
 |some k=>rw[hk]at h;exact absurd rfl h
theorem qbr7 {s:Sp}{n:LU}{v:Bool}{hi lo:Int}{x:LU}(h:(q1a s n v hi lo x).2≠0):(q1a s n v hi lo x).1=sp0:=by
 unfold q1a at*
 cases hk:idxO (atH n v hi lo) s.h with
 |none=>rfl
 |some k=>
  rw[hk]at h
  simp only at h⊢
  cases h1:qwm x
  case true=>rfl
  cases h2:s.h.any (atH x v hi lo)
  case true=>rfl
  cases h3:qql s.z x
  case false=>rfl
  rw[h1,h2,h3]at h
  exact absurd rfl h
theorem qbpy (r:Sp×Int)(h:r.2≠0->r.1=sp0):(bif r.2 != 0 then(some ((.agg [(.sl 8 []),(.sl 5 []),(.sl 1 [])]),r.2):Option (AV×Int))else some ((.agg [(.sl 8 r.1.b),(.sl 5 r.1.h),(.sl 1 r.1.z)]),0))=some (r.1.av,r.2):=by
 obtain⟨x,e⟩:=r
 by_cases he:e=0
 · subst he;rfl
 · have h1:=h he
   simp only at h1
   subst h1
   have:(e != 0)=true:=by simpa using he
   simp only[this,cond_t];rfl
theorem qbor {s:Sp}(w:Wk s)(c:Chg)(hc:CFit c):qfq s.b s.h s.z c.k c.v c.hi c.lo c.bits c.bk c.nm c.ow c.vl c.nb c.po c.hn c.hv c.hhi c.hlo c.ht c.tx=some ((qbag s c).1.av,(qbag s c).2):=by
 rw[qbe9];unfold qp4 qbag
 rw[qbw1 c,oB_s]
 have e1:(!qzn c.k|| !eqC (qbhc c) c)= !okC c:=by unfold okC;cases qzn c.k<;>rfl
 change (bif(!qzn c.k|| !eqC (qbhc c) c)then _ else _)=_
 rw[e1]
 cases ho:okC c with
 |false=>rfl
 |true=>
  simp only[Bool.not_true,cond_f,cond_t,qbub w,oB_s,spf0,spf1,spf2,hd_self,Bool.and_self]
  rw[q6x];unfold qkf qbua
  simp only[hd_self,cond_t,Bool.and_self]
  cases h1:(c.k==1)with
  |true=>
   simp only[cond_t]
   rw[qbt9 s.b w.f.b (by have:=w.nb;omega) w.tb c.v c.hi c.lo c.bits c.bk c.nm c.ow c.vl ⟨rfl,hc.u1,hc.u2,hc.n1,hc.n2⟩]
   simp only[oB_s]
   rw[show mkB c.v c.hi c.lo c.bits c.bk c.nm c.ow c.vl=blkC c from rfl]
   cases he:((addF s.b (blkC c)).2 != 0)<;>rfl
  |false=>
  simp only[cond_f]
  cases h2:(c.k==2)with
  |true=>
   simp only[cond_t]
   rw[qbs7 s.b w.f.b (by have:=w.nb;omega) w.tb]
   simp only[oB_s]
   rw[q6v];unfold qke
   cases he:((qe8 s.b c.v c.hi c.lo c.bits).2 != 0)with
   |true=>
    have:((qe8 s.b c.v c.hi c.lo c.bits).2==0)=false:=by simpa using he
    simp only[this,cond_f,he,cond_t];rfl
   |false=>
    have:((qe8 s.b c.v c.hi c.lo c.bits).2==0)=true:=by simpa using he
    have h0:(qe8 s.b c.v c.hi c.lo c.bits).2=0:=by simpa using he
    simp only[this,cond_t,he,cond_f]
    obtain⟨r1,_,_⟩:=qbnt w.f.b w.tb h0
    rw[qbw3 (s:=⟨(qe8 s.b c.v c.hi c.lo c.bits).1,s.h,s.z⟩) r1 w.f.h]
    cases hl:lost (qe8 s.b c.v c.hi c.lo c.bits).1 s.h<;>rfl
  |false=>
  simp only[cond_f]
  cases h3:(c.k==3)with
  |true=>
   simp only[cond_t]
   rw[qbps s.b w.f.b w.tb w.nb ⟨c.v,c.hi,c.lo,c.bits⟩ c.nb c.po c.nm c.ow hc.n1 hc.n2]
   simp only[oB_s]
   cases he:((q3o s.b ⟨c.v,c.hi,c.lo,c.bits⟩ c.nb c.po c.nm c.ow).2.2 != 0)<;>rfl
  |false=>
  simp only[cond_f]
  cases h4:(c.k==4)with
  |true=>
   simp only[cond_t,qbr1 w c.hn c.hv c.hhi c.hlo c.ht hc.u3 hc.u4 hc.n3,oB_s,spf0,spf1,spf2,hd_self]
   exact qbpy (q09 s c.hn c.hv c.hhi c.hlo c.ht) qbr5
  |false=>
  simp only[cond_f]
  cases h5:(c.k==5)with
  |true=>
   simp only[cond_t,qbah w c.hn c.hv c.hhi c.hlo c.ht hc.n3,oB_s,spf0,spf1,spf2,hd_self]
   exact qbpy ((qrz s c.hn c.hv c.hhi c.hlo).1,(qrz s c.hn c.hv c.hhi c.hlo).2.2) qbr6
  |false=>
  have h6:(c.k==6)=true:=by
   unfold okC qzn at ho
   rw[h1,h2,h3,h4,h5]at ho
   cases h:(c.k==6)
   · rw[h]at ho;cases ho
   · rfl
  simp only[cond_f,h6,cond_t,qbtt w c.hn c.hv c.hhi c.hlo c.ht c.tx hc.n3 hc.n4,oB_s,spf0,spf1,spf2,hd_self]
  exact qbpy (q1a s c.hn c.hv c.hhi c.hlo c.tx) qbr7
def qbpz:Ty:=.st [.str,qbgt,.int .i64]
def qbp0:Ty:=.str
theorem hstsFit_of {l:LA}(h:l.length<=9223372036854775807/\∀y,y∈l->fitC qbpz.lts y.cells=true/\qbpz.good y.cells 0):qnn l:=
 ⟨h.1,fun y hy=>by
  obtain⟨h1,h2⟩:=h.2 y hy
  simp only[qbpz,qbgt,Ty.good.goods,Ty.good,Ty.size,Ty.sizes,Nat.zero_add,Nat.reduceAdd,and_true,true_and]at h2
  exact⟨h1,h2.2.1.1,h2.2.1.2,h2.1⟩⟩
theorem zonsFit_of {l:LA}(h:l.length<=9223372036854775807/\∀y,y∈l->fitC qbp0.lts y.cells=true/\qbp0.good y.cells 0):qx3 l:=
 ⟨h.1,fun y hy=>by
  obtain⟨h1,h2⟩:=h.2 y hy
  simp only[qbp0,Ty.good]at h2
  exact⟨h1,h2⟩⟩
theorem wk0:Wk sp0:=⟨⟨⟨by decide,fun y hy=>by cases hy⟩,⟨by decide,fun y hy=>by cases hy⟩,⟨by decide,fun y hy=>by cases hy⟩⟩,by decide,fun j y h=>(by cases h),by decide,List.Pairwise.nil,by decide⟩
def exC1:Chg:=⟨1,false,0,167772160,8,1,[110,101,116],[],0,0,0,[],false,0,0,0,[]⟩
def exC2:Chg:=⟨2,false,0,167772160,8,0,[],[],0,0,0,[],false,0,0,0,[]⟩
theorem qbxn:CFit exC1:=⟨⟨by decide,by decide⟩,⟨by decide,by decide⟩,⟨by decide,by decide⟩,⟨by decide,by decide⟩,by decide,by decide,by decide,by decide⟩
theorem qbxo:CFit exC2:=⟨⟨by decide,by decide⟩,⟨by decide,by decide⟩,⟨by decide,by decide⟩,⟨by decide,by decide⟩,by decide,by decide,by decide,by decide⟩
theorem exA1:qbag sp0 exC1=(⟨[blkC exC1],[],[]⟩,0):=by kernel_rfl
theorem exA2:qbag sp0 exC2=(sp0,11):=by kernel_rfl
theorem exP1:qfq [] [] [] 1 false 0 167772160 8 1 [110,101,116] [] 0 0 0 [] false 0 0 0 []=some ((Sp.mk [blkC exC1] [] []).av,0):=by
 have:=qbor wk0 exC1 qbxn
 rw[exA1]at this;exact this
theorem exP2:qfq [] [] [] 2 false 0 167772160 8 0 [] [] 0 0 0 [] false 0 0 0 []=some (sp0.av,11):=by
 have:=qbor wk0 exC2 qbxo
 rw[exA2]at this;exact this
theorem exI1:qp5 [] [] [] 1 false 0 167772160 8 1 [110,101,116] [] 0 0 0 [] false 0 0 0 []=some (exC2.av,0):=by
 rw[qbbq];unfold qmi
 rw[exP1];rfl
theorem qbr8:qp6=some true:=by
 rw[qbbr];unfold qmj
 have ht:qsy 8=some (.agg [(.bool false),(.int .u64 0),(.int .u64 (167772160:Int)),(.int .i64 8)]):=by
  rw[qbel];rfl
 rw[ht]
 simp only[oB_s]
 rw[show qfq [] [] [] 1 (gB (AV.agg [(.bool false),(.int .u64 0),(.int .u64 (167772160:Int)),(.int .i64 8)]).cells 0) (gI (AV.agg [(.bool false),(.int .u64 0),(.int .u64 (167772160:Int)),(.int .i64 8)]).cells 1) (gI (AV.agg [(.bool false),(.int .u64 0),(.int .u64 (167772160:Int)),(.int .i64 8)]).cells 2) (gI (AV.agg [(.bool false),(.int .u64 0),(.int .u64 (167772160:Int)),(.int .i64 8)]).cells 3) 1 [110,101,116] [] 0 0 0 [] false 0 0 0 []=some ((Sp.mk [blkC exC1] [] []).av,0)from exP1]
 rw[show qfq [] [] [] 2 (gB (AV.agg [(.bool false),(.int .u64 0),(.int .u64 (167772160:Int)),(.int .i64 8)]).cells 0) (gI (AV.agg [(.bool false),(.int .u64 0),(.int .u64 (167772160:Int)),(.int .i64 8)]).cells 1) (gI (AV.agg [(.bool false),(.int .u64 0),(.int .u64 (167772160:Int)),(.int .i64 8)]).cells 2) (gI (AV.agg [(.bool false),(.int .u64 0),(.int .u64 (167772160:Int)),(.int .i64 8)]).cells 3) 0 [] [] 0 0 0 [] false 0 0 0 []=some (sp0.av,11)from exP2]
 rw[show qp5 [] [] [] 1 (gB (AV.agg [(.bool false),(.int .u64 0),(.int .u64 (167772160:Int)),(.int .i64 8)]).cells 0) (gI (AV.agg [(.bool false),(.int .u64 0),(.int .u64 (167772160:Int)),(.int .i64 8)]).cells 1) (gI (AV.agg [(.bool false),(.int .u64 0),(.int .u64 (167772160:Int)),(.int .i64 8)]).cells 2) (gI (AV.agg [(.bool false),(.int .u64 0),(.int .u64 (167772160:Int)),(.int .i64 8)]).cells 3) 1 [110,101,116] [] 0 0 0 [] false 0 0 0 []=some (exC2.av,0)from exI1]
 rfl
def qbuc (b h z l:LA):Bool:=(((decide ((b.length:Int)>(40:Int)))||(decide ((h.length:Int)>(40:Int))))||(decide ((z.length:Int)>(40:Int))))||(decide ((l.length:Int)>(68:Int)))
theorem qbvw (b h z l:LA):qsx b h z l=some (qbuc b h z l):=by rw[q7i];rfl
theorem law_ChangeChecks (b h z:LA)(hb:qbv b)(hh:qnn h)(hz:qx3 z):qid b h z=some true:=by
 rw[qyy];unfold qgt
 simp only[qbvw,oB_s,qbr8,qbts b h z hb hh hz,qbry b h z hb hh hz,beq_self_eq_true,cond_t]
 cases qbuc b h z []<;>rfl
end Go.Proofs.YtoaaphlopbabeaaGreatDoor.Dn
