import Derived.Test.YtoaaphlopbabeaaGreatDoorCBDn51
import Derived.Test.YtoaaphlopbabeaaGreatDoorCBLibD
set_option linter.all false
namespace Go.Proofs.YtoaaphlopbabeaaGreatDoor.Dn
open Go Go.Pev
open Go.IntKind (i64 u64)
set_option maxRecDepth 4000
theorem zdt(h:Decidable True):@decide True h=true:=decide_true h
theorem zdf(h:Decidable False):@decide False h=false:=decide_false h
theorem zmf{α:Type _}{p:α->Bool}{a:α}{l:List α}:a∈l.filter p<->a∈l/\p a=true:=List.mem_filter
theorem zat(a b:Bool):((a&&b)=true)=(a=true/\b=true):=Bool.and_eq_true a b
theorem zas(b:Bool):(b&&b)=b:=Bool.and_self b
theorem zay{α:Type _}{p:α->Bool}{l:List α}:l.any p=true<->∃x,x∈l/\p x=true:=List.any_eq_true
theorem ztn(n:Nat):(n:Int).toNat=n:=Int.toNat_natCast n
theorem zta(b:Bool):(true&&b)=b:=Bool.true_and b
theorem znf:(!false)=true:=Bool.not_false
def qfy (v6:Bool)(hi lo:Int):Bool:=v6||(hi==0&&decide (lo<4294967296))
def ql (v6:Bool):Int:=if v6 then 128 else 32
theorem q9g (v6:Bool)(hi lo:Int):qnf v6 hi lo=some (qfy v6 hi lo):=by
 rw[qbl2];unfold qra qfy
 cases v6<;>cases(hi==0)<;>simp
theorem qb2z (v6:Bool):qn5 v6=some (ql v6):=by
 rw[qbn7];unfold qtv ql
 cases v6<;>rfl
def qb4z (p:Int×Int):Int×Int:=(u64.wrap (u64.wrap (p.1*2)+u64.wrap (p.2.tdiv 9223372036854775808)),u64.wrap (u64.wrap (p.2*2)+1))
def qgd:Nat->Int×Int
 |0=>(0,0)
 |n+1=>qb4z (qgd n)
theorem qb20 (n:Int):qyb n=some (qgd (min n 128).toNat):=by
 rw[qbn8];unfold qtx
 rw[qbg0]
 have key:=qbkv (fun k (s:Int×Int×Int)=>qlm n (fun v4 v5=>some (v4,v5)) k s.1 s.2.1 s.2.2) (fun s nx=>qoo n s.1 s.2.1 s.2.2 (fun a b c=>nx (a,b,c)) (fun v4 v5=>some (v4,v5))) (fun _ _=>rfl)
  (fun s=>∃i:Nat,s=((qgd i).1,(qgd i).2,(i:Int))/\i<=128/\(i=0\/(i:Int)<=n)) (fun s=>(128-s.2.2).toNat) (fun _=>some (qgd (min n 128).toNat)) ?_ FU ((0,0,0)) ⟨0,rfl,by simp,.inl rfl⟩ (qca (by simp))
 · exact key
 · rintro _ ⟨i,rfl,hi,hin⟩ nx hn
   simp only
   have hw:i64.wrap ((i:Int)+1)=((i+1:Nat):Int):=w64 (by omega) (by omega)
   unfold qoo
   by_cases hc:(i:Int)<n/\(i:Int)<128
   · simp only[hc.1,hc.2,zdt,Bool.and_true,zct,hw]
     exact hn (_,_,_) ⟨i+1,rfl,by omega,.inr (by omega)⟩ (by simp;omega)
   · have e:(decide ((i:Int)<n)&&decide ((i:Int)<128))=false:=by
      by_cases h1:(i:Int)<n
      · have:¬(i:Int)<128:=fun h=>hc ⟨h1,h⟩
        simp[this]
      · simp[h1]
     simp only[e,zcf]
     have:(min n 128).toNat=i:=by
      by_cases h1:(i:Int)<n
      · have:¬(i:Int)<128:=fun h=>hc ⟨h1,h⟩
        omega
      · omega
     rw[this]
def qd9 (v6:Bool)(hi lo bits:Int):Bool:=
 qfy v6 hi lo&&decide (0<=bits)&&decide (bits<=ql v6)&&(qbn .and .u64 hi (qgd (ql v6-bits).toNat).1==0)&&(qbn .and .u64 lo (qgd (ql v6-bits).toNat).2==0)
theorem qbka (v6:Bool)(hi lo bits:Int):qqf v6 hi lo bits=some (qd9 v6 hi lo bits):=by
 rw[qbl3];unfold qrc
 simp only[qbdj,qnx,q9g,qb2z,qb20,zos]
 unfold qd9
 cases h1:qfy v6 hi lo
 · simp
 · by_cases h2:bits<0
   · have:¬0<=bits:=by omega
     simp[h2,this]
   · have h2':0<=bits:=by omega
     by_cases h3:ql v6<bits
     · have:¬bits<=ql v6:=by omega
       simp[h2,h3,this]
     · have h3':bits<=ql v6:=by omega
       have hl:ql v6<=128:=by unfold ql;split<;>omega
       have hw:i64.wrap (ql v6-bits)=ql v6-bits:=w64 (by omega) (by omega)
       have hm:(min (ql v6-bits) 128).toNat=(ql v6-bits).toNat:=by congr 1;omega
       simp[h2,h3,h2',h3',hw,hm]
def uok (x:Int):Prop:=0<=x/\x<=18446744073709551615
theorem qbe8 (n:Nat)(h:n<18446744073709551616):u64.wrap (n:Int)=n:=wu64 (by omega) (by omega)
theorem q1a {x:Int}(h:uok x):((BitVec.ofInt 64 x).toNat:Int)=x:=by
 obtain⟨h1,h2⟩:=h
 rw[BitVec.toNat_ofInt]
 omega
theorem qbcy (x y:Int):qbn .and .u64 x y=((BitVec.ofInt 64 x&&& BitVec.ofInt 64 y).toNat:Int):=by
 have:=(BitVec.ofInt 64 x&&& BitVec.ofInt 64 y).isLt
 show u64.wrap ((BitVec.ofInt 64 x&&& BitVec.ofInt 64 y).toNat:Int)=_
 exact qbe8 _ (by omega)
theorem qb6e (x y:Int):qbn .or .u64 x y=((BitVec.ofInt 64 x|||BitVec.ofInt 64 y).toNat:Int):=by
 have:=(BitVec.ofInt 64 x|||BitVec.ofInt 64 y).isLt
 show u64.wrap ((BitVec.ofInt 64 x|||BitVec.ofInt 64 y).toNat:Int)=_
 exact qbe8 _ (by omega)
theorem q33 (x y:Int):qbn .andNot .u64 x y=((BitVec.ofInt 64 x&&& ~~~BitVec.ofInt 64 y).toNat:Int):=by
 have:=(BitVec.ofInt 64 x&&& ~~~BitVec.ofInt 64 y).isLt
 show u64.wrap ((BitVec.ofInt 64 x&&& ~~~BitVec.ofInt 64 y).toNat:Int)=_
 exact qbe8 _ (by omega)
theorem qwi (a b:BitVec 64):(a&&& b).toNat+(a&&& ~~~b).toNat=a.toNat:=by
 have h1:(a&&& b)&&& (a&&& ~~~b)=0#64:=by
  ext i hi
  simp
  intro _ h _
  exact h
 have h2:(a&&& b)|||(a&&& ~~~b)=a:=by
  ext i hi
  simp
  cases a[i]<;>cases b[i]<;>rfl
 have h3:=BitVec.add_eq_or_of_and_eq_zero _ _ h1
 rw[h2]at h3
 have h4:=congrArg BitVec.toNat h3
 rw[BitVec.toNat_add]at h4
 have e1:(a&&& b).toNat<=a.toNat:=by rw[BitVec.toNat_and];exact Nat.and_le_left
 have e2:=(a&&& ~~~b).isLt
 have e3:=a.isLt
 omega
theorem qbzx {x:Int}(y:Int)(h:uok x):u64.wrap (x-qbn .and .u64 x y)=qbn .andNot .u64 x y:=by
 have h1:=qwi (BitVec.ofInt 64 x) (BitVec.ofInt 64 y)
 have h2:=q1a h
 rw[qbcy,q33]
 have h3:x-((BitVec.ofInt 64 x&&& BitVec.ofInt 64 y).toNat:Int)=((BitVec.ofInt 64 x&&& ~~~BitVec.ofInt 64 y).toNat:Int):=by omega
 rw[h3]
 have:=(BitVec.ofInt 64 x&&& ~~~BitVec.ofInt 64 y).isLt
 exact qbe8 _ (by omega)
theorem qb21 (a b:BitVec 64)(h:(a&&& b).toNat=0):a.toNat+b.toNat=(a|||b).toNat:=by
 have h1:a&&& b=0#64:=BitVec.eq_of_toNat_eq h
 have h2:=congrArg BitVec.toNat (BitVec.add_eq_or_of_and_eq_zero _ _ h1)
 rw[BitVec.toNat_add]at h2
 have h3:=qwi a b
 have h4:(a&&& ~~~b).toNat<=(~~~b).toNat:=by rw[BitVec.toNat_and];exact Nat.and_le_right
 rw[BitVec.toNat_not]at h4
 have e3:=b.isLt
 omega
theorem qbxr {x y:Int}(hx:uok x)(hy:uok y)(h:qbn .and .u64 x y=0):x+y=qbn .or .u64 x y:=by
 rw[qbcy]at h
 rw[qb6e]
 have e1:=q1a hx
 have e2:=q1a hy
 have:=qb21 (BitVec.ofInt 64 x) (BitVec.ofInt 64 y) (by omega)
 omega
theorem qb22 (x y:Int):uok (qbn .or .u64 x y):=by
 rw[qb6e]
 have:=(BitVec.ofInt 64 x|||BitVec.ofInt 64 y).isLt
 exact⟨by omega,by omega⟩
theorem qbza {x:Int}(h:uok x):qbn .andNot .u64 x 0=x:=by
 rw[q33]
 have:=qwi (BitVec.ofInt 64 x) (BitVec.ofInt 64 0)
 have h2:=q1a h
 have h3:(BitVec.ofInt 64 x&&& BitVec.ofInt 64 0).toNat=0:=by simp
 omega
theorem qkm (v6:Bool):ql v6<=128:=by unfold ql;split<;>omega
theorem qb8r:∀n:Fin 33,qqb false (n.val:Int)=some (qgd (32-n.val)):=by decide+kernel
theorem qb8s:∀n:Fin 129,qqb true (n.val:Int)=some (qgd (128-n.val)):=by decide+kernel
theorem qbzy {v6:Bool}{bits:Int}(h1:0<=bits)(h2:bits<=ql v6):qz3 v6 bits=some (qgd (ql v6-bits).toNat):=by
 rw[qbo8]
 obtain⟨n,rfl⟩:=Int.eq_ofNat_of_zero_le h1
 cases v6 with
 |false=>
  have h3:n<=32:=by simp[ql]at h2;omega
  rw[qb8r ⟨n,by omega⟩]
  congr 2
  simp[ql]<;>omega
 |true=>
  have h3:n<=128:=by simp[ql]at h2;omega
  rw[qb8s ⟨n,by omega⟩]
  congr 2
  simp[ql]<;>omega
theorem qbov (v6:Bool)(hi lo:Int):qz2 v6 hi lo=some (qfy v6 hi lo):=by
 rw[qbu5];unfold qz1 qfy
 have:decide (lo<=4294967295)=decide (lo<4294967296):=by apply decide_eq_decide.2;omega
 cases v6<;>cases(hi==0)<;>simp[this]
theorem q7e (v6:Bool)(hi lo:Int):qn4 v6 hi lo=some (ql v6):=by
 rw[qbnf];unfold qtb ql
 cases v6<;>rfl
theorem q7f (v6:Bool)(hi lo bits:Int):qk8 v6 hi lo bits=some (qd9 v6 hi lo bits):=by
 rw[qbo9];unfold qvm
 simp only[qbhm,qpk,qbov,q7e,zos]
 unfold qd9
 cases h1:qfy v6 hi lo
 · simp
 · by_cases h2:bits<0
   · have:¬0<=bits:=by omega
     simp[h2,this]
   · have h2':0<=bits:=by omega
     by_cases h3:ql v6<bits
     · have:¬bits<=ql v6:=by omega
       simp[h2,h3,this]
     · have h3':bits<=ql v6:=by omega
       simp[h2,h3,h2',h3',qbzy h2' h3']
def qg9 (v6:Bool)(hi lo bits:Int)(w6:Bool)(ahi alo:Int):Bool:=
 qd9 v6 hi lo bits&&(qfy w6 ahi alo&&((v6==w6)&&((qbn .andNot .u64 ahi (qgd (ql v6-bits).toNat).1==hi)&&(qbn .andNot .u64 alo (qgd (ql v6-bits).toNat).2==lo))))
theorem qe2 {v6:Bool}{hi lo bits:Int}(h:qd9 v6 hi lo bits=true):0<=bits/\bits<=ql v6/\qfy v6 hi lo=true:=by
 simp[qd9]at h
 exact⟨h.1.1.1.2,h.1.1.2,h.1.1.1.1⟩
theorem qb9u {w6:Bool}{ahi alo bits:Int}(h1:0<=bits)(h2:bits<=ql w6):qbhp w6 ahi alo bits=some (bif qfy w6 ahi alo then(.agg [(.bool w6),(.int .u64 (qbn .andNot .u64 ahi (qgd (ql w6-bits).toNat).1)),(.int .u64 (qbn .andNot .u64 alo (qgd (ql w6-bits).toNat).2)),(.int .i64 bits)],true)else(.agg [(.bool false),(.int .u64 0),(.int .u64 0),(.int .i64 0)],false)):=by
 rw[qbv7];unfold q2x
 have a1:¬bits<0:=by omega
 have a2:¬ql w6<bits:=by omega
 simp only[qbpe,qvr,qbov,q7e,zos,qbzy h1 h2]
 cases qfy w6 ahi alo<;>simp[a1,a2]
theorem qbak (v6:Bool)(hi lo bits:Int)(w6:Bool)(ahi alo:Int):qoa v6 hi lo bits w6 ahi alo=some (qg9 v6 hi lo bits w6 ahi alo):=by
 rw[qbhq];unfold qpl qg9
 simp only[q7f,zos]
 cases h1:qd9 v6 hi lo bits
 · simp
 · obtain⟨h2,h3,_⟩:=qe2 h1
   by_cases h4:v6=w6
   · subst h4
     rw[qb9u h2 h3]
     cases qfy v6 ahi alo<;>simp[gB,gI,gC,aB,aI,AV.cells]
   · have h6:(v6==w6)=false:=by simpa using h4
     simp[h6]
theorem qb9v {w6:Bool}{ahi alo bits:Int}(h1:0<=bits)(h2:bits<=ql w6)(hv:qfy w6 ahi alo=true)(u1:uok ahi)(u2:uok alo):q9x w6 ahi alo bits=some (.agg [(.bool w6),(.int .u64 (qbn .andNot .u64 ahi (qgd (ql w6-bits).toNat).1)),(.int .u64 (qbn .andNot .u64 alo (qgd (ql w6-bits).toNat).2)),(.int .i64 bits)],true):=by
 rw[qbsb];unfold qyc
 have a1:¬bits<0:=by omega
 have a2:¬ql w6<bits:=by omega
 have hl:=qkm w6
 have hw:i64.wrap (ql w6-bits)=ql w6-bits:=w64 (by omega) (by omega)
 have hm:(min (ql w6-bits) 128).toNat=(ql w6-bits).toNat:=by congr 1;omega
 simp only[qbl7,qrf,q9g,qb2z,qb20,zos,hv,hw,hm,qbzx _ u1,qbzx _ u2]
 simp[a1,a2]
theorem qbal (v6:Bool)(hi lo bits:Int)(w6:Bool)(ahi alo:Int)(u1:uok ahi)(u2:uok alo):qmk v6 hi lo bits w6 ahi alo=some (qg9 v6 hi lo bits w6 ahi alo):=by
 rw[qbdk];unfold qny qg9
 simp only[q7x,qkw,qbka,q9g,zos]
 cases h1:qd9 v6 hi lo bits
 · simp
 · obtain⟨h2,h3,_⟩:=qe2 h1
   cases h5:qfy w6 ahi alo
   · simp
   · by_cases h4:v6=w6
     · subst h4
       rw[qb9v h2 h3 h5 u1 u2]
       simp[gB,gI,gC,aB,aI,AV.cells]
     · have h6:(v6==w6)=false:=by simpa using h4
       simp[h6]
def qkn (v6:Bool)(hi lo bits:Int)(w6:Bool)(whi wlo wbits:Int):Bool:=
 qd9 v6 hi lo bits&&(decide (bits>=wbits)&&qg9 w6 whi wlo wbits v6 hi lo)
theorem q9h (v6:Bool)(hi lo bits:Int)(w6:Bool)(whi wlo wbits:Int):ql2 v6 hi lo bits w6 whi wlo wbits=some (qkn v6 hi lo bits w6 whi wlo wbits):=by
 rw[qbni];unfold qtd qkn
 simp only[q7f,qbak,zos]
 cases h1:qd9 v6 hi lo bits
 · simp
 · cases h2:qd9 w6 whi wlo wbits
   · simp[qg9,h2]
   · cases h3:decide (bits>=wbits)<;>simp
theorem qbkb (v6:Bool)(hi lo bits:Int)(w6:Bool)(whi wlo wbits:Int)(u1:uok hi)(u2:uok lo):qos v6 hi lo bits w6 whi wlo wbits=some (qkn v6 hi lo bits w6 whi wlo wbits):=by
 rw[qbiw];unfold qpz qkn
 simp only[qbka,qbal _ _ _ _ _ _ _ u1 u2,zos]
 cases h1:qd9 v6 hi lo bits
 · simp
 · cases h3:decide (bits>=wbits)<;>simp
def qg7 (y:AV):Prop:=fitC qb y.cells=true/\uok (gI y.cells 1)/\uok (gI y.cells 2)/\(gS y.cells 5).length<=9223372036854775807/\(gS y.cells 6).length<=9223372036854775807
def qn (l:LA):Prop:=l.length<=9223372036854775807/\∀y,y∈l->qg7 y
def qbrg:Ty:=.st [.bool,.int .u64,.int .u64]
def qb23:Ty:=.st [qbrg,.int .i64]
def qb09:Ty:=.st [qb23,.int .i64,.str,.str,.int .i64]
theorem blksFit_of {l:LA}(h:l.length<=9223372036854775807/\∀y,y∈l->fitC qb09.lts y.cells=true/\qb09.good y.cells 0):qn l:=
 ⟨h.1,fun y hy=>by
  obtain⟨h1,h2⟩:=h.2 y hy
  simp only[qb09,qb23,qbrg,Ty.good.goods,Ty.good,Ty.size,Ty.sizes,Nat.zero_add,Nat.reduceAdd,and_true,true_and]at h2
  obtain⟨⟨⟨h3,h4⟩,h5⟩,h6,h7,h8,h9⟩:=h2
  exact⟨h1,h3,h4,h7,h8⟩⟩
def qqm (s:LU):Bool:=s.all fun c=>decide (33<=c.toNat)&&decide (c.toNat<=126)
theorem qbm7 (s:LU)(hs:s.length<=9223372036854775807):qop s=some (qqm s):=by
 rw[qbba];unfold qmr
 rw[q6l,qfx s hs (qf7 s fun _=>some true) (fun i nx=>qf6 s i nx fun _=>some true) (fun _ _=>rfl) (fun r=>some (qqm r))]
 · intro nx;simp[qf6,qqm]
 · intro i y r nx h1 h2 h3 h4 h5
   have h6:(i:Int)<(s.length:Int):=by omega
   unfold qf6
   simp only[h6,zdt,zct,zin,h2,zos,h4,h5,qqm,List.all_cons]
   by_cases a1:(y.toNat:Int)<33
   · have:¬33<=y.toNat:=by omega
     simp[a1,this]
   · have b1:33<=y.toNat:=by omega
     by_cases a2:(y.toNat:Int)>126
     · have:¬y.toNat<=126:=by omega
       simp[a1,a2,this]
     · have b2:y.toNat<=126:=by omega
       simp only[a1,a2,b1,b2,zdt,zdf,zcf,zta]
def mayB (y:AV):Bool:=
 bif(bif decide (gI y.cells 4<1)then true else bif decide (gI y.cells 4>3)then true else bif gI y.cells 4==3 then gI y.cells 3 != ql (gB y.cells 0)else false)then false
 else bif(decide (((gS y.cells 5).length:Int)>=1)&&decide (((gS y.cells 5).length:Int)<=63))then(bif(qqm (gS y.cells 5)&&decide (((gS y.cells 6).length:Int)<=32))then((qqm (gS y.cells 6)&&decide (gI y.cells 7>=0))&&decide (gI y.cells 7<=4294967295))else false)else false
theorem qr4 {α:Type}(p:Bool)(a b:α):(bif p then some a else some b)=some (bif p then a else b):=by cases p<;>rfl
theorem qb9w (y:AV)(hy:qg7 y):q6m (gB y.cells 0) (gI y.cells 1) (gI y.cells 2) (gI y.cells 3) (gI y.cells 4) (gS y.cells 5) (gS y.cells 6) (gI y.cells 7)=some (mayB y):=by
 have hw:q11 (gB y.cells 0) (gI y.cells 1) (gI y.cells 2) (gI y.cells 3)=some (ql (gB y.cells 0)):=by
  rw[qbl4];unfold qrd ql;cases gB y.cells 0<;>rfl
 rw[qbpy];unfold qv5 mayB
 simp only[qbiu,qpy,qbm7 _ hy.2.2.2.1,qbm7 _ hy.2.2.2.2,hw,zos]
 cases decide (gI y.cells 4<1)<;>cases decide (gI y.cells 4>3)<;>cases(gI y.cells 4==3)<;>simp only[zct,zcf,qr4]
def cmpA (v6:Bool)(hi lo:Int)(w6:Bool)(whi wlo:Int):Int:=
 bif(!((v6==w6)&&true))then(bif w6 then-1 else 1)else bif(hi != whi)then(bif decide (hi<whi)then-1 else 1)else bif decide (lo<wlo)then-1 else bif decide (lo>wlo)then 1 else 0
theorem qbzz (v6:Bool)(hi lo:Int)(w6:Bool)(whi wlo:Int):qre v6 hi lo w6 whi wlo=some (cmpA v6 hi lo w6 whi wlo):=by
 rw[qbg2];unfold qoq cmpA
 simp only[qr4]
def cmpP (v6:Bool)(hi lo bits:Int)(w6:Bool)(whi wlo wbits:Int):Int:=
 bif(cmpA v6 hi lo w6 whi wlo != 0)then cmpA v6 hi lo w6 whi wlo else bif decide (bits<wbits)then-1 else bif decide (bits>wbits)then 1 else 0
theorem qb8t (v6:Bool)(hi lo bits:Int)(w6:Bool)(whi wlo wbits:Int):qyw v6 hi lo bits w6 whi wlo wbits=some (cmpP v6 hi lo bits w6 whi wlo wbits):=by
 rw[qbg3];unfold qor cmpP
 simp only[qbzz,zos,qr4]
def ltP (v6:Bool)(hi lo bits:Int)(w6:Bool)(whi wlo wbits:Int):Prop:=
 (v6=false/\w6=true)\/(v6=w6/\(hi<whi\/(hi=whi/\(lo<wlo\/(lo=wlo/\bits<wbits)))))
theorem qzu {a:Bool}{b c d:Int}{a':Bool}{b' c' d':Int}{a2:Bool}{b2 c2 d2:Int}(h1:ltP a b c d a' b' c' d')(h2:ltP a' b' c' d' a2 b2 c2 d2):ltP a b c d a2 b2 c2 d2:=by
 unfold ltP at*
 rcases h1 with⟨rfl,rfl⟩|⟨rfl,h1⟩
 · rcases h2 with⟨h,_⟩|⟨rfl,_⟩
   · cases h
   · exact .inl ⟨rfl,rfl⟩
 · rcases h2 with⟨rfl,rfl⟩|⟨rfl,h2⟩
   · exact .inl ⟨rfl,rfl⟩
   · exact .inr ⟨rfl,by omega⟩
theorem qff {a:Bool}{b c d:Int}:¬ltP a b c d a b c d:=by
 unfold ltP
 rintro(⟨rfl,h⟩|⟨_,h⟩)
 · cases h
 · omega
def atP (v6:Bool)(hi lo bits:Int)(y:AV):Bool:=(gB y.cells 0==v6)&&((gI y.cells 1==hi)&&((gI y.cells 2==lo)&&((gI y.cells 3==bits)&&true)))
theorem qqn {v6:Bool}{hi lo bits:Int}{y:AV}:atP v6 hi lo bits y=true↔gB y.cells 0=v6/\gI y.cells 1=hi/\gI y.cells 2=lo/\gI y.cells 3=bits:=by simp[atP]
def ltY (y z:AV):Prop:=ltP (gB y.cells 0) (gI y.cells 1) (gI y.cells 2) (gI y.cells 3) (gB z.cells 0) (gI z.cells 1) (gI z.cells 2) (gI z.cells 3)
def qm7 (y:AV):Bool:=qd9 (gB y.cells 0) (gI y.cells 1) (gI y.cells 2) (gI y.cells 3)
def qfi (y z:AV):Bool:=qkn (gB y.cells 0) (gI y.cells 1) (gI y.cells 2) (gI y.cells 3) (gB z.cells 0) (gI z.cells 1) (gI z.cells 2) (gI z.cells 3)
def qbw (y z:AV):Bool:=bif(qfi y z&&decide (gI y.cells 3>gI z.cells 3))then(bif gI z.cells 4==3 then true else bif gI z.cells 4==2 then gI y.cells 4 != 3 else false)else false
theorem qb40 (y z:AV)(hy:qg7 y):q0n (gB y.cells 0) (gI y.cells 1) (gI y.cells 2) (gI y.cells 3) (gI y.cells 4) (gS y.cells 5) (gS y.cells 6) (gI y.cells 7) (gB z.cells 0) (gI z.cells 1) (gI z.cells 2) (gI z.cells 3) (gI z.cells 4) (gS z.cells 5) (gS z.cells 6) (gI z.cells 7)=some (qbw y z):=by
 rw[qbix];unfold qp0 qbw
 rw[qbsc];unfold qyd
 simp only[qbkb _ _ _ _ _ _ _ _ hy.2.1 hy.2.2.1,zos,qr4]
 rfl
structure Row (l:LA)(j:Nat)(y:AV):Prop where
 p:qm7 y=true
 may:mayB y=true
 lt:∀i z,j=i+1->l[i]?=some z->ltY z y
 bar:∀k z,k<j->l[k]?=some z->qbw y z=false
def qcz (l:LA):Prop:=∀j y,l[j]?=some y->Row l j y
def blkV (y:AV):AV:=.agg [(.bool (gB y.cells 0)),(.int .u64 (gI y.cells 1)),(.int .u64 (gI y.cells 2)),(.int .i64 (gI y.cells 3)),(.int .i64 (gI y.cells 4)),(.str (gS y.cells 5)),(.str (gS y.cells 6)),(.int .i64 (gI y.cells 7))]
def blk0:AV:=.agg [(.bool false),(.int .u64 0),(.int .u64 0),(.int .i64 0),(.int .i64 0),(.str []),(.str []),(.int .i64 0)]
def qbe9 (l:LA)(v6:Bool)(hi lo bits:Int):AV×Bool:=match l.find? (atP v6 hi lo bits)with
 |some y=>(blkV y,true)
 |none=>(blk0,false)
def idxO (q:AV->Bool):List AV->Option Nat
 |[]=>none
 |y::r=>if q y then some 0 else(idxO q r).map (· +1)
theorem qpa {q:AV->Bool}:∀(l:LA) (k:Nat),idxO q l=some k->∃y,l[k]?=some y/\l.find? q=some y
 |y::r,k,h=>by
  unfold idxO at h
  cases hq:q y with
  |true=>simp[hq]at h;subst h;exact⟨y,rfl,by simp[hq]⟩
  |false=>
   simp[hq]at h
   obtain⟨k',h1,rfl⟩:=h
   obtain⟨z,h2,h3⟩:=qpa r k' h1
   exact⟨z,by simpa using h2,by simp[hq,h3]⟩
theorem qbug {q:AV->Bool}:∀(l:LA),idxO q l=none->l.find? q=none
 |[],_=>rfl
 |y::r,h=>by
  unfold idxO at h
  cases hq:q y with
  |true=>simp[hq]at h
  |false=>simp[hq]at h;simp[List.find?_cons,hq];simpa using qbug r h
def idxI (q:AV->Bool)(l:LA):Int:=match idxO q l with
 |some k=>(k:Int)
 |none=> -1
theorem qbow (l:LA)(hl:qn l)(v6:Bool)(hi lo bits:Int):quf l v6 hi lo bits=some (idxI (atP v6 hi lo bits) l):=by
 rw[qbpc];unfold qvq
 rw[qkr];unfold qb5
 rw[qjn]
 have key:=qb0 l hl.1 (fun n i (s:Bool×Int×Int×Int)=>qbg l (l.length:Int) (fun b0_0 b0_1 b0_2 b0_3=>some (-1:Int)) (fun v4q1 b0_0q2 b0_1q3 b0_2q4 b0_3q5=>some v4q1) n i s.1 s.2.1 s.2.2.1 s.2.2.2)
  (fun i s nx=>qbf l (l.length:Int) i s.1 s.2.1 s.2.2.1 s.2.2.2 (fun a b c d e=>nx a (b,c,d,e)) (fun b0_0 b0_1 b0_2 b0_3=>some (-1:Int)) (fun v4q1 b0_0q2 b0_1q3 b0_2q4 b0_3q5=>some v4q1)) (fun _ _ _=>rfl)
  (fun i s=>s=(v6,hi,lo,bits)) (fun r s=>some (match idxO (atP v6 hi lo bits) r with|some k=>((l.length-r.length+k:Nat):Int)|none=> -1)) ?_ ?_ (v6,hi,lo,bits) FU rfl (qca (by have:=hl.1;omega))
 · refine key.trans ?_
   unfold idxI
   cases idxO (atP v6 hi lo bits) l<;>simp
 · intro s nx hs
   simp[qbf,idxO]
 · rintro i y r _ nx h1 h2 h3 h4 rfl h5
   have hy:=hl.2 y (zmg h2)
   have h6:(i:Int)<(l.length:Int):=by omega
   have hr:r.length=l.length-(i+1):=by
    have:=congrArg List.length h1
    simp at this
    omega
   unfold qbf
   simp only[h6,zdt,zct,zin,h2,zos,hy.1,qbk8,qqx,h4]
   rw[show((gB y.cells 0==v6)&&((gI y.cells 1==hi)&&((gI y.cells 2==lo)&&((gI y.cells 3==bits)&&true))))=atP v6 hi lo bits y from rfl]
   unfold idxO
   cases hq:atP v6 hi lo bits y with
   |true=>
    simp
    omega
   |false=>
    simp only[zcf,Bool.false_eq_true,if_false]
    rw[h5 _ rfl]
    cases idxO (atP v6 hi lo bits) r with
    |none=>rfl
    |some k=>simp;omega
theorem qbz0 (l:LA)(hl:qn l)(v6:Bool)(hi lo bits:Int):qso l v6 hi lo bits=some (qbe9 l v6 hi lo bits):=by
 rw[qbr3];unfold qx1 qbe9
 simp only[qbow l hl,zos]
 unfold idxI
 cases hq:idxO (atP v6 hi lo bits) l with
 |none=>
  rw[qbug l hq]
  rfl
 |some k=>
  obtain⟨y,h1,h2⟩:=qpa l k hq
  have hy:=hl.2 y (zmg h1)
  have h3:(k:Int)>=0:=by omega
  rw[h2]
  simp only[h3,zdt,zct,zin,h1,zos,hy.1]
  rfl
theorem qbuh {x:Int}(m:Int)(h:uok x):qbn .andNot .u64 x m<=x:=by
 rw[q33]
 have:=qwi (BitVec.ofInt 64 x) (BitVec.ofInt 64 m)
 have h2:=q1a h
 omega
theorem qbm8 {x m:Int}(h:uok x)(h0:qbn .and .u64 x m=0):qbn .andNot .u64 x m=x:=by
 rw[qbcy]at h0
 rw[q33]
 have:=qwi (BitVec.ofInt 64 x) (BitVec.ofInt 64 m)
 have h2:=q1a h
 omega
theorem qcz.sorted {l:LA}(h:qcz l)(i:Nat)(y:AV)(hy:l[i]?=some y):∀j z,i<j->l[j]?=some z->ltY y z:=by
 intro j
 induction j with
 |zero=>intro z hj;omega
 |succ j ih=>
  intro z hj hz
  obtain⟨x,hx⟩:∃x,l[j]?=some x:=by
   have:=(zge.1 hz).1
   exact⟨l[j],by simp⟩
  have h1:=(h (j+1) z hz).lt j x rfl hx
  by_cases hij:i=j
  · subst hij
    rw[hy]at hx;cases hx
    exact h1
  · exact qzu (ih x (by omega) hx) h1
theorem qbf2 {y z:AV}(hy:qg7 y)(hw:qfi y z=true)(hne:atP (gB z.cells 0) (gI z.cells 1) (gI z.cells 2) (gI z.cells 3) y=false):ltY z y/\gI y.cells 3>gI z.cells 3:=by
 unfold qfi qkn qg9 at hw
 simp only[zat,beq_iff_eq,decide_eq_true_eq]at hw
 obtain⟨h1,h2,h3,h4,h5,h6,h7⟩:=hw
 have hp:=h1
 simp only[qd9,zat,beq_iff_eq]at hp
 have hb:gI y.cells 3≠gI z.cells 3:=by
  intro hb
  rw[<-h5,hb]at hp
  rw[qbm8 hy.2.1 hp.1.2]at h6
  rw[qbm8 hy.2.2.1 hp.2]at h7
  have:atP (gB z.cells 0) (gI z.cells 1) (gI z.cells 2) (gI z.cells 3) y=true:=qqn.2 ⟨h5.symm,h6,h7,hb⟩
  rw[this]at hne
  cases hne
 have a1:=qbuh (qgd (ql (gB z.cells 0)-gI z.cells 3).toNat).1 hy.2.1
 have a2:=qbuh (qgd (ql (gB z.cells 0)-gI z.cells 3).toNat).2 hy.2.2.1
 rw[h6]at a1
 rw[h7]at a2
 refine⟨.inr ⟨h5,?_⟩,by omega⟩
 omega
def numP (hi lo:Int):Nat:=hi.toNat*18446744073709551616+lo.toNat
def kOf (v6:Bool)(bits:Int):Nat:=(ql v6-bits).toNat
theorem qbfa:(2:Nat)^64=18446744073709551616:=by decide
theorem qbxs (x j:Nat):x&&& (2^j-1)=x%2^j:=Nat.and_two_pow_sub_one_eq_mod x j
theorem qxu {x:Int}(h:uok x)(j:Nat)(hj:j<=64):qbn .and .u64 x ((2^j-1:Nat):Int)=((x.toNat%2^j:Nat):Int):=by
 rw[qbcy]
 congr 1
 have e1:=q1a h
 have hp:(2:Nat)^j<=2^64:=Nat.pow_le_pow_right (by decide) hj
 have h0:0<(2:Nat)^j:=Nat.two_pow_pos j
 have e2:=q1a (x:=((2^j-1:Nat):Int)) ⟨by omega,by rw[qbfa]at hp;omega⟩
 rw[BitVec.toNat_and]
 have e3:(BitVec.ofInt 64 x).toNat=x.toNat:=by omega
 have e4:(BitVec.ofInt 64 ((2^j-1:Nat):Int)).toNat=2^j-1:=by omega
 rw[e3,e4]
 exact qbxs _ _
theorem q2q {x:Int}(h:uok x)(j:Nat)(hj:j<=64):qbn .andNot .u64 x ((2^j-1:Nat):Int)=((x.toNat-x.toNat%2^j:Nat):Int):=by
 have h1:=qxu h j hj
 rw[qbcy]at h1
 rw[q33]
 have h2:=qwi (BitVec.ofInt 64 x) (BitVec.ofInt 64 ((2^j-1:Nat):Int))
 have h3:=q1a h
 have h4:x.toNat%2^j<=x.toNat:=Nat.mod_le _ _
 omega
theorem qbxt:∀n:Fin 65,qgd n=(0,((2^n.val-1:Nat):Int)):=by decide+kernel
theorem qbui:∀n:Fin 65,qgd (n.val+64)=(((2^n.val-1:Nat):Int),((2^64-1:Nat):Int)):=by decide+kernel
theorem q3a {x:Int}(h:uok x):qbn .and .u64 x 0=0:=by
 have:=qxu h 0 (by omega)
 simpa[Nat.mod_one]using this
theorem qbkc (hi lo k:Nat)(hk:k<=64):(hi*18446744073709551616+lo)%2^k=lo%2^k:=by
 have:18446744073709551616=2^k*2^(64-k):=by rw[<-Nat.pow_add,<-qbfa];congr 1;omega
 rw[this,show hi*(2^k*2^(64-k))+lo=lo+2^k*(hi*2^(64-k)) by rw[Nat.add_comm];congr 1;rw[Nat.mul_left_comm],Nat.add_mul_mod_self_left]
theorem qbsw (hi lo j:Nat)(hl:lo<18446744073709551616):(hi*18446744073709551616+lo)%2^(j+64)=hi%2^j*18446744073709551616+lo:=by
 have h0:0<(2:Nat)^j:=Nat.two_pow_pos j
 have h1:=Nat.div_add_mod hi (2^j)
 have h2:=Nat.mod_lt hi h0
 rw[Nat.pow_add,qbfa]
 have e:hi*18446744073709551616+lo=(hi%2^j*18446744073709551616+lo)+2^j*18446744073709551616*(hi / 2^j):=by
  calc hi*18446744073709551616+lo=(2^j*(hi / 2^j)+hi%2^j)*18446744073709551616+lo:=by rw[h1]
   _=_:=by rw[Nat.add_mul];rw[show 2^j*(hi / 2^j)*18446744073709551616=2^j*18446744073709551616*(hi / 2^j) by rw[Nat.mul_right_comm]];omega
 rw[e,Nat.add_mul_mod_self_left]
 refine Nat.mod_eq_of_lt ?_
 have h3:(hi%2^j+1)*18446744073709551616<=2^j*18446744073709551616:=zmm _ h2
 rw[Nat.add_mul]at h3
 omega
theorem qbz1 {hi lo:Int}(u1:uok hi)(u2:uok lo)(k:Nat)(hk:k<=128):
 uok (qbn .andNot .u64 hi (qgd k).1)/\uok (qbn .andNot .u64 lo (qgd k).2)/\numP (qbn .andNot .u64 hi (qgd k).1) (qbn .andNot .u64 lo (qgd k).2)=numP hi lo-numP hi lo%2^k:=by
 obtain⟨a1,a2⟩:=u1
 obtain⟨b1,b2⟩:=u2
 rcases Nat.lt_or_ge k 65 with h|h
 · have e:=qbxt ⟨k,h⟩
   simp only at e
   rw[e,q2q ⟨b1,b2⟩ k (by omega),qbza ⟨a1,a2⟩]
   have hm:=qbkc hi.toNat lo.toNat k (by omega)
   have hle:=Nat.mod_le lo.toNat (2^k)
   refine⟨⟨a1,a2⟩,⟨by omega,by omega⟩,?_⟩
   unfold numP
   rw[hm]
   omega
 · obtain⟨j,rfl⟩:∃j,k=j+64:=⟨k-64,by omega⟩
   have e:=qbui ⟨j,by omega⟩
   simp only at e
   rw[e,q2q ⟨a1,a2⟩ j (by omega),q2q ⟨b1,b2⟩ 64 (by omega)]
   have hm:=qbsw hi.toNat lo.toNat j (by omega)
   have hle:=Nat.mod_le hi.toNat (2^j)
   have hlo:lo.toNat%2^64=lo.toNat:=Nat.mod_eq_of_lt (by rw[qbfa];omega)
   refine⟨⟨by omega,by omega⟩,⟨by omega,by omega⟩,?_⟩
   unfold numP
   rw[hm,hlo]
   omega
theorem qb7d {hi lo:Int}(u1:uok hi)(u2:uok lo)(k:Nat)(hk:k<=128):
 (qbn .and .u64 hi (qgd k).1=0/\qbn .and .u64 lo (qgd k).2=0)↔numP hi lo%2^k=0:=by
 obtain⟨a1,a2⟩:=u1
 obtain⟨b1,b2⟩:=u2
 rcases Nat.lt_or_ge k 65 with h|h
 · have e:=qbxt ⟨k,h⟩
   simp only at e
   rw[e,qxu ⟨b1,b2⟩ k (by omega),q3a ⟨a1,a2⟩]
   have hm:=qbkc hi.toNat lo.toNat k (by omega)
   unfold numP
   rw[hm]
   generalize lo.toNat%2^k=q
   constructor
   · rintro⟨_,h⟩;omega
   · intro h;exact⟨rfl,by omega⟩
 · obtain⟨j,rfl⟩:∃j,k=j+64:=⟨k-64,by omega⟩
   have e:=qbui ⟨j,by omega⟩
   simp only at e
   rw[e,qxu ⟨a1,a2⟩ j (by omega),qxu ⟨b1,b2⟩ 64 (by omega)]
   have hm:=qbsw hi.toNat lo.toNat j (by omega)
   have hlo:lo.toNat%2^64=lo.toNat:=Nat.mod_eq_of_lt (by rw[qbfa];omega)
   unfold numP
   rw[hm,hlo]
   constructor
   · rintro⟨h1,h2⟩
     have:hi.toNat%2^j=0:=by omega
     rw[this];omega
   · intro h1
     revert h1
     generalize hi.toNat%2^j=q
     intro h1
     have h4:q=0:=by omega
     have h5:lo.toNat=0:=by omega
     exact⟨by omega,by omega⟩
theorem qbxu {hi lo hi' lo':Int}(u1:uok hi)(u2:uok lo)(u3:uok hi')(u4:uok lo')(h:numP hi lo=numP hi' lo'):hi=hi'/\lo=lo':=by
 unfold numP at h
 unfold uok at*
 omega
theorem q1b {v6:Bool}{hi lo bits:Int}(u1:uok hi)(u2:uok lo):qd9 v6 hi lo bits=true↔qfy v6 hi lo=true/\0<=bits/\bits<=ql v6/\numP hi lo%2^kOf v6 bits=0:=by
 by_cases h:0<=bits
 · have hl:=qkm v6
   have:=qb7d u1 u2 (kOf v6 bits) (by unfold kOf;omega)
   unfold qd9
   simp only[zat,decide_eq_true_eq,beq_iff_eq]
   unfold kOf at*
   rw[<-this]
   constructor
   · rintro⟨⟨⟨⟨a,b⟩,c⟩,d⟩,e⟩;exact⟨a,b,c,d,e⟩
   · rintro⟨a,b,c,d,e⟩;exact⟨⟨⟨⟨a,b⟩,c⟩,d⟩,e⟩
 · unfold qd9
   simp[h]
theorem qbuj {v6:Bool}{hi lo bits:Int}{w6:Bool}{ahi alo:Int}(h1:uok hi)(h2:uok lo)(u1:uok ahi)(u2:uok alo):
 qg9 v6 hi lo bits w6 ahi alo=true↔qd9 v6 hi lo bits=true/\qfy w6 ahi alo=true/\v6=w6/\numP hi lo=numP ahi alo-numP ahi alo%2^kOf v6 bits:=by
 unfold qg9
 simp only[zat,beq_iff_eq]
 constructor
 · rintro⟨a,b,c,d,e⟩
   refine⟨a,b,c,?_⟩
   obtain⟨r1,r2,_⟩:=qe2 a
   have hl:=qkm v6
   obtain⟨_,_,h⟩:=qbz1 u1 u2 (kOf v6 bits) (by unfold kOf;omega)
   unfold kOf at h
   rw[d,e]at h
   exact h
 · rintro⟨a,b,c,d⟩
   refine⟨a,b,c,?_⟩
   obtain⟨r1,r2,_⟩:=qe2 a
   have hl:=qkm v6
   obtain⟨k1,k2,h⟩:=qbz1 u1 u2 (kOf v6 bits) (by unfold kOf;omega)
   rw[<-d]at h
   obtain⟨e1,e2⟩:=qbxu k1 k2 h1 h2 h
   exact⟨e1,e2⟩
structure Np where
 v:Bool
 n:Nat
 k:Nat
def Np.ok (p:Np):Prop:=p.n%2^p.k=0
def Np.sub (p q:Np):Prop:=p.v=q.v/\p.k<=q.k/\p.n-p.n%2^q.k=q.n
theorem qbkx {a b:Nat}(h:a<=b):2^a ∣ 2^b:=Nat.pow_dvd_pow 2 h
theorem qbz2 {n a b:Nat}(h:a<=b):(n-n%2^a)-(n-n%2^a)%2^b=n-n%2^b:=by
 have h0:=Nat.two_pow_pos a
 have h1:=Nat.two_pow_pos b
 obtain⟨c,hc⟩:=qbkx h
 have e1:n-n%2^a=2^a*(n / 2^a):=by have:=Nat.div_add_mod n (2^a);omega
 have e2:∀m,m-m%2^b=2^b*(m / 2^b):=fun m=>by have:=Nat.div_add_mod m (2^b);omega
 rw[e2,e2 n]
 congr 1
 rw[e1,hc,<-Nat.div_div_eq_div_mul,<-Nat.div_div_eq_div_mul,Nat.mul_div_cancel_left _ h0]
theorem Np.sub_refl {p:Np}(h:p.ok):p.sub p:=⟨rfl,Nat.le_refl _,by unfold Np.ok at h;rw[h];rfl⟩
theorem Np.sub_trans {p q r:Np}(h1:p.sub q)(h2:q.sub r):p.sub r:=by
 obtain⟨a1,a2,a3⟩:=h1
 obtain⟨b1,b2,b3⟩:=h2
 refine⟨a1.trans b1,Nat.le_trans a2 b2,?_⟩
 rw[<-b3,<-a3,qbz2 b2]
theorem Np.sub_antisymm {p q:Np}(hp:p.ok)(h1:p.sub q)(h2:q.sub p):p=q:=by
 obtain⟨a1,a2,a3⟩:=h1
 obtain⟨b1,b2,b3⟩:=h2
 have hk:p.k=q.k:=Nat.le_antisymm a2 b2
 have hn:p.n=q.n:=by
  unfold Np.ok at hp
  rw[<-hk,hp]at a3
  exact a3
 cases p;cases q;simp only at*
 subst a1 hk hn
 rfl
theorem Np.nest {p q r:Np}(h1:p.sub q)(h2:p.sub r)(h:q.k<=r.k):q.sub r:=by
 obtain⟨a1,a2,a3⟩:=h1
 obtain⟨b1,b2,b3⟩:=h2
 exact⟨a1.symm.trans b1,h,by rw[<-a3,qbz2 h];exact b3⟩
theorem qbsx (v6:Bool)(hi lo:Int)(w6:Bool)(whi wlo:Int):quh v6 hi lo w6 whi wlo=some (cmpA v6 hi lo w6 whi wlo):=by
 rw[qbpg];unfold qvs cmpA
 simp only[qbr2,qx0,qr4,zos]
 by_cases h1:v6=w6
 · subst h1
   by_cases h2:hi=whi
   · subst h2;simp
   · by_cases h3:hi<whi
     · simp[h2,h3]
     · have:hi>whi:=by omega
       simp[h2,h3,this]
 · cases v6<;>cases w6<;>simp at h1⊢
theorem qb24 (v6:Bool)(hi lo bits:Int)(w6:Bool)(whi wlo wbits:Int):qvt v6 hi lo bits w6 whi wlo wbits=some (cmpP v6 hi lo bits w6 whi wlo wbits):=by
 rw[qbk9];unfold qqy cmpP
 simp only[qbsx,zos,qr4]
theorem q5j (v6:Bool)(hi lo bits:Int)(w6:Bool)(whi wlo wbits:Int):
 (cmpP v6 hi lo bits w6 whi wlo wbits<0/\ltP v6 hi lo bits w6 whi wlo wbits)\/(cmpP v6 hi lo bits w6 whi wlo wbits=0/\v6=w6/\hi=whi/\lo=wlo/\bits=wbits)\/(cmpP v6 hi lo bits w6 whi wlo wbits>0/\ltP w6 whi wlo wbits v6 hi lo bits):=by
 unfold cmpP cmpA ltP
 by_cases h1:v6=w6
 · subst h1
   by_cases h2:hi=whi
   · subst h2
     by_cases h3:lo<wlo
     · left;simp[h3]
     · by_cases h4:lo>wlo
       · right;right;simp[h3,h4]
       · have:lo=wlo:=by omega
         subst this
         by_cases h5:bits<wbits
         · left;simp[h5]
         · by_cases h6:bits>wbits
           · right;right;simp[h5,h6]
           · right;left
             have:bits=wbits:=by omega
             subst this;simp
   · have h2':(hi != whi)=true:=by simpa using h2
     by_cases h3:hi<whi
     · left;simp[h2',h3]
     · have h4:whi<hi:=by omega
       right;right;simp[h2',h3,h4]
 · cases v6<;>cases w6<;>simp at h1⊢
def cmpY (y z:AV):Int:=cmpP (gB y.cells 0) (gI y.cells 1) (gI y.cells 2) (gI y.cells 3) (gB z.cells 0) (gI z.cells 1) (gI z.cells 2) (gI z.cells 3)
def samP (y z:AV):Bool:=(gB y.cells 0==gB z.cells 0)&&((gI y.cells 1==gI z.cells 1)&&((gI y.cells 2==gI z.cells 2)&&((gI y.cells 3==gI z.cells 3)&&true)))
theorem qbfb {y z:AV}:samP y z=true↔gB y.cells 0=gB z.cells 0/\gI y.cells 1=gI z.cells 1/\gI y.cells 2=gI z.cells 2/\gI y.cells 3=gI z.cells 3:=by simp[samP]
theorem q2r {y z:AV}:samP y z=true↔cmpY y z=0:=by
 rw[qbfb]
 unfold cmpY
 rcases q5j (gB y.cells 0) (gI y.cells 1) (gI y.cells 2) (gI y.cells 3) (gB z.cells 0) (gI z.cells 1) (gI z.cells 2) (gI z.cells 3)with⟨h,h2⟩|⟨h,h2⟩|⟨h,h2⟩
 · constructor
   · rintro⟨a,b,c,d⟩;rw[a,b,c,d]at h2;exact absurd h2 qff
   · intro h3;omega
 · exact⟨fun _=>h,fun _=>h2⟩
 · constructor
   · rintro⟨a,b,c,d⟩;rw[a,b,c,d]at h2;exact absurd h2 qff
   · intro h3;omega
theorem qpb (y z:AV):(cmpY y z>0↔cmpY z y<0)/\(cmpY y z=0↔cmpY z y=0)/\(cmpY y z<0↔ltY y z):=by
 unfold cmpY ltY
 have irr:∀{a:Bool} {b c d:Int} {a':Bool} {b' c' d':Int},ltP a b c d a' b' c' d'->¬ltP a' b' c' d' a b c d:=fun h1 h2=>qff (qzu h1 h2)
 rcases q5j (gB y.cells 0) (gI y.cells 1) (gI y.cells 2) (gI y.cells 3) (gB z.cells 0) (gI z.cells 1) (gI z.cells 2) (gI z.cells 3)with⟨h,h2⟩|⟨h,a,b,c,d⟩|⟨h,h2⟩<;>
 rcases q5j (gB z.cells 0) (gI z.cells 1) (gI z.cells 2) (gI z.cells 3) (gB y.cells 0) (gI y.cells 1) (gI y.cells 2) (gI y.cells 3)with⟨k,k2⟩|⟨k,a',b',c',d'⟩|⟨k,k2⟩
 · exact absurd k2 (irr h2)
 · rw[a',b',c',d']at h2;exact absurd h2 qff
 · exact⟨by constructor<;>intro<;>omega,by constructor<;>intro<;>omega,⟨fun _=>h2,fun _=>h⟩⟩
 · rw[a,b,c,d]at k2;exact absurd k2 qff
 · refine⟨by constructor<;>intro<;>omega,by constructor<;>intro<;>omega,⟨fun _=>by omega,fun h3=> ?_⟩⟩
   rw[a,b,c,d]at h3;exact absurd h3 qff
 · rw[a,b,c,d]at k2;exact absurd k2 qff
 · refine⟨by constructor<;>intro<;>omega,by constructor<;>intro<;>omega,⟨fun _=>by omega,fun h3=>absurd h3 (irr h2)⟩⟩
 · rw[a',b',c',d']at h2;exact absurd h2 qff
 · exact absurd k2 (irr h2)
def qbv3 (y z:AV):Bool:=decide (gI y.cells 3>gI z.cells 3)&&qfi y z
def qyl (v6:Bool)(hi lo bits:Int)(w6:Bool)(whi wlo wbits:Int):Bool:=decide (bits>wbits)&&qkn v6 hi lo bits w6 whi wlo wbits
theorem qbxv (v6:Bool)(hi lo bits:Int)(w6:Bool)(whi wlo wbits:Int):qw8 v6 hi lo bits w6 whi wlo wbits=some (qyl v6 hi lo bits w6 whi wlo wbits):=by
 rw[qbr1];unfold qxz qyl
 simp only[q9h,zos]
 cases decide (bits>wbits)<;>rfl
theorem qbuk (s:LU)(lo hi:Int)(hs:s.length<=9223372036854775807):qvo s lo hi=some (decide ((s.length:Int)>=lo)&&(decide ((s.length:Int)<=hi)&&qqm s)):=by
 rw[qbk6];unfold qqw
 have e:qud s (s.length:Int) (fun(_:Unit)=>some true) FU 0=some (qqm s):=by
  rw[qbar,qfx s hs (qh5 s (s.length:Int) fun _=>some true) (fun i nx=>qh4 s (s.length:Int) i nx fun _=>some true) (fun _ _=>rfl) (fun r=>some (qqm r))]
  · intro nx;simp[qh4,qqm]
  · intro i y r nx h1 h2 h3 h4 h5
    have h6:(i:Int)<(s.length:Int):=by omega
    unfold qh4
    simp only[h6,zdt,zct,zin,h2,zos,h4,h5,qqm,List.all_cons]
    by_cases a1:(y.toNat:Int)<33
    · have a2:¬33<=y.toNat:=by omega
      simp[a1,a2]
    · have a2:33<=y.toNat:=by omega
      by_cases b1:(y.toNat:Int)>126
      · have b2:¬y.toNat<=126:=by omega
        simp[a1,a2,b1,b2]
      · have b2:y.toNat<=126:=by omega
        simp[a1,a2,b1,b2]
 rw[e]
 by_cases h1:(s.length:Int)<lo
 · have:¬(s.length:Int)>=lo:=by omega
   simp[h1,this]
 · have h1':(s.length:Int)>=lo:=by omega
   by_cases h2:(s.length:Int)>hi
   · have:¬(s.length:Int)<=hi:=by omega
     simp[h1,h2,this]
   · have:(s.length:Int)<=hi:=by omega
     simp[h1,h2,this,h1']
def q1c (y:AV):Int:=bif !qm7 y then 3 else bif !mayB y then 1 else 0
theorem qbz3 (y:AV)(hy:qg7 y):que (gB y.cells 0) (gI y.cells 1) (gI y.cells 2) (gI y.cells 3) (gI y.cells 4) (gS y.cells 5) (gS y.cells 6) (gI y.cells 7)=some (q1c y):=by
 have hw:q50 (gB y.cells 0) (gI y.cells 1) (gI y.cells 2) (gI y.cells 3)=some (ql (gB y.cells 0)):=by
  rw[qbpa];unfold qvn ql;cases gB y.cells 0<;>rfl
 rw[qbpb];unfold qvp q1c qm7 mayB
 simp only[qbf4,qn9,q7f,qbuk _ _ _ hy.2.2.2.1,qbuk _ _ _ hy.2.2.2.2,hw,zos]
 have e1:decide (((gS y.cells 6).length:Int)>=0)=true:=by simp
 rw[e1]
 cases qd9 (gB y.cells 0) (gI y.cells 1) (gI y.cells 2) (gI y.cells 3)
 · rfl
 · have e2:decide (gI y.cells 7<0)= !decide (gI y.cells 7>=0):=by rw[Bool.eq_iff_iff];simp
   have e3:decide (gI y.cells 7>4294967295)= !decide (gI y.cells 7<=4294967295):=by rw[Bool.eq_iff_iff];simp
   rw[e2,e3]
   cases decide (gI y.cells 4<1)<;>cases decide (gI y.cells 4>3)<;>cases(gI y.cells 4==3)<;>cases(gI y.cells 3 != ql (gB y.cells 0))<;>simp only[zct,zcf,znt,znf]<;>
    cases decide (((gS y.cells 5).length:Int)>=1)<;>cases decide (((gS y.cells 5).length:Int)<=63)<;>cases qqm (gS y.cells 5)<;>cases decide (((gS y.cells 6).length:Int)<=32)<;>cases qqm (gS y.cells 6)<;>cases decide (gI y.cells 7>=0)<;>cases decide (gI y.cells 7<=4294967295)<;>rfl
def admF (ko kb:Int):Bool:=bif ko==1 then true else bif ko==2 then kb==3 else false
theorem qb41 (y z:AV):q4c (gB z.cells 0) (gI z.cells 1) (gI z.cells 2) (gI z.cells 3) (gI z.cells 4) (gS z.cells 5) (gS z.cells 6) (gI z.cells 7) (gB y.cells 0) (gI y.cells 1) (gI y.cells 2) (gI y.cells 3) (gI y.cells 4) (gS y.cells 5) (gS y.cells 6) (gI y.cells 7)=some (admF (gI z.cells 4) (gI y.cells 4)):=by
 rw[qbnj];unfold qte admF
 simp only[qr4]
def misY (y z:AV):Bool:=qbv3 y z&& !admF (gI z.cells 4) (gI y.cells 4)
theorem qbz4 {y z:AV}(hz:mayB z=true):misY y z=qbw y z:=by
 have hk:1<=gI z.cells 4/\gI z.cells 4<=3:=by
  unfold mayB at hz
  by_cases h1:gI z.cells 4<1
  · simp[h1]at hz
  · by_cases h2:gI z.cells 4>3
    · simp[h1,h2]at hz
    · omega
 unfold misY qbw qbv3 admF
 have h3:gI z.cells 4=1\/gI z.cells 4=2\/gI z.cells 4=3:=by omega
 rcases h3 with h|h|h<;>rw[h]<;>cases qfi y z<;>cases decide (gI y.cells 3>gI z.cells 3)<;>cases hh:gI y.cells 4==3<;>simp[hh,bne]
theorem qvj (q:AV->Bool)(l:LA):decide (idxI q l>=0)=l.any q:=by
 unfold idxI
 have:(idxO q l).isSome=l.any q:=by
  induction l with
  |nil=>rfl
  |cons y r ih=>unfold idxO;cases hq:q y<;>simp[hq,ih]
 cases h:idxO q l with
 |none=>rw[h]at this;simp at this⊢;simpa using this
 |some k=>rw[h]at this;simp at this⊢;simpa using this
theorem qbfc {R:Type}(l:LA)(hl:qn l)(a0:Bool)(a1:Int)(a2:Int)(a3:Int)(a4:Int)(a5:LU)(a6:LU)(a7:Int)(kr:Int->Bool->Int->Int->Int->Int->List UInt8->List UInt8->Int->Option R)(q:AV->Bool)(hq:∀y,qg7 y->∀kr:Bool->Bool->Int->Int->Int->Int->List UInt8->List UInt8->Int->Option R,qug (gB y.cells 0) (gI y.cells 1) (gI y.cells 2) (gI y.cells 3) (gI y.cells 4) (gS y.cells 5) (gS y.cells 6) (gI y.cells 7) a0 a1 a2 a3 a4 a5 a6 a7 kr=kr (q y) a0 a1 a2 a3 a4 a5 a6 a7):
 qch l a0 a1 a2 a3 a4 a5 a6 a7 kr=kr (idxI q l) a0 a1 a2 a3 a4 a5 a6 a7:=by
 rw[qi7];unfold qbs
 rw[qhr]
 have key:=qb0 l hl.1 (fun n i (s:Bool×Int×Int×Int×Int×(List UInt8)×(List UInt8)×Int)=>qy l (l.length:Int) (fun c0 c1 c2 c3 c4 c5 c6 c7=>kr (-1:Int) c0 c1 c2 c3 c4 c5 c6 c7) kr n i s.1 s.2.1 s.2.2.1 s.2.2.2.1 s.2.2.2.2.1 s.2.2.2.2.2.1 s.2.2.2.2.2.2.1 s.2.2.2.2.2.2.2)
  (fun i s nx=>qx l (l.length:Int) i s.1 s.2.1 s.2.2.1 s.2.2.2.1 s.2.2.2.2.1 s.2.2.2.2.2.1 s.2.2.2.2.2.2.1 s.2.2.2.2.2.2.2 (fun i c0 c1 c2 c3 c4 c5 c6 c7=>nx i (c0,c1,c2,c3,c4,c5,c6,c7)) (fun c0 c1 c2 c3 c4 c5 c6 c7=>kr (-1:Int) c0 c1 c2 c3 c4 c5 c6 c7) kr) (fun _ _ _=>rfl)
  (fun i s=>s=(a0,a1,a2,a3,a4,a5,a6,a7)) (fun r s=>kr (match idxO q r with|some k=>((l.length-r.length+k:Nat):Int)|none=> -1) a0 a1 a2 a3 a4 a5 a6 a7) ?_ ?_ (a0,a1,a2,a3,a4,a5,a6,a7) FU rfl (qca (by have:=hl.1;omega))
 · refine key.trans ?_
   unfold idxI
   cases idxO q l<;>simp
 · intro s nx hs
   subst hs
   simp[qx,idxO]
 · rintro i y r _ nx h1 h2 h3 h4 rfl h5
   have hy:=hl.2 y (zmg h2)
   have h6:(i:Int)<(l.length:Int):=by omega
   have hr:r.length=l.length-(i+1):=by
    have:=congrArg List.length h1
    simp at this
    omega
   unfold qx
   simp only[h6,zdt,zct,zin,h2,zos,hy.1,hq y hy,h4]
   unfold idxO
   cases hqq:q y with
   |true=>
    simp only[zct,if_true]
    congr 1
    simp
    omega
   |false=>
    simp only[zcf,Bool.false_eq_true,if_false]
    rw[h5 _ rfl]
    cases idxO q r with
    |none=>rfl
    |some k=>
     simp
     congr 1
     omega
theorem qbm9 (l:LA)(hl:qn l)(y:AV):qni l (gB y.cells 0) (gI y.cells 1) (gI y.cells 2) (gI y.cells 3) (gI y.cells 4) (gS y.cells 5) (gS y.cells 6) (gI y.cells 7)=some (l.any (misY y)):=by
 rw[qbf5];unfold qob
 rw[qht];unfold qbo
 rw[qbfc l hl _ _ _ _ _ _ _ _ _ (misY y),qvj]
 intro z hz kr
 rw[qbav];unfold qmo
 simp only[qbxv,qb41,zos]
 have e:qyl (gB y.cells 0) (gI y.cells 1) (gI y.cells 2) (gI y.cells 3) (gB z.cells 0) (gI z.cells 1) (gI z.cells 2) (gI z.cells 3)=qbv3 y z:=rfl
 rw[e]
 unfold misY
 cases qbv3 y z<;>simp
theorem qb25 {α:Type}(l:List α)(i:Nat)(h:i<=l.length):cutI l none (some (i:Int))=some (l.take i):=by
 unfold cutI
 simp only[Option.getD_none,Option.getD_some,ztn]
 rw[if_pos ⟨by omega,by omega,by omega⟩]
 simp
def qm8 (pre:LA)(q:AV->Bool):Bool:=match pre.getLast? with
 |some x=>q x
 |none=>false
def q1d (pre:LA)(y:AV):Int:=
 bif !qm7 y then 3 else bif !mayB y then 1 else bif qm8 pre (fun x=>decide (cmpY x y>0))then 7 else bif qm8 pre (fun x=>samP x y)then 12 else bif pre.any (qbw y)then 24 else 0
def chkR:List AV->List AV->Int
 |_,[]=>0
 |pre,y::r=>bif q1d pre y != 0 then q1d pre y else chkR (pre++[y]) r
def qpc (l:LA):Int:=bif decide ((l.length:Int)>512)then 9 else chkR [] l
theorem qbrh {pre:LA}{y:AV}:q1d pre y=0↔qm7 y=true/\mayB y=true/\qm8 pre (fun x=>decide (cmpY x y>0))=false/\qm8 pre (fun x=>samP x y)=false/\pre.any (qbw y)=false:=by
 unfold q1d
 cases qm7 y<;>cases mayB y<;>cases qm8 pre (fun x=>decide (cmpY x y>0))<;>cases qm8 pre (fun x=>samP x y)<;>cases pre.any (qbw y)<;>simp
theorem q34 {α:Type}{l:List α}{i:Nat}(h:i+1<=l.length):(l.take (i+1)).getLast? =l[i]?:=by
 rw[List.getLast?_eq_getElem?]
 have:(l.take (i+1)).length=i+1:=by simp;omega
 rw[this,List.getElem?_take]
 simp
theorem qbxw {α:Type}{l r:List α}{a:α}{i:Nat}(h:l.drop i=a::r):l.length-(a::r).length=i/\l.length-r.length=i+1:=by
 have h1:=congrArg List.length h
 have h2:i<l.length:=by
  rcases Nat.lt_or_ge i l.length with h3|h3
  · exact h3
  · rw[List.drop_of_length_le h3]at h;cases h
 simp at h1⊢
 omega
theorem qbkd {α:Type}{l:List α}{i:Nat}{a:α}(h:l[i]?=some a):l.take (i+1)=l.take i++[a]:=by
 rw[List.take_add_one,h];rfl
theorem qb42 (l:LA)(hl:qn l):q6i l=some (qpc l):=by
 rw[qbpw];unfold qv3 qpc
 by_cases hlen:(l.length:Int)>512
 · simp[hlen]
 · simp only[hlen,zdf,zcf]
   rw[qbgv]
   have key:=qb0 (σ:=Unit) l hl.1 (fun n i _=>qlh l l (l.length:Int) (fun _=>some 0) n i) (fun i _ nx=>qlg l l (l.length:Int) i (fun j=>nx j ()) fun _=>some 0) (fun _ _ _=>rfl)
    (fun i _=>∀z,z∈l.take i->mayB z=true) (fun r _=>some (chkR (l.take (l.length-r.length)) r)) ?_ ?_ () FU (by simp) (qca (by have:=hl.1;omega))
   · simpa using key
   · intro _ nx _;simp[qlg,chkR]
   · rintro i y r _ nx h1 h2 h3 h4 hJ h5
     have hy:=hl.2 y (zmg h2)
     have h6:(i:Int)<(l.length:Int):=by omega
     obtain⟨e1,e2⟩:=qbxw h1
     have hti:qn (l.take i):=⟨by have:=hl.1;simp;omega,fun z hz=>hl.2 z (List.mem_of_mem_take hz)⟩
     have hmis:(l.take i).any (misY y)=(l.take i).any (qbw y):=by
      rw[Bool.eq_iff_iff,zay,zay]
      constructor<;>(rintro⟨z,hz,hb⟩;refine⟨z,hz,?_⟩;simpa[qbz4 (hJ z hz)]using hb)
     rw[e1]
     unfold qlg chkR
     simp only[h6,zdt,zct,zin,h2,zos,hy.1,qbz3 y hy,h4,qb25 l i (by omega),qbm9 _ hti,hmis]
     rw[show l.take i++[y]=l.take (l.length-r.length) by rw[e2];exact(qbkd h2).symm]
     by_cases hf:q1c y=0
     · have hf2:(q1c y != 0)=false:=by simpa using hf
       have hpm:qm7 y=true/\mayB y=true:=by
        unfold q1c at hf
        cases hp:qm7 y<;>cases hm:mayB y<;>simp[hp,hm]at hf⊢
       have hnx:nx ((i+1:Nat):Int) ()=some (chkR (l.take (l.length-r.length)) r):=by
        refine h5 () fun z hz=> ?_
        rw[qbkd h2]at hz
        rcases List.mem_append.1 hz with hz|hz
        · exact hJ z hz
        · simp at hz;subst hz;exact hpm.2
       simp only[hf2,zcf,hnx]
       have fin:(bif(l.take i).any (qbw y)then some (24:Int)else some (chkR (l.take (l.length-r.length)) r))=some (bif((bif(l.take i).any (qbw y)then(24:Int)else 0) != 0)then(bif(l.take i).any (qbw y)then(24:Int)else 0)else chkR (l.take (l.length-r.length)) r):=by
        cases(l.take i).any (qbw y)<;>simp
       rw[qbgu];unfold qom q1d
       simp only[hpm.1,hpm.2,znt,zcf]
       cases i with
       |zero=>
        have e0:∀q,qm8 (l.take 0) q=false:=fun q=>by simp[qm8]
        simp only[e0,zcf,Int.natCast_zero,Int.lt_irrefl,gt_iff_lt,zdf]
        exact fin
       |succ i=>
        have hpos:((i+1:Nat):Int)>0:=by omega
        have hw:i64.wrap (((i+1:Nat):Int)-1)=(i:Int):=by rw[w64 (by omega) (by have:=hl.1;omega)];omega
        obtain⟨x,hx⟩:∃x,l[i]?=some x:=⟨l[i],by simp⟩
        have hxf:=hl.2 x (zmg hx)
        have e0:∀q,qm8 (l.take (i+1)) q=q x:=fun q=>by unfold qm8;rw[q34 (by omega),hx]
        simp only[hpos,zdt,zct,hw,zin,hx,zos,hxf.1,qb24,e0]
        obtain⟨s1,s2,s3⟩:=qpb x y
        rw[show cmpP (gB y.cells 0) (gI y.cells 1) (gI y.cells 2) (gI y.cells 3) (gB x.cells 0) (gI x.cells 1) (gI x.cells 2) (gI x.cells 3)=cmpY y x from rfl]
        by_cases hc:cmpY y x<0
        · have hc2:=s1.2 hc
          simp[hc,hc2]
        · have hc2:¬cmpY x y>0:=fun h=>hc (s1.1 h)
          simp only[hc,hc2,zdf,zcf]
          by_cases hq:cmpY y x=0
          · have hs:samP x y=true:=q2r.2 (s2.2 hq)
            simp[hq,hs]
          · have hs:samP x y=false:=by
             rw[Bool.eq_false_iff];exact fun h=>hq (s2.1 (q2r.1 h))
            have hq2:(cmpY y x==0)=false:=by simpa using hq
            simp only[hq2,hs,zcf]
            exact fin
     · have hf2:(q1c y != 0)=true:=by simpa using hf
       simp only[hf2,zct]
       unfold q1d
       unfold q1c at hf⊢
       cases hp:qm7 y<;>cases hm:mayB y<;>simp[hp,hm]at hf⊢
theorem qb26 (l:LA)(hl:qn l):q12 l=some (qpc l):=by
 rw[qbl9];unfold qrg qpc
 by_cases hlen:(l.length:Int)>512
 · simp[hlen]
 · simp only[hlen,zdf,zcf]
   rw[qbbh,qfx l hl.1 (fun n i=>qid l (fun _=>some 0) n i) (fun i nx=>qic l i nx fun _=>some 0) (fun _ _=>rfl) (fun r=>some (chkR (l.take (l.length-r.length)) r))]
   · simp
   · intro nx;simp[qic,chkR]
   · intro i y r nx h1 h2 h3 h4 h5
     have hy:=hl.2 y (zmg h2)
     have h6:(i:Int)<(l.length:Int):=by omega
     obtain⟨e1,e2⟩:=qbxw h1
     rw[e1]
     have inner:qum l (i:Int) (fun _=>nx (i64.wrap ((i:Int)+1))) FU 0=bif(l.take i).any (qbw y)then some 24 else nx ((i+1:Nat):Int):=by
      have hti:(l.take i).length=i:=by simp;omega
      rw[qbbg,qfx (l.take i) (by have:=hl.1;omega) (qib l (i:Int) fun _=>nx (i64.wrap ((i:Int)+1))) (fun k nx'=>qia l (i:Int) k nx' fun _=>nx (i64.wrap ((i:Int)+1))) (fun _ _=>rfl) (fun r=>bif r.any (qbw y)then some 24 else nx ((i+1:Nat):Int))]
      · intro nx'
        unfold qia
        rw[hti]
        simp[h4]
      · intro k z r nx' g1 g2 g3 g4 g5
        have g6:(k:Int)<(i:Int):=by omega
        have g7:l[k]?=some z:=by rw[List.getElem?_take]at g2;split at g2;exact g2;cases g2
        have hz:=hl.2 z (zmg g7)
        unfold qia
        simp only[g6,zdt,zct,zin,h2,g7,zos,hy.1,hz.1,qb40 y z hy,g4,g5,List.any_cons]
        cases qbw y z<;>simp
     unfold qic chkR
     simp only[h6,zdt,zct,zin,h2,zos,hy.1,qbka,qb9w y hy,inner,h5]
     rw[show l.take i++[y]=l.take (l.length-r.length) by rw[e2];exact(qbkd h2).symm]
     rw[show qd9 (gB y.cells 0) (gI y.cells 1) (gI y.cells 2) (gI y.cells 3)=qm7 y from rfl]
     have fin:(bif(l.take i).any (qbw y)then some (24:Int)else some (chkR (l.take (l.length-r.length)) r))=some (bif((bif(l.take i).any (qbw y)then(24:Int)else 0) != 0)then(bif(l.take i).any (qbw y)then(24:Int)else 0)else chkR (l.take (l.length-r.length)) r):=by
      cases(l.take i).any (qbw y)<;>simp
     unfold q1d
     cases qm7 y with
     |false=>simp
     |true=>
      cases mayB y with
      |false=>simp
      |true=>
       simp only[znt,zcf,qbbd,qms,qbbf,qmt]
       cases i with
       |zero=>
        have e0:∀q,qm8 (l.take 0) q=false:=fun q=>by simp[qm8]
        simp only[e0,zcf,Int.natCast_zero,Int.lt_irrefl,gt_iff_lt,zdf]
        exact fin
       |succ i=>
        have hpos:((i+1:Nat):Int)>0:=by omega
        have hw:i64.wrap (((i+1:Nat):Int)-1)=(i:Int):=by rw[w64 (by omega) (by have:=hl.1;omega)];omega
        obtain⟨x,hx⟩:∃x,l[i]?=some x:=⟨l[i],by simp⟩
        have hxf:=hl.2 x (zmg hx)
        have e0:∀q,qm8 (l.take (i+1)) q=q x:=fun q=>by unfold qm8;rw[q34 (by omega),hx]
        simp only[hpos,zdt,zct,hw,zin,hx,h2,zos,hxf.1,hy.1,qb8t,e0]
        rw[show cmpP (gB x.cells 0) (gI x.cells 1) (gI x.cells 2) (gI x.cells 3) (gB y.cells 0) (gI y.cells 1) (gI y.cells 2) (gI y.cells 3)=cmpY x y from rfl]
        rw[show((gB x.cells 0==gB y.cells 0)&&((gI x.cells 1==gI y.cells 1)&&((gI x.cells 2==gI y.cells 2)&&((gI x.cells 3==gI y.cells 3)&&true))))=samP x y from rfl]
        cases decide (cmpY x y>0)with
        |true=>simp
        |false=>
         cases samP x y with
         |true=>simp
         |false=>
          simp only[zcf]
          exact fin
theorem qbul:∀(r pre:LA),chkR pre r=0↔∀(i:Nat) (y:AV),r[i]?=some y->q1d (pre++r.take i) y=0
 |[],pre=>by simp[chkR]
 |y::r,pre=>by
  unfold chkR
  by_cases he:q1d pre y=0
  · have he2:(q1d pre y != 0)=false:=by simpa using he
    rw[he2,zcf,qbul r (pre++[y])]
    constructor
    · intro h i z hz
      cases i with
      |zero=>simp at hz;subst hz;simpa using he
      |succ i=>
       have:=h i z (by simpa using hz)
       simpa using this
    · intro h i z hz
      have:=h (i+1) z (by simpa using hz)
      simpa using this
  · have he2:(q1d pre y != 0)=true:=by simpa using he
    rw[he2,zct]
    constructor
    · intro h;exact absurd h he
    · intro h;exact absurd (by simpa using h 0 y rfl) he
theorem qbum {l:LA}(hlen:l.length<=512):qpc l=0↔qcz l:=by
 unfold qpc
 have h0:¬(l.length:Int)>512:=by omega
 simp only[h0,zdf,zcf]
 rw[qbul]
 simp only[List.nil_append]
 have hs:∀x y:AV,(cmpY x y>0\/samP x y=true)↔¬ltY x y:=fun x y=>by
  obtain⟨_,_,s3⟩:=qpb x y
  rw[q2r,<-s3]
  omega
 constructor
 · intro h j y hy
   obtain⟨h1,h2,h3,h4,h5⟩:=qbrh.1 (h j y hy)
   have hjl:j<l.length:=(zge.1 hy).1
   refine⟨h1,h2,fun i z hj hz=> ?_,fun k z hk hz=> ?_⟩
   · subst hj
     unfold qm8 at h3 h4
     rw[q34 (by omega),hz]at h3 h4
     simp only[decide_eq_false_iff_not]at h3
     apply Classical.byContradiction
     intro hn
     rcases(hs z y).2 hn with h|h
     · exact h3 h
     · have h4':samP z y=false:=h4
       rw[h]at h4';cases h4'
   · rw[List.any_eq_false]at h5
     have:=h5 z (zmg (i:=k) (by rw[List.getElem?_take,if_pos hk];exact hz))
     simpa using this
 · intro h j y hy
   have hr:=h j y hy
   have hjl:j<l.length:=(zge.1 hy).1
   refine qbrh.2 ⟨hr.p,hr.may,?_,?_,?_⟩
   · cases j with
     |zero=>simp[qm8]
     |succ i=>
      obtain⟨x,hx⟩:∃x,l[i]?=some x:=⟨l[i],by simp⟩
      unfold qm8
      rw[q34 (by omega),hx]
      simp only[decide_eq_false_iff_not]
      exact fun hc=>(hs x y).1 (.inl hc) (hr.lt i x rfl hx)
   · cases j with
     |zero=>simp[qm8]
     |succ i=>
      obtain⟨x,hx⟩:∃x,l[i]?=some x:=⟨l[i],by simp⟩
      unfold qm8
      rw[q34 (by omega),hx]
      simp only
      rw[Bool.eq_false_iff]
      exact fun hc=>(hs x y).1 (.inr hc) (hr.lt i x rfl hx)
   · rw[List.any_eq_false]
     intro z hz
     obtain⟨k,hk⟩:=List.getElem?_of_mem hz
     rw[List.getElem?_take]at hk
     split at hk
     · rename_i hkj
       have:=hr.bar k z hkj hk
       simp[this]
     · cases hk
def mkB (b0:Bool)(b1 b2 b3 b4:Int)(b5 b6:LU)(b7:Int):AV:=.agg [(.bool b0),(.int .u64 b1),(.int .u64 b2),(.int .i64 b3),(.int .i64 b4),(.str b5),(.str b6),(.int .i64 b7)]
def mkP (b0:Bool)(b1 b2 b3:Int):AV:=.agg [(.bool b0),(.int .u64 b1),(.int .u64 b2),(.int .i64 b3)]
theorem qb9x {cs:LA}(h:fitC qb cs=true):cs=(mkB (gB cs 0) (gI cs 1) (gI cs 2) (gI cs 3) (gI cs 4) (gS cs 5) (gS cs 6) (gI cs 7)).cells:=by
 have:=qwf (ls:=qb) (by decide) h
 exact this.symm
theorem qe9 {y:AV}(h:fitC qb y.cells=true):mkB (gB y.cells 0) (gI y.cells 1) (gI y.cells 2) (gI y.cells 3) (gI y.cells 4) (gS y.cells 5) (gS y.cells 6) (gI y.cells 7)=y:=by
 have h1:=qb9x h
 cases y with
 |agg cs=>
  simp only[AV.cells]at h1⊢
  unfold mkB at h1⊢
  simp only[AV.cells]at h1
  rw[<-h1]
 |_=>
  have h2:=congrArg List.length h1
  simp[AV.cells,mkB]at h2
theorem qbun {y:AV}(h:fitC qb y.cells=true):blkV y=y:=qe9 h
def occF (l:LA)(v:Bool)(hi lo bits:Int):Bool:=l.any fun y=>qyl (gB y.cells 0) (gI y.cells 1) (gI y.cells 2) (gI y.cells 3) v hi lo bits
theorem qbhj {R:Type}(l:LA)(hl:qn l)(a0:Bool)(a1:Int)(a2:Int)(a3:Int)(kr:Int->Bool->Int->Int->Int->Option R)(q:AV->Bool)(hq:∀y,qg7 y->∀kr:Bool->Bool->Int->Int->Int->Option R,qwv (gB y.cells 0) (gI y.cells 1) (gI y.cells 2) (gI y.cells 3) (gI y.cells 4) (gS y.cells 5) (gS y.cells 6) (gI y.cells 7) a0 a1 a2 a3 kr=kr (q y) a0 a1 a2 a3):
 qcs l a0 a1 a2 a3 kr=kr (idxI q l) a0 a1 a2 a3:=by
 rw[qjq];unfold qbx
 rw[qhz]
 have key:=qb0 l hl.1 (fun n i (s:Bool×Int×Int×Int)=>qba l (l.length:Int) (fun c0 c1 c2 c3=>kr (-1:Int) c0 c1 c2 c3) kr n i s.1 s.2.1 s.2.2.1 s.2.2.2)
  (fun i s nx=>q9 l (l.length:Int) i s.1 s.2.1 s.2.2.1 s.2.2.2 (fun i c0 c1 c2 c3=>nx i (c0,c1,c2,c3)) (fun c0 c1 c2 c3=>kr (-1:Int) c0 c1 c2 c3) kr) (fun _ _ _=>rfl)
  (fun i s=>s=(a0,a1,a2,a3)) (fun r s=>kr (match idxO q r with|some k=>((l.length-r.length+k:Nat):Int)|none=> -1) a0 a1 a2 a3) ?_ ?_ (a0,a1,a2,a3) FU rfl (qca (by have:=hl.1;omega))
 · refine key.trans ?_
   unfold idxI
   cases idxO q l<;>simp
 · intro s nx hs
   subst hs
   simp[q9,idxO]
 · rintro i y r _ nx h1 h2 h3 h4 rfl h5
   have hy:=hl.2 y (zmg h2)
   have h6:(i:Int)<(l.length:Int):=by omega
   have hr:r.length=l.length-(i+1):=by
    have:=congrArg List.length h1
    simp at this
    omega
   unfold q9
   simp only[h6,zdt,zct,zin,h2,zos,hy.1,hq y hy,h4]
   unfold idxO
   cases hqq:q y with
   |true=>
    simp only[zct,if_true]
    congr 1
    simp
    omega
   |false=>
    simp only[zcf,Bool.false_eq_true,if_false]
    rw[h5 _ rfl]
    cases idxO q r with
    |none=>rfl
    |some k=>
     simp
     congr 1
     omega
theorem qbri (l:LA)(hl:qn l)(v:Bool)(hi lo bits:Int):qtf l v hi lo bits=some (occF l v hi lo bits):=by
 rw[qbhr];unfold qpm
 rw[qh1];unfold qbq
 rw[qbhj l hl _ _ _ _ _ (fun y=>qyl (gB y.cells 0) (gI y.cells 1) (gI y.cells 2) (gI y.cells 3) v hi lo bits),qvj]
 · rfl
 · intro z hz kr
   rw[qbc4];unfold qno
   simp only[qbxv,zos]
def insF (b:AV):List AV->List AV
 |[]=>[b]
 |y::r=>bif decide (cmpY y b>0)then b::y::r else y::insF b r
theorem q9i (b y:AV)(r:LA):insF b (y::r)=bif decide (cmpY y b>0)then b::y::r else y::insF b r:=rfl
theorem q7g (b:AV):∀l,(insF b l).length=l.length+1
 |[]=>rfl
 |y::r=>by unfold insF;cases decide (cmpY y b>0)<;>simp[q7g b r]
theorem qr5 {b y:AV}:∀{l:LA},y∈insF b l↔y=b\/y∈l
 |[]=>by simp[insF]
 |z::r=>by
  unfold insF
  cases decide (cmpY z b>0)
  · simp only[zcf,List.mem_cons,qr5 (l:=r)]
    constructor
    · rintro(h|h|h)
      · exact .inr (.inl h)
      · exact .inl h
      · exact .inr (.inr h)
    · rintro(h|h|h)
      · exact .inr (.inl h)
      · exact .inl h
      · exact .inr (.inr h)
  · simp
theorem qbxx (b:AV):∀l,insF b l=l.take ((idxO (fun y=>decide (cmpY y b>0)) l).getD l.length)++[b]++l.drop ((idxO (fun y=>decide (cmpY y b>0)) l).getD l.length)
 |[]=>rfl
 |y::r=>by
  unfold insF idxO
  have ih:=qbxx b r
  cases h:decide (cmpY y b>0)with
  |true=>simp
  |false=>
   simp only[zcf,Bool.false_eq_true,if_false]
   rw[ih]
   cases idxO (fun y=>decide (cmpY y b>0)) r<;>simp
theorem qbmp {R:Type}(l:LA)(hl:qn l)(a0:Bool)(a1:Int)(a2:Int)(a3:Int)(a4:Int)(a5:LU)(a6:LU)(a7:Int)(kr:Int->Bool->Int->Int->Int->Int->List UInt8->List UInt8->Int->Option R)(q:AV->Bool)(hq:∀y,qg7 y->∀kr:Bool->Bool->Int->Int->Int->Int->List UInt8->List UInt8->Int->Option R,qz4 (gB y.cells 0) (gI y.cells 1) (gI y.cells 2) (gI y.cells 3) (gI y.cells 4) (gS y.cells 5) (gS y.cells 6) (gI y.cells 7) a0 a1 a2 a3 a4 a5 a6 a7 kr=kr (q y) a0 a1 a2 a3 a4 a5 a6 a7):
 qcv l a0 a1 a2 a3 a4 a5 a6 a7 kr=kr (idxI q l) a0 a1 a2 a3 a4 a5 a6 a7:=by
 rw[qkd];unfold qb2
 rw[qi8]
 have key:=qb0 l hl.1 (fun n i (s:Bool×Int×Int×Int×Int×(List UInt8)×(List UInt8)×Int)=>qbc l (l.length:Int) (fun c0 c1 c2 c3 c4 c5 c6 c7=>kr (-1:Int) c0 c1 c2 c3 c4 c5 c6 c7) kr n i s.1 s.2.1 s.2.2.1 s.2.2.2.1 s.2.2.2.2.1 s.2.2.2.2.2.1 s.2.2.2.2.2.2.1 s.2.2.2.2.2.2.2)
  (fun i s nx=>qbb l (l.length:Int) i s.1 s.2.1 s.2.2.1 s.2.2.2.1 s.2.2.2.2.1 s.2.2.2.2.2.1 s.2.2.2.2.2.2.1 s.2.2.2.2.2.2.2 (fun i c0 c1 c2 c3 c4 c5 c6 c7=>nx i (c0,c1,c2,c3,c4,c5,c6,c7)) (fun c0 c1 c2 c3 c4 c5 c6 c7=>kr (-1:Int) c0 c1 c2 c3 c4 c5 c6 c7) kr) (fun _ _ _=>rfl)
  (fun i s=>s=(a0,a1,a2,a3,a4,a5,a6,a7)) (fun r s=>kr (match idxO q r with|some k=>((l.length-r.length+k:Nat):Int)|none=> -1) a0 a1 a2 a3 a4 a5 a6 a7) ?_ ?_ (a0,a1,a2,a3,a4,a5,a6,a7) FU rfl (qca (by have:=hl.1;omega))
 · refine key.trans ?_
   unfold idxI
   cases idxO q l<;>simp
 · intro s nx hs
   subst hs
   simp[qbb,idxO]
 · rintro i y r _ nx h1 h2 h3 h4 rfl h5
   have hy:=hl.2 y (zmg h2)
   have h6:(i:Int)<(l.length:Int):=by omega
   have hr:r.length=l.length-(i+1):=by
    have:=congrArg List.length h1
    simp at this
    omega
   unfold qbb
   simp only[h6,zdt,zct,zin,h2,zos,hy.1,hq y hy,h4]
   unfold idxO
   cases hqq:q y with
   |true=>
    simp only[zct,if_true]
    congr 1
    simp
    omega
   |false=>
    simp only[zcf,Bool.false_eq_true,if_false]
    rw[h5 _ rfl]
    cases idxO q r with
    |none=>rfl
    |some k=>
     simp
     congr 1
     omega
theorem qb43 (l:LA)(hl:qn l)(hn:l.length<=100000)(b0:Bool)(b1 b2 b3 b4:Int)(b5 b6:LU)(b7:Int):q4d l b0 b1 b2 b3 b4 b5 b6 b7=some (insF (mkB b0 b1 b2 b3 b4 b5 b6 b7) l):=by
 rw[qbnk];unfold qtg
 rw[qbmp l hl _ _ _ _ _ _ _ _ _ (fun y=>decide (cmpY y (mkB b0 b1 b2 b3 b4 b5 b6 b7)>0))]
 · have hc:qw l=some l:=by
    unfold qw q30
    have:l.length*80<=140737488355328:=by omega
    simp[this]
   rw[qbf8];unfold qoc
   have fin:∀k:Nat,k<=l.length->qql 80 l (k:Int) [mkB b0 b1 b2 b3 b4 b5 b6 b7]=some (l.take k++[mkB b0 b1 b2 b3 b4 b5 b6 b7]++l.drop k):=fun k hk=>by
    unfold qql
    have:(l.length+1)*80<=140737488355328:=by omega
    simp[hk,this]
   show(bif decide (idxI (fun y=>decide (cmpY y (mkB b0 b1 b2 b3 b4 b5 b6 b7)>0)) l<0)then(oB (qw l) fun r11=>(bif hd r11 r11.length then(bif hd [mkB b0 b1 b2 b3 b4 b5 b6 b7] ([mkB b0 b1 b2 b3 b4 b5 b6 b7].length)then(oB (qql 80 r11 (l.length:Int) [mkB b0 b1 b2 b3 b4 b5 b6 b7]) fun r12=>(bif hd r12 r12.length then(some r12)else none))else none)else none))else(oB (qw l) fun r11=>(bif hd r11 r11.length then(bif hd [mkB b0 b1 b2 b3 b4 b5 b6 b7] ([mkB b0 b1 b2 b3 b4 b5 b6 b7].length)then(oB (qql 80 r11 (idxI (fun y=>decide (cmpY y (mkB b0 b1 b2 b3 b4 b5 b6 b7)>0)) l) [mkB b0 b1 b2 b3 b4 b5 b6 b7]) fun r12=>(bif hd r12 r12.length then(some r12)else none))else none)else none)))=_
   rw[qbxx,hc]
   unfold idxI
   cases hq:idxO (fun y=>decide (cmpY y (mkB b0 b1 b2 b3 b4 b5 b6 b7)>0)) l with
   |none=>
    simp only[zos,zhs,zct,Option.getD_none]
    rw[fin l.length (Nat.le_refl _)]
    simp
   |some k=>
    obtain⟨y,hy,_⟩:=qpa l k hq
    have hk:=(zge.1 hy).1
    have h0:¬((k:Int)<0):=by omega
    simp only[zos,zhs,zct,h0,zdf,zcf,Option.getD_some]
    rw[fin k (by omega)]
    simp
 · intro z hz kr
   rw[qbht];unfold qpn
   simp only[qb24,zos]
   rfl
theorem qb27 {R:Type}{a:LA}(x:AV)(h:(a.length+1)*80<=140737488355328)(k:Option R):(bif decide ((a.length+([x]:List AV).length)*80<=140737488355328)then k else none)=k:=by
 rw[show([x]:List AV).length=1 from rfl,decide_eq_true h];rfl
def remF (l:LA)(v:Bool)(hi lo bits:Int):List AV:=l.filter fun y=> !atP v hi lo bits y
theorem qbrj {q:AV->Bool}:∀(l:LA) (k:Nat),idxO q l=some k->(∀(j:Nat) (y:AV),k<j->l[j]?=some y->q y=false)->l.take k++l.drop (k+1)=l.filter fun y=> !q y
 |[],k,h,_=>by simp[idxO]at h
 |y::r,k,h,hu=>by
  unfold idxO at h
  cases hq:q y with
  |true=>
   simp[hq]at h
   subst h
   simp only[List.take_zero,List.drop_succ_cons,List.drop_zero,List.nil_append]
   rw[List.filter_cons,hq]
   simp only[znt,Bool.false_eq_true,if_false]
   refine(List.filter_eq_self.2 fun z hz=> ?_).symm
   obtain⟨j,hj⟩:=List.getElem?_of_mem hz
   rw[hu (j+1) z (by omega) (by simpa using hj)];rfl
  |false=>
   simp[hq]at h
   obtain⟨k',h1,rfl⟩:=h
   have ih:=qbrj r k' h1 (fun j z hj hz=>hu (j+1) z (by omega) (by simpa using hz))
   rw[List.filter_cons,hq]
   simp only[znf,if_true,List.take_succ_cons,List.drop_succ_cons,List.cons_append]
   rw[ih]
theorem qcz.uniq {l:LA}(h:qcz l){v:Bool}{hi lo bits:Int}{i j:Nat}{y z:AV}(hy:l[i]?=some y)(hz:l[j]?=some z)(h1:atP v hi lo bits y=true)(h2:atP v hi lo bits z=true):i=j:=by
 have key:∀{i j:Nat} {y z:AV},l[i]?=some y->l[j]?=some z->atP v hi lo bits y=true->atP v hi lo bits z=true->¬i<j:=fun hy hz h1 h2 hij=>by
  have:=h.sorted _ _ hy _ _ hij hz
  obtain⟨a,b,c,d⟩:=qqn.1 h1
  obtain⟨a',b',c',d'⟩:=qqn.1 h2
  unfold ltY at this
  rw[a,b,c,d,a',b',c',d']at this
  exact qff this
 have a:=key hy hz h1 h2
 have b:=key hz hy h2 h1
 omega
theorem qb28 (l:LA)(hn:l.length<=100000)(k:Nat)(hk:k<l.length):qvu l (k:Int)=some (l.take k++l.drop (k+1)):=by
 rw[qbld];unfold qq0
 have hc:qw l=some l:=by
  unfold qw q30
  have:l.length*80<=140737488355328:=by omega
  simp[this]
 have hw:i64.wrap ((k:Int)+1)=((k+1:Nat):Int):=w64 (by omega) (by omega)
 have hd':qzt l (k:Int) ((k+1:Nat):Int)=some (l.take k++l.drop (k+1)):=by
  unfold qzt
  have:((0:Int)<=(k:Int)/\(k:Int)<((k+1:Nat):Int)/\((k+1:Nat):Int)<=(l.length:Int)/\l.length<=9223372036854775807):=⟨by omega,by omega,by omega,by omega⟩
  simp only[this,and_self,zdt,zct,ztn]
 simp only[hc,zos,zhs,zct,hw,hd']
theorem qb1a (l:LA)(hn:l.length<=100000)(ht:qcz l){v:Bool}{hi lo bits:Int}{k:Nat}(hk:idxO (atP v hi lo bits) l=some k):qvu l (k:Int)=some (remF l v hi lo bits):=by
 obtain⟨y,hy,hf⟩:=qpa l k hk
 rw[qb28 l hn k (zge.1 hy).1]
 congr 1
 have hq:=List.find?_some hf
 refine qbrj l k hk fun j z hj hz=> ?_
 rw[Bool.eq_false_iff]
 intro h2
 have:=ht.uniq hy hz hq h2
 omega
def qce (l:LA)(v:Bool)(hi lo bits:Int):List AV×Int:=
 bif !(l.any (atP v hi lo bits))then([],11)else bif occF l v hi lo bits then([],25)else(remF l v hi lo bits,0)
theorem qb7e (q:AV->Bool)(l:LA):decide (idxI q l<0)= !(l.any q):=by
 rw[<-qvj,Bool.eq_iff_iff]
 simp
theorem qbz5 {q:AV->Bool}{l:LA}(h:l.any q=true):∃k,idxO q l=some k/\idxI q l=(k:Int):=by
 rw[<-qvj]at h
 unfold idxI at*
 cases hq:idxO q l with
 |none=>rw[hq]at h;simp at h
 |some k=>exact⟨k,rfl,rfl⟩
theorem qb44 (l:LA)(hl:qn l)(hn:l.length<=100000)(ht:qcz l)(v:Bool)(hi lo bits:Int):q4e l v hi lo bits=some (qce l v hi lo bits):=by
 rw[qbnn];unfold qth qce
 simp only[qbow l hl,zos,qbri l hl,qb7e]
 cases ha:l.any (atP v hi lo bits)with
 |false=>rfl
 |true=>
  obtain⟨k,h1,h2⟩:=qbz5 ha
  simp only[znt,zcf]
  cases occF l v hi lo bits with
  |true=>rfl
  |false=>
   simp only[zcf,h2,qb1a l hn ht h1,zos]
def addF (l:LA)(b:AV):List AV×Int:=
 bif !qm7 b then([],3)else bif !mayB b then([],1)else bif l.any (atP (gB b.cells 0) (gI b.cells 1) (gI b.cells 2) (gI b.cells 3))then([],12)else
 bif l.any (qbw b)||occF l (gB b.cells 0) (gI b.cells 1) (gI b.cells 2) (gI b.cells 3)then([],24)else bif decide ((l.length:Int)>=512)then([],9)else(insF b l,0)
theorem qcz.may {l:LA}(ht:qcz l){y:AV}(hy:y∈l):mayB y=true:=by
 obtain⟨j,hj⟩:=List.getElem?_of_mem hy
 exact(ht j y hj).may
theorem qcz.mis {l:LA}(ht:qcz l)(b:AV):l.any (misY b)=l.any (qbw b):=by
 rw[Bool.eq_iff_iff,zay,zay]
 constructor<;>(rintro⟨z,hz,hb⟩;refine⟨z,hz,?_⟩;simpa[qbz4 (ht.may hz)]using hb)
theorem qb6f (l:LA)(hl:qn l)(hn:l.length<=100000)(ht:qcz l)(b0:Bool)(b1 b2 b3 b4:Int)(b5 b6:LU)(b7:Int)(hb:qg7 (mkB b0 b1 b2 b3 b4 b5 b6 b7)):q46 l b0 b1 b2 b3 b4 b5 b6 b7=some (addF l (mkB b0 b1 b2 b3 b4 b5 b6 b7)):=by
 have h1:que b0 b1 b2 b3 b4 b5 b6 b7=some (q1c (mkB b0 b1 b2 b3 b4 b5 b6 b7)):=qbz3 (mkB b0 b1 b2 b3 b4 b5 b6 b7) hb
 have h2:qni l b0 b1 b2 b3 b4 b5 b6 b7=some (l.any (misY (mkB b0 b1 b2 b3 b4 b5 b6 b7))):=qbm9 l hl (mkB b0 b1 b2 b3 b4 b5 b6 b7)
 rw[qbu8];unfold qz5 addF
 simp only[h1,zos,qblc,qqz,h2,qbow l hl,qvj,qbri l hl,qb43 l hl hn,ht.mis]
 rw[show(gB (mkB b0 b1 b2 b3 b4 b5 b6 b7).cells 0)=b0 from rfl,show(gI (mkB b0 b1 b2 b3 b4 b5 b6 b7).cells 1)=b1 from rfl,show(gI (mkB b0 b1 b2 b3 b4 b5 b6 b7).cells 2)=b2 from rfl,show(gI (mkB b0 b1 b2 b3 b4 b5 b6 b7).cells 3)=b3 from rfl]
 unfold q1c
 cases qm7 (mkB b0 b1 b2 b3 b4 b5 b6 b7)with
 |false=>rfl
 |true=>
  cases mayB (mkB b0 b1 b2 b3 b4 b5 b6 b7)with
  |false=>rfl
  |true=>
   simp only[znt,zcf,bne_self_eq_false]
   cases l.any (atP b0 b1 b2 b3)<;>cases l.any (qbw (mkB b0 b1 b2 b3 b4 b5 b6 b7))<;>cases occF l b0 b1 b2 b3<;>cases decide ((l.length:Int)>=512)<;>rfl
theorem qbxy {x:Int}(h:uok x):qbn .or .u64 x 0=x:=by
 have:=qbxr h (y:=0) ⟨by omega,by omega⟩ (q3a h)
 omega
def shl1 (p:Int×Int):Int×Int:=(u64.wrap (u64.wrap (p.1*2)+u64.wrap (p.2.tdiv 9223372036854775808)),u64.wrap (p.2*2))
def shlN:Nat->Int×Int->Int×Int
 |0,p=>p
 |n+1,p=>shlN n (shl1 p)
theorem qbsy:∀n:Fin 64,shlN n (0,1)=(0,((2^n.val:Nat):Int)):=by decide+kernel
theorem qbox:∀n:Fin 64,shlN (n.val+64) (0,1)=(((2^n.val:Nat):Int),0):=by decide+kernel
theorem qb7f:∀n:Fin 128,(0<=(shlN n (0,1)).1/\(shlN n (0,1)).1<=18446744073709551615)/\(0<=(shlN n (0,1)).2/\(shlN n (0,1)).2<=18446744073709551615):=by decide+kernel
theorem qb7g {n:Nat}(h:n<128):numP (shlN n (0,1)).1 (shlN n (0,1)).2=2^n:=by
 unfold numP
 rcases Nat.lt_or_ge n 64 with h1|h1
 · rw[qbsy ⟨n,h1⟩]
   show(0:Int).toNat*18446744073709551616+(((2^n:Nat):Int)).toNat=2^n
   rw[ztn]
   simp
 · obtain⟨j,rfl⟩:∃j,n=j+64:=⟨n-64,by omega⟩
   rw[qbox ⟨j,by omega⟩,Nat.pow_add,qbfa]
   show(((2^j:Nat):Int)).toNat*18446744073709551616+(0:Int).toNat=_
   rw[ztn]
   simp
def qym:AV:=mkP false 0 0 0
def qxv (v:Bool)(hi lo bits n:Int):Bool:=qd9 v hi lo bits&&(decide (bits<=n)&&decide (n<=ql v))
theorem qb29 {v:Bool}{hi lo bits n:Int}(h:qxv v hi lo bits n=true):qd9 v hi lo bits=true/\0<=bits/\bits<=n/\n<=ql v/\n<=128:=by
 unfold qxv at h
 simp only[zat,decide_eq_true_eq]at h
 have h1:=qe2 h.1
 have:=qkm v
 exact⟨h.1,h1.1,h.2.1,h.2.2,by omega⟩
theorem qbxz {v:Bool}{hi lo bits n i:Int}(c0:Bool)(c1 c2 c3:Int)(kn:Bool->Option (AV×Bool)):q1x n i v hi lo bits c0 c1 c2 c3 kn=kn (!qxv v hi lo bits n):=by
 rw[qblm];unfold qq3 qxv
 simp only[q7f,q7e,zos]
 have e1:decide (n<bits)= !decide (bits<=n):=by rw[Bool.eq_iff_iff];simp
 have e2:decide (n>ql v)= !decide (n<=ql v):=by rw[Bool.eq_iff_iff];simp
 rw[e1,e2]
 cases qd9 v hi lo bits<;>cases decide (bits<=n)<;>rfl
theorem qbfd {v:Bool}{hi lo bits n:Int}(u1:uok hi)(u2:uok lo):qe4 v hi lo bits n 0=some (bif qxv v hi lo bits n then(mkP v hi lo n,true)else(qym,false)):=by
 rw[qbaz];unfold qr9
 rw[qbxz]
 cases hp:qxv v hi lo bits n with
 |false=>rfl
 |true=>
  obtain⟨h1,h2,h3,h4,h5⟩:=qb29 hp
  have hw:i64.wrap (n-bits)=n-bits:=w64 (by omega) (by omega)
  have hw2:i64.wrap (ql v-n)=ql v-n:=w64 (by have:=qkm v;omega) (by have:=qkm v;omega)
  have hu:u64.wrap (n-bits)=n-bits:=wu64 (by omega) (by omega)
  have hu2:u64.wrap (ql v-n)=ql v-n:=wu64 (by omega) (by have:=qkm v;omega)
  have a0:¬n-bits<0:=by omega
  simp only[znt,zcf,zct,hw,q3e,ql8,hu,a0,zdf,Int.zero_fdiv,bne_self_eq_false,q7e,zos,hw2,hu2]
  have fin:(bif decide (n-bits<64)then qoe n 0 (ql v-n) 0 0 v hi lo bits false 0 0 0 (fun a b=>some (mkP v (qbn .or .u64 hi a) (qbn .or .u64 lo b) n,true))else qoe n 0 (ql v-n) 0 0 v hi lo bits false 0 0 0 (fun a b=>some (mkP v (qbn .or .u64 hi a) (qbn .or .u64 lo b) n,true)))=some (mkP v hi lo n,true):=by
   have e:qoe n 0 (ql v-n) 0 0 v hi lo bits false 0 0 0 (fun a b=>some (mkP v (qbn .or .u64 hi a) (qbn .or .u64 lo b) n,true))=some (mkP v hi lo n,true):=by
    rw[q3f];unfold ql9
    have q0:u64.wrap 0=0:=by decide
    have hnn:∀x,¬u64.wrap x<0:=fun x=>by
     have:0<=u64.wrap x:=by simp[IntKind.wrap,IntKind.signed];omega
     omega
    have a1:¬ql v-n<0:=by omega
    simp only[Int.zero_mul,Int.zero_fdiv,q0,hnn,a1,zdf,zcf,qbxy u1,qbxy u2]
    cases decide (ql v-n>=64)<;>cases decide (ql v-n>0)<;>rfl
   rw[e];cases decide (n-bits<64)<;>rfl
  exact fin
def qqo (v:Bool)(hi lo bits:Int):Bool:=qd9 v hi lo bits&&decide (bits<ql v)
def bitP (v:Bool)(bits:Int):Int×Int:=shlN (ql v-bits-1).toNat (0,1)
def lowP (v:Bool)(hi lo bits:Int):AV:=mkP v hi lo (bits+1)
def qbfe (v:Bool)(hi lo bits:Int):AV:=mkP v (qbn .or .u64 hi (bitP v bits).1) (qbn .or .u64 lo (bitP v bits).2) (bits+1)
def qbcz (v:Bool)(hi lo bits:Int):AV×AV×Bool:=bif qqo v hi lo bits then(lowP v hi lo bits,qbfe v hi lo bits,true)else(qym,qym,false)
theorem q9j {v:Bool}{hi lo bits:Int}(h:qqo v hi lo bits=true):qd9 v hi lo bits=true/\0<=bits/\bits<ql v/\bits<128:=by
 unfold qqo at h
 simp only[zat,decide_eq_true_eq]at h
 have:=qkm v
 exact⟨h.1,(qe2 h.1).1,h.2,by omega⟩
theorem qb45 {v:Bool}{bits:Int}(h0:0<=bits)(h:bits<ql v):uok (bitP v bits).1/\uok (bitP v bits).2:=by
 have:=qkm v
 exact qb7f ⟨(ql v-bits-1).toNat,by omega⟩
theorem qbuo {v:Bool}{hi lo bits:Int}:qxv v hi lo bits (i64.wrap (bits+1))=qqo v hi lo bits:=by
 unfold qxv qqo
 cases hp:qd9 v hi lo bits with
 |false=>rfl
 |true=>
  obtain⟨h1,h2,_⟩:=qe2 hp
  have:=qkm v
  rw[w64 (by omega) (by omega)]
  simp only[zta]
  have:bits<=bits+1:=by omega
  simp[this]
  omega
theorem qb46 {v:Bool}{hi lo bits:Int}(h:qqo v hi lo bits=true)(u1:uok hi)(u2:uok lo):qbn .and .u64 hi (bitP v bits).1=0/\qbn .and .u64 lo (bitP v bits).2=0:=by
 obtain⟨h1,h2,h3,h4⟩:=q9j h
 obtain⟨_,_,_,h5⟩:=(q1b u1 u2).1 h1
 have hl:=qkm v
 obtain⟨k,hk⟩:∃k,kOf v bits=k+1:=⟨(ql v-bits-1).toNat,by unfold kOf;omega⟩
 have hk2:(ql v-bits-1).toNat=k:=by unfold kOf at hk;omega
 have hk3:k<128:=by omega
 unfold bitP
 rw[hk2]
 rw[hk]at h5
 obtain⟨a1,a2⟩:=u1
 obtain⟨b1,b2⟩:=u2
 have mask:∀{x:Int} (j:Nat),uok x->j<64->x.toNat%2^(j+1)=0->qbn .and .u64 x ((2^j:Nat):Int)=0:=by
  intro x j hx hj hm
  have hp:(2:Nat)^j<2^64:=Nat.pow_lt_pow_right (by decide) hj
  have h0:0<(2:Nat)^j:=Nat.two_pow_pos j
  rw[qbcy]
  have e1:=q1a hx
  have e2:=q1a (x:=((2^j:Nat):Int)) ⟨by omega,by rw[qbfa]at hp;omega⟩
  rw[BitVec.toNat_and]
  have e3:(BitVec.ofInt 64 x).toNat=x.toNat:=by omega
  have e4:(BitVec.ofInt 64 ((2^j:Nat):Int)).toNat=2^j:=by omega
  rw[e3,e4]
  have:x.toNat.testBit j=false:=by
   rw[Nat.testBit_eq_decide_div_mod_eq]
   have h6:x.toNat / 2^j%2=0:=by
    rw[Nat.pow_succ,]at hm
    have:=Nat.mod_mul_right_div_self x.toNat (2^j) 2
    rw[hm]at this
    simpa using this.symm
   simp[h6]
  have h7:x.toNat&&& 2^j=0:=by
   refine Nat.eq_of_testBit_eq fun i=> ?_
   rw[Nat.testBit_and,Nat.testBit_two_pow]
   by_cases hij:j=i
   · subst hij;simp[this]
   · simp[hij]
  rw[h7];rfl
 rcases Nat.lt_or_ge k 64 with h6|h6
 · rw[qbsy ⟨k,h6⟩]
   refine⟨q3a ⟨a1,a2⟩,mask k ⟨b1,b2⟩ h6 ?_⟩
   have:=qbkc hi.toNat lo.toNat (k+1) (by omega)
   unfold numP at h5
   omega
 · obtain⟨j,rfl⟩:∃j,k=j+64:=⟨k-64,by omega⟩
   rw[qbox ⟨j,by omega⟩]
   refine⟨mask j ⟨a1,a2⟩ (by omega) ?_,q3a ⟨b1,b2⟩⟩
   have:=qbsw hi.toNat lo.toNat (j+1) (by omega)
   unfold numP at h5
   rw[show j+64+1=j+1+64 by omega,this]at h5
   revert h5
   generalize hi.toNat%2^(j+1)=q
   omega
theorem qb47 {v:Bool}{hi lo bits:Int}(h:qqo v hi lo bits=true):qe4 v hi lo bits (bits+1) 1=some (qbfe v hi lo bits,true):=by
 obtain⟨h1,h2,h3,h4⟩:=q9j h
 have hw0:i64.wrap (bits+1)=bits+1:=w64 (by omega) (by omega)
 have hp:=qbuo (v:=v) (hi:=hi) (lo:=lo) (bits:=bits)
 rw[hw0,h]at hp
 rw[qbaz];unfold qr9
 rw[qbxz,hp]
 have hl:=qkm v
 have e1:i64.wrap (bits+1-bits)=1:=by rw[w64 (by omega) (by omega)];omega
 have e2:i64.wrap (ql v-(bits+1))=ql v-bits-1:=by rw[w64 (by omega) (by omega)];omega
 have e3:u64.wrap (ql v-bits-1)=ql v-bits-1:=wu64 (by omega) (by omega)
 simp only[znt,zcf,e1,q3e,ql8,q7e,zos,e2,e3]
 rw[show decide ((1:Int)<64)=true by decide,show decide (u64.wrap 1<0)=false by decide,show((1:Int).fdiv (2^min (u64.wrap 1).toNat u64.bits) != 0)=false by decide]
 simp only[zct,zcf]
 rw[q3f];unfold ql9
 obtain⟨k,hk⟩:∃k:Nat,ql v-bits-1=k:=⟨(ql v-bits-1).toNat,by omega⟩
 have hk3:k<128:=by omega
 unfold qbfe bitP
 rw[hk,ztn]
 rcases Nat.lt_or_ge k 64 with h6|h6
 · have a1:¬(k:Int)>=64:=by omega
   rw[qbsy ⟨k,h6⟩]
   simp only[a1,zdf,zcf]
   by_cases hk0:k=0
   · subst hk0;rfl
   · have a2:(k:Int)>0:=by omega
     have a3:¬(k:Int)<0:=by omega
     have fin:∀j:Fin 64,j.val≠0->¬u64.wrap (64-(j.val:Int))<0/\(1:Int).fdiv (2^min (u64.wrap (64-(j.val:Int))).toNat u64.bits)=0/\u64.wrap (1*2^min j.val u64.bits)=((2^j.val:Nat):Int):=by decide+kernel
     obtain⟨f1,f2,f3⟩:=fin ⟨k,h6⟩ hk0
     simp only at f1 f2 f3
     simp only[a2,zdt,zct,a3,zdf,zcf,f1,f2,f3]
     rfl
 · obtain⟨j,rfl⟩:∃j,k=j+64:=⟨k-64,by omega⟩
   have a1:((j+64:Nat):Int)>=64:=by omega
   rw[qbox ⟨j,by omega⟩]
   have fin:∀j:Fin 64,¬u64.wrap (((j.val+64:Nat):Int)-64)<0/\u64.wrap (1*2^min (u64.wrap (((j.val+64:Nat):Int)-64)).toNat u64.bits)=((2^j.val:Nat):Int):=by decide+kernel
   obtain⟨f1,f2⟩:=fin ⟨j,by omega⟩
   simp only at f1 f2
   simp only[a1,zdt,zct,f1,f2,zdf,zcf]
   rfl
theorem qbup (v:Bool)(hi lo bits:Int)(u1:uok hi)(u2:uok lo):ql4 v hi lo bits=some (qbcz v hi lo bits):=by
 rw[qbnr];unfold qtk qbcz
 rw[qbfd u1 u2,qbuo]
 simp only[qbga,qof,q7f,zos]
 cases hh:qqo v hi lo bits with
 |false=>rfl
 |true=>
  obtain⟨h1,h2,h3,h4⟩:=q9j hh
  have hw:i64.wrap (bits+1)=bits+1:=w64 (by omega) (by omega)
  simp only[zct,znt,zcf,h1,hw,qb47 hh,zos]
  rfl
theorem qb48 {v:Bool}{hi lo bits:Int}(h:qqo v hi lo bits=true)(u1:uok hi)(u2:uok lo):
 numP (qbn .or .u64 hi (bitP v bits).1) (qbn .or .u64 lo (bitP v bits).2)=numP hi lo+2^kOf v (bits+1):=by
 obtain⟨h1,h2,h3,h4⟩:=q9j h
 obtain⟨o1,o2⟩:=qb45 h2 h3
 obtain⟨f1,f2⟩:=qb46 h u1 u2
 have hl:=qkm v
 have hk:kOf v (bits+1)=(ql v-bits-1).toNat:=by unfold kOf;congr 1;omega
 rw[<-qbxr u1 o1 f1,<-qbxr u2 o2 f2,hk,<-qb7g (n:=(ql v-bits-1).toNat) (by omega)]
 unfold bitP at o1 o2⊢
 unfold numP
 obtain⟨a1,a2⟩:=u1
 obtain⟨b1,b2⟩:=u2
 obtain⟨c1,c2⟩:=o1
 obtain⟨d1,d2⟩:=o2
 rw[Int.toNat_add a1 c1,Int.toNat_add b1 d1]
 omega
def mkA (b0:Bool)(b1 b2:Int):AV:=.agg [(.bool b0),(.int .u64 b1),(.int .u64 b2)]
def qp8 (q:AV->Bool):Option AV->List AV->Option AV
 |b,[]=>b
 |b,y::r=>qp8 q (bif q y&&(match b with|none=>true|some x=>decide (gI y.cells 3>gI x.cells 3))then some y else b) r
def outC:Option AV->AV×Bool
 |some y=>(y,true)
 |none=>(blk0,false)
def qy6 (q:AV->Bool)(l:LA):AV×Bool:=outC (qp8 q none l)
theorem qb49 (l:LA)(hl:qn l)(v:Bool)(ahi alo:Int):q4f l v ahi alo=some (qy6 (fun y=>qg9 (gB y.cells 0) (gI y.cells 1) (gI y.cells 2) (gI y.cells 3) v ahi alo) l):=by
 rw[qbno];unfold qti
 rw[qwx];unfold qeo
 rw[qsv]
 have key:∀kx:Bool->Bool->Int->Int->Int->Int->List UInt8->List UInt8->Int->Bool->Int->Int->Bool->Int->Int->Int->Int->List UInt8->List UInt8->Int->Bool->Int->Int->Int->Int->List UInt8->List UInt8->Int->Option (AV×Bool),(∀(e:Bool) (a0:Bool) (a1 a2 a3 a4:Int) (a5 a6:LU) (a7:Int) (b0:Bool) (b1 b2:Int) (c0:Bool) (c1 c2 c3 c4:Int) (c5 c6:LU) (c7:Int) (d0:Bool) (d1 d2 d3 d4:Int) (d5 d6:LU) (d7:Int),kx e a0 a1 a2 a3 a4 a5 a6 a7 b0 b1 b2 c0 c1 c2 c3 c4 c5 c6 c7 d0 d1 d2 d3 d4 d5 d6 d7=some (mkB d0 d1 d2 d3 d4 d5 d6 d7,e))->
  qb9 l (l.length:Int) kx FU false 0 false 0 0 0 0 [] [] 0 v ahi alo false 0 0 0 0 [] [] 0 false 0 0 0 0 [] [] 0=some (qy6 (fun y=>qg9 (gB y.cells 0) (gI y.cells 1) (gI y.cells 2) (gI y.cells 3) v ahi alo) l):=by
  intro kx hkx
  have key:=qb0 (σ:=Bool×AV×AV×AV×AV) l hl.1 (fun n i s=>qb9 l (l.length:Int) kx n s.1 i (gB s.2.1.cells 0) (gI s.2.1.cells 1) (gI s.2.1.cells 2) (gI s.2.1.cells 3) (gI s.2.1.cells 4) (gS s.2.1.cells 5) (gS s.2.1.cells 6) (gI s.2.1.cells 7) (gB s.2.2.1.cells 0) (gI s.2.2.1.cells 1) (gI s.2.2.1.cells 2) (gB s.2.2.2.1.cells 0) (gI s.2.2.2.1.cells 1) (gI s.2.2.2.1.cells 2) (gI s.2.2.2.1.cells 3) (gI s.2.2.2.1.cells 4) (gS s.2.2.2.1.cells 5) (gS s.2.2.2.1.cells 6) (gI s.2.2.2.1.cells 7) (gB s.2.2.2.2.cells 0) (gI s.2.2.2.2.cells 1) (gI s.2.2.2.2.cells 2) (gI s.2.2.2.2.cells 3) (gI s.2.2.2.2.cells 4) (gS s.2.2.2.2.cells 5) (gS s.2.2.2.2.cells 6) (gI s.2.2.2.2.cells 7)) (fun i s nx=>qcj s.1 l (l.length:Int) i (gB s.2.1.cells 0) (gI s.2.1.cells 1) (gI s.2.1.cells 2) (gI s.2.1.cells 3) (gI s.2.1.cells 4) (gS s.2.1.cells 5) (gS s.2.1.cells 6) (gI s.2.1.cells 7) (gB s.2.2.1.cells 0) (gI s.2.2.1.cells 1) (gI s.2.2.1.cells 2) (gB s.2.2.2.1.cells 0) (gI s.2.2.2.1.cells 1) (gI s.2.2.2.1.cells 2) (gI s.2.2.2.1.cells 3) (gI s.2.2.2.1.cells 4) (gS s.2.2.2.1.cells 5) (gS s.2.2.2.1.cells 6) (gI s.2.2.2.1.cells 7) (gB s.2.2.2.2.cells 0) (gI s.2.2.2.2.cells 1) (gI s.2.2.2.2.cells 2) (gI s.2.2.2.2.cells 3) (gI s.2.2.2.2.cells 4) (gS s.2.2.2.2.cells 5) (gS s.2.2.2.2.cells 6) (gI s.2.2.2.2.cells 7) (fun e i a0 a1 a2 a3 a4 a5 a6 a7 b0 b1 b2 c0 c1 c2 c3 c4 c5 c6 c7 d0 d1 d2 d3 d4 d5 d6 d7=>nx i (e,mkB a0 a1 a2 a3 a4 a5 a6 a7,mkA b0 b1 b2,mkB c0 c1 c2 c3 c4 c5 c6 c7,mkB d0 d1 d2 d3 d4 d5 d6 d7)) kx) (fun _ _ _=>rfl)
   (fun i s=>s.2.1=blk0/\s.2.2.1=mkA v ahi alo/\s.2.2.2.1=blk0/\(s.1=false->s.2.2.2.2=blk0)/\(s.1=true->fitC qb s.2.2.2.2.cells=true)) (fun r s=>some (outC (qp8 (fun y=>qg9 (gB y.cells 0) (gI y.cells 1) (gI y.cells 2) (gI y.cells 3) v ahi alo) (bif s.1 then some s.2.2.2.2 else none) r))) ?_ ?_ (false,blk0,mkA v ahi alo,blk0,blk0) FU ⟨rfl,rfl,rfl,fun _=>rfl,fun h=>by cases h⟩ (qca (by have:=hl.1;omega))
  · exact key
  · rintro⟨e,s1,s2,s3,s4⟩ nx ⟨h1,h2,h3,h4,h5⟩
    simp only at h1 h2 h3 h4 h5
    subst h1 h2 h3
    unfold qcj
    simp only[Int.lt_irrefl,zdf,zcf,hkx]
    cases e with
    |false=>rw[h4 rfl];rfl
    |true=>rw[qe9 (h5 rfl)];rfl
  · rintro i y r ⟨e,s1,s2,s3,s4⟩ nx g1 g2 g3 g4 ⟨h1,h2,h3,h4,h5⟩ hn
    simp only at h1 h2 h3 h4 h5
    subst h1 h2 h3
    have hy:=hl.2 y (zmg g2)
    have h6:(i:Int)<(l.length:Int):=by omega
    unfold qcj
    simp only[h6,zdt,zct,zin,g2,zos,hy.1,g4,qsu,qdm,qbhx,qpo,qbak]
    rw[qe9 hy.1]
    have n1:=hn (true,blk0,mkA v ahi alo,blk0,y) ⟨rfl,rfl,rfl,fun h=>(by cases h),fun _=>hy.1⟩
    have n2:=hn (e,blk0,mkA v ahi alo,blk0,s4) ⟨rfl,rfl,rfl,h4,h5⟩
    have hs:mkB (gB s4.cells 0) (gI s4.cells 1) (gI s4.cells 2) (gI s4.cells 3) (gI s4.cells 4) (gS s4.cells 5) (gS s4.cells 6) (gI s4.cells 7)=s4:=by
     cases e with
     |false=>rw[h4 rfl];rfl
     |true=>exact qe9 (h5 rfl)
    rw[hs]
    unfold qp8
    show(bif qg9 (gB y.cells 0) (gI y.cells 1) (gI y.cells 2) (gI y.cells 3) v ahi alo then _ else _)=_
    cases hq:qg9 (gB y.cells 0) (gI y.cells 1) (gI y.cells 2) (gI y.cells 3) v ahi alo with
    |false=>exact n2
    |true=>
     cases e with
     |false=>exact n1
     |true=>
      simp only[zct,znt,zcf,zta]
      cases hc:decide (gI y.cells 3>gI s4.cells 3)with
      |true=>exact n1
      |false=>exact n2
 exact key _ (fun _ _ _ _ _ _ _ _ _ _ _ _ _ _ _ _ _ _ _ _ _ _ _ _ _ _ _ _=>rfl)
theorem qb3a (l:LA)(hl:qn l)(v:Bool)(ahi alo:Int)(u1:uok ahi)(u2:uok alo):q0s l v ahi alo=some (qy6 (fun y=>qg9 (gB y.cells 0) (gI y.cells 1) (gI y.cells 2) (gI y.cells 3) v ahi alo) l):=by
 rw[qbi4];unfold qp3
 rw[qbbv]
 have key:∀kx:Int->Option (AV×Bool),(∀j:Int,kx j=(match(if j<0 then none else l[j.toNat]?)with|some y=>some (y,true)|none=>if j<0 then some (blk0,false)else none))->qf1 l v ahi alo false 0 0 0 0 [] [] 0 kx FU (-1) 0=some (qy6 (fun y=>qg9 (gB y.cells 0) (gI y.cells 1) (gI y.cells 2) (gI y.cells 3) v ahi alo) l):=by
  intro kx hkx
  have key:=qb0 (σ:=Int) l hl.1 (fun n i s=>qf1 l v ahi alo false 0 0 0 0 [] [] 0 kx n s i) (fun i s nx=>qii l s i v ahi alo false 0 0 0 0 [] [] 0 (fun s i=>nx i s) kx) (fun _ _ _=>rfl)
   (fun i s=>s= -1\/∃(j:Nat) (x:AV),s=j/\l[j]?=some x) (fun r s=>some (outC (qp8 (fun y=>qg9 (gB y.cells 0) (gI y.cells 1) (gI y.cells 2) (gI y.cells 3) v ahi alo) (bif decide (s<0)then none else l[s.toNat]?) r))) ?_ ?_ (-1) FU (.inl rfl) (qca (by have:=hl.1;omega))
  · exact key
  · rintro s nx hJ
    unfold qii
    simp only[Int.lt_irrefl,zdf,zcf,hkx]
    rcases hJ with rfl|⟨j,x,rfl,hx⟩
    · rfl
    · have h0:¬(j:Int)<0:=by omega
      simp only[h0,if_false,zdf,zcf,ztn,hx]
      rfl
  · rintro i y r s nx g1 g2 g3 g4 hJ hn
    have hy:=hl.2 y (zmg g2)
    have h6:(i:Int)<(l.length:Int):=by omega
    have hi0:¬(i:Int)<0:=by omega
    have n1:=hn (i:Int) (.inr ⟨i,y,rfl,g2⟩)
    have n2:=hn s hJ
    simp only[hi0,zdf,zcf,ztn,g2]at n1
    unfold qii
    simp only[h6,zdt,zct,zin,g2,zos,hy.1,g4,q92,qly,qbal _ _ _ _ _ _ _ u1 u2]
    rcases hJ with rfl|⟨j,x,rfl,hx⟩
    · have e1:decide ((-1:Int)<0)=true:=by decide
      simp only[e1,zct]at n2⊢
      unfold qp8
      simp only[Bool.and_true]
      cases hq:qg9 (gB y.cells 0) (gI y.cells 1) (gI y.cells 2) (gI y.cells 3) v ahi alo with
      |false=>exact n2
      |true=>exact n1
    · have h0:¬(j:Int)<0:=by omega
      have hxf:=hl.2 x (zmg hx)
      simp only[h0,zdf,zcf,ztn,hx,zin,zos,hxf.1,zct]at n2⊢
      unfold qp8
      cases hq:qg9 (gB y.cells 0) (gI y.cells 1) (gI y.cells 2) (gI y.cells 3) v ahi alo with
      |false=>exact n2
      |true=>
       simp only[zct,zta]
       cases decide (gI y.cells 3>gI x.cells 3)with
       |true=>exact n1
       |false=>exact n2
 refine key _ fun j=> ?_
 by_cases hj:j<0
 · simp only[hj,zdt,zct,if_true];rfl
 · simp only[hj,zdf,zcf,if_false]
   have:ixB l j=l[j.toNat]?:=by unfold ixB;rw[if_pos (by omega)]
   rw[this]
   cases hx:l[j.toNat]? with
   |none=>rfl
   |some y=>
    have hy:=hl.2 y (zmg hx)
    simp only[zos,hy.1,zct]
    rw[show(AV.agg [(.bool (gB y.cells 0)),(.int .u64 (gI y.cells 1)),(.int .u64 (gI y.cells 2)),(.int .i64 (gI y.cells 3)),(.int .i64 (gI y.cells 4)),(.str (gS y.cells 5)),(.str (gS y.cells 6)),(.int .i64 (gI y.cells 7))])=y from qe9 hy.1]
theorem Np.sub_range {p q:Np}(hp:p.ok)(hq:q.ok):p.sub q↔p.v=q.v/\p.k<=q.k/\q.n<=p.n/\p.n<q.n+2^q.k:=by
 unfold Np.sub
 have h0:=Nat.two_pow_pos q.k
 have h1:=Nat.mod_lt p.n h0
 have h2:=Nat.mod_le p.n (2^q.k)
 constructor
 · rintro⟨a,b,c⟩;exact⟨a,b,by omega,by omega⟩
 · rintro⟨a,b,c,d⟩
   refine⟨a,b,?_⟩
   obtain⟨u,hu⟩:=Nat.dvd_of_mod_eq_zero hq
   have:p.n / 2^q.k=u:=by
    rw[Nat.div_eq_iff h0]
    rw[hu]at c d
    constructor
    · rw[Nat.mul_comm];omega
    · rw[Nat.mul_comm];omega
   have h3:=Nat.div_add_mod p.n (2^q.k)
   rw[this]at h3
   omega
def Np.low (p:Np):Np:=⟨p.v,p.n,p.k-1⟩
def Np.high (p:Np):Np:=⟨p.v,p.n+2^(p.k-1),p.k-1⟩
theorem qboy {k:Nat}(h:0<k):2^k=2^(k-1)+2^(k-1):=by
 obtain⟨j,rfl⟩:∃j,k=j+1:=⟨k-1,by omega⟩
 rw[Nat.pow_succ];simp;omega
theorem Np.low_ok {p:Np}(hp:p.ok)(hk:0<p.k):p.low.ok:=by
 unfold Np.ok Np.low at*
 simp only
 have:2^(p.k-1) ∣ 2^p.k:=qbkx (by omega)
 exact Nat.mod_eq_zero_of_dvd (Nat.dvd_trans this (Nat.dvd_of_mod_eq_zero hp))
theorem Np.high_ok {p:Np}(hp:p.ok)(hk:0<p.k):p.high.ok:=by
 have h1:=Np.low_ok hp hk
 unfold Np.ok Np.high Np.low at*
 simp only at*
 rw[Nat.add_mod_right];exact h1
theorem Np.low_sub {p:Np}(hp:p.ok)(hk:0<p.k):p.low.sub p:=by
 refine(Np.sub_range (Np.low_ok hp hk) hp).2 ⟨rfl,Nat.sub_le _ _,Nat.le_refl _,?_⟩
 have:=Nat.two_pow_pos p.k
 show p.n<_
 omega
theorem Np.high_sub {p:Np}(hp:p.ok)(hk:0<p.k):p.high.sub p:=by
 refine(Np.sub_range (Np.high_ok hp hk) hp).2 ⟨rfl,Nat.sub_le _ _,Nat.le_add_right _ _,?_⟩
 have:=qboy hk
 have h0:=Nat.two_pow_pos (p.k-1)
 show p.n+2^(p.k-1)<_
 omega
theorem Np.not_both {p q:Np}(hp:p.ok)(hq:q.ok)(hp0:0<p.k)(h1:q.sub p.low)(h2:q.sub p.high):False:=by
 obtain⟨_,_,c,d⟩:=(Np.sub_range hq (Np.low_ok hp hp0)).1 h1
 obtain⟨_,_,c',d'⟩:=(Np.sub_range hq (Np.high_ok hp hp0)).1 h2
 simp only[Np.low,Np.high]at*
 omega
theorem Np.both {p q:Np}(hp:p.ok)(hq:q.ok)(hp0:0<p.k)(h1:p.low.sub q)(h2:p.high.sub q):p.sub q:=by
 have e:=qboy hp0
 have hle:p.k-1<=q.k:=h1.2.1
 rcases Nat.lt_or_ge q.k p.k with hk|hk
 · exfalso
   have hqk:q.k=p.k-1:=by have:=h1.2.1;simp only[Np.low]at this;omega
   obtain⟨_,_,c,d⟩:=(Np.sub_range (Np.low_ok hp hp0) hq).1 h1
   obtain⟨_,_,c',d'⟩:=(Np.sub_range (Np.high_ok hp hp0) hq).1 h2
   simp only[Np.low,Np.high]at*
   rw[hqk]at d d'
   omega
 · exact Np.nest (Np.low_sub hp hp0) h1 hk
structure Pq where
 v:Bool
 hi:Int
 lo:Int
 bits:Int
def Pq.good (p:Pq):Prop:=qd9 p.v p.hi p.lo p.bits=true/\uok p.hi/\uok p.lo
def Pq.np (p:Pq):Np:=⟨p.v,numP p.hi p.lo,kOf p.v p.bits⟩
def Pq.av (p:Pq):AV:=mkP p.v p.hi p.lo p.bits
def pqY (y:AV):Pq:=⟨gB y.cells 0,gI y.cells 1,gI y.cells 2,gI y.cells 3⟩
def winP (p q:Pq):Bool:=qkn p.v p.hi p.lo p.bits q.v q.hi q.lo q.bits
def ovP (p q:Pq):Bool:=winP p q||winP q p
theorem Pq.good.np_ok {p:Pq}(h:p.good):p.np.ok:=((q1b h.2.1 h.2.2).1 h.1).2.2.2
theorem Pq.good.range {p:Pq}(h:p.good):0<=p.bits/\p.bits<=ql p.v/\(p.np.k:Int)=ql p.v-p.bits/\p.np.k<=128:=by
 obtain⟨h1,h2,_⟩:=qe2 h.1
 have:=qkm p.v
 refine⟨h1,h2,?_,?_⟩
 · show((kOf p.v p.bits:Nat):Int)=_
   unfold kOf;omega
 · show kOf p.v p.bits<=128
   unfold kOf;omega
theorem qgi {p q:Pq}(hp:p.good)(hq:q.good):winP p q=true↔p.np.sub q.np:=by
 unfold winP qkn Np.sub
 rw[hp.1]
 simp only[zta,zat,decide_eq_true_eq]
 rw[qbuj hq.2.1 hq.2.2 hp.2.1 hp.2.2]
 obtain⟨a1,a2,a3,_⟩:=hp.range
 obtain⟨b1,b2,b3,_⟩:=hq.range
 have ha:=(qe2 hp.1).2.2
 constructor
 · rintro⟨h1,h2,h3,h4,h5⟩
   refine⟨h4.symm,?_,h5.symm⟩
   rw[h4]at b3;omega
 · rintro⟨h1,h2,h3⟩
   refine⟨?_,hq.1,ha,h1.symm,h3.symm⟩
   have h1':p.v=q.v:=h1
   rw[h1']at a3;omega
theorem qb8u {p q:Pq}(hp:p.good)(hq:q.good)(h:p.np=q.np):p=q:=by
 obtain⟨a1,a2,a3,_⟩:=hp.range
 obtain⟨b1,b2,b3,_⟩:=hq.range
 have h1:p.v=q.v:=congrArg Np.v h
 have h2:numP p.hi p.lo=numP q.hi q.lo:=congrArg Np.n h
 obtain⟨h3,h4⟩:=qbxu hp.2.1 hp.2.2 hq.2.1 hq.2.2 h2
 have h5:p.bits=q.bits:=by rw[h,h1]at a3;omega
 cases p;cases q;simp only at*
 subst h1 h3 h4 h5;rfl
def Pq.low (p:Pq):Pq:=⟨p.v,p.hi,p.lo,p.bits+1⟩
def Pq.high (p:Pq):Pq:=⟨p.v,qbn .or .u64 p.hi (bitP p.v p.bits).1,qbn .or .u64 p.lo (bitP p.v p.bits).2,p.bits+1⟩
def Pq.half (p:Pq):Bool:=qqo p.v p.hi p.lo p.bits
theorem Pq.half_iff {p:Pq}(hp:p.good):p.half=true↔0<p.np.k:=by
 obtain⟨a1,a2,a3,_⟩:=hp.range
 unfold Pq.half qqo
 rw[hp.1]
 simp only[zta,decide_eq_true_eq]
 omega
theorem Pq.low_np {p:Pq}(hp:p.good)(h:p.half=true):p.low.np=p.np.low:=by
 obtain⟨a1,a2,a3,_⟩:=hp.range
 have hk:=(Pq.half_iff hp).1 h
 have:kOf p.v (p.bits+1)=kOf p.v p.bits-1:=by unfold kOf;omega
 unfold Pq.np Pq.low Np.low
 simp only[this]
theorem Pq.high_np {p:Pq}(hp:p.good)(h:p.half=true):p.high.np=p.np.high:=by
 obtain⟨a1,a2,a3,_⟩:=hp.range
 have hk:=(Pq.half_iff hp).1 h
 have:kOf p.v (p.bits+1)=kOf p.v p.bits-1:=by unfold kOf;omega
 unfold Pq.np Pq.high Np.high
 simp only
 rw[qb48 h hp.2.1 hp.2.2,this]
theorem qbrk {v:Bool}{hi lo:Int}(u1:uok hi)(u2:uok lo):qfy v hi lo=true↔(v=true\/numP hi lo<2^32):=by
 unfold qfy numP
 obtain⟨a1,a2⟩:=u1
 obtain⟨b1,b2⟩:=u2
 cases v with
 |true=>simp
 |false=>
  have e:(2:Nat)^32=4294967296:=by decide
  rw[e]
  simp only[Bool.false_or,zat,beq_iff_eq,decide_eq_true_eq,Bool.false_eq_true,false_or]
  omega
theorem Pq.low_good {p:Pq}(hp:p.good)(h:p.half=true):p.low.good:=by
 have hk:=(Pq.half_iff hp).1 h
 obtain⟨a1,a2,a3,_⟩:=hp.range
 refine⟨(q1b hp.2.1 hp.2.2).2 ⟨(qe2 hp.1).2.2,by show 0<=p.bits+1;omega,by show p.bits+1<=ql p.v;omega,?_⟩,hp.2⟩
 have:=Np.low_ok hp.np_ok hk
 rw[<-Pq.low_np hp h]at this
 exact this
theorem Pq.high_good {p:Pq}(hp:p.good)(h:p.half=true):p.high.good:=by
 have hk:=(Pq.half_iff hp).1 h
 obtain⟨a1,a2,a3,a4⟩:=hp.range
 have u1:uok p.high.hi:=qb22 _ _
 have u2:uok p.high.lo:=qb22 _ _
 have hn:=Pq.high_np hp h
 refine⟨(q1b u1 u2).2 ⟨(qbrk u1 u2).2 ?_,by show 0<=p.bits+1;omega,by show p.bits+1<=ql p.v;omega,?_⟩,u1,u2⟩
 · rcases(qbrk hp.2.1 hp.2.2).1 (qe2 hp.1).2.2 with h1|h1
   · exact .inl h1
   · cases hv:p.v with
     |true=>exact .inl hv
     |false=>
      right
      have e:numP p.high.hi p.high.lo=p.np.n+2^(p.np.k-1):=congrArg Np.n hn
      rw[e]
      have hk32:p.np.k<=32:=by rw[hv]at a3;simp[ql]at a3;omega
      have hpo:=hp.np_ok
      have hlt:p.np.n<2^32:=h1
      obtain⟨u,hu⟩:=Nat.dvd_of_mod_eq_zero hpo
      obtain⟨c,hc⟩:=qbkx hk32
      have hlt2:u<c:=by
       rw[hu,hc]at hlt
       exact Nat.lt_of_mul_lt_mul_left hlt
      have:2^p.np.k*(u+1)<=2^p.np.k*c:=Nat.mul_le_mul_left _ hlt2
      rw[Nat.mul_add,<-hu,<-hc,qboy hk]at this
      have h0:=Nat.two_pow_pos (p.np.k-1)
      omega
 · have:=Np.high_ok hp.np_ok hk
   rw[<-hn]at this
   exact this
def qhq (l:LA):Nat->Pq->List Pq
 |0,_=>[]
 |n+1,p=>bif l.any (fun b=>winP p (pqY b))then[]else bif !(l.any fun b=>ovP (pqY b) p)then[p]else bif p.half then qhq l n p.low++qhq l n p.high else[]
def ql1 (l:LA):Prop:=∀y,y∈l->(pqY y).good
theorem qbke {p q b:Pq}(hp:p.good)(hq:q.good)(hb:b.good)(h:q.np.sub p.np)(ho:ovP b q=true):ovP b p=true:=by
 unfold ovP at*
 rw[Bool.or_eq_true,qgi hb hq,qgi hq hb]at ho
 rw[Bool.or_eq_true,qgi hb hp,qgi hp hb]
 rcases ho with ho|ho
 · exact .inl (Np.sub_trans ho h)
 · rcases Nat.lt_or_ge b.np.k p.np.k with hk|hk
   · exact .inl (Np.nest ho h (by omega))
   · exact .inr (Np.nest h ho hk)
theorem qbam {l l':LA}(hl:ql1 l)(hl':ql1 l'){c:Pq}(hc:c.good)
 (hW:∀q:Pq,q.good->q.np.sub c.np->(l.any fun b=>winP q (pqY b))=l'.any fun b=>winP q (pqY b)) (hO:∀q:Pq,q.good->q.np.sub c.np->(l.any fun b=>ovP (pqY b) q)=l'.any fun b=>ovP (pqY b) q):
 ∀(n:Nat) (p:Pq),p.good->p.np.sub c.np->qhq l n p=qhq l' n p
 |0,p,_,_=>rfl
 |n+1,p,hp,hs=>by
  unfold qhq
  rw[hW p hp hs,hO p hp hs]
  cases hh:p.half with
  |false=>rfl
  |true=>
   have hk:=(Pq.half_iff hp).1 hh
   have h1:p.low.np.sub p.np:=by rw[Pq.low_np hp hh];exact Np.low_sub hp.np_ok hk
   have h2:p.high.np.sub p.np:=by rw[Pq.high_np hp hh];exact Np.high_sub hp.np_ok hk
   rw[qbam hl hl' hc hW hO n p.low (Pq.low_good hp hh) (Np.sub_trans h1 hs),qbam hl hl' hc hW hO n p.high (Pq.high_good hp hh) (Np.sub_trans h2 hs)]
theorem qbkf {l:LA}(hl:ql1 l){c:Pq}(hc:c.good)(n:Nat)(p:Pq)(hp:p.good)(hs:p.np.sub c.np):qhq (l.filter fun b=>ovP (pqY b) c) n p=qhq l n p:=by
 refine qbam (fun y hy=>hl y ((zmf.1 hy).1)) hl hc (fun q hq hqc=> ?_) (fun q hq hqc=> ?_) n p hp hs
 · rw[Bool.eq_iff_iff,zay,zay]
   constructor
   · rintro⟨b,hb,h⟩;exact⟨b,(zmf.1 hb).1,h⟩
   · rintro⟨b,hb,h⟩
     refine⟨b,zmf.2 ⟨hb,qbke hc hq (hl b hb) hqc ?_⟩,h⟩
     unfold ovP;rw[h,Bool.or_true]
 · rw[Bool.eq_iff_iff,zay,zay]
   constructor
   · rintro⟨b,hb,h⟩;exact⟨b,(zmf.1 hb).1,h⟩
   · rintro⟨b,hb,h⟩
     exact⟨b,zmf.2 ⟨hb,qbke hc hq (hl b hb) hqc h⟩,h⟩
theorem qbuq {α:Type}{A B C:α->Bool}:∀(l:List α),(∀b,b∈l->A b=true->C b=true)->(∀b,b∈l->B b=true->C b=true)->(∀b,b∈l->A b=true->B b=true->False)->(l.filter A).length+(l.filter B).length<=(l.filter C).length
 |[],_,_,_=>by simp
 |b::r,h1,h2,h3=>by
  have ih:=qbuq r (fun x hx=>h1 x (zmc _ hx)) (fun x hx=>h2 x (zmc _ hx)) (fun x hx=>h3 x (zmc _ hx))
  have k1:=h1 b List.mem_cons_self
  have k2:=h2 b List.mem_cons_self
  have k3:=h3 b List.mem_cons_self
  rw[List.filter_cons,List.filter_cons,List.filter_cons]
  cases hA:A b<;>cases hB:B b
  · cases C b<;>simp<;>omega
  · rw[k2 hB];simp;omega
  · rw[k1 hA];simp;omega
  · exact(k3 hA hB).elim
theorem qbkg {l:LA}(hl:ql1 l):∀(n:Nat) (p:Pq),p.good->(qhq l n p).length<=(l.filter fun b=>ovP (pqY b) p).length*n+1
 |0,p,_=>by simp[qhq]
 |n+1,p,hp=>by
  unfold qhq
  cases hW:l.any fun b=>winP p (pqY b)with
  |true=>simp
  |false=>
   cases hO:l.any fun b=>ovP (pqY b) p with
   |false=>simp
   |true=>
    cases hh:p.half with
    |false=>simp
    |true=>
     have hk:=(Pq.half_iff hp).1 hh
     have hlg:=Pq.low_good hp hh
     have hhg:=Pq.high_good hp hh
     have h1:p.low.np.sub p.np:=by rw[Pq.low_np hp hh];exact Np.low_sub hp.np_ok hk
     have h2:p.high.np.sub p.np:=by rw[Pq.high_np hp hh];exact Np.high_sub hp.np_ok hk
     have i1:=qbkg hl n p.low hlg
     have i2:=qbkg hl n p.high hhg
     have hc:=qbuq (A:=fun b=>ovP (pqY b) p.low) (B:=fun b=>ovP (pqY b) p.high) (C:=fun b=>ovP (pqY b) p) l (fun b hb h=>qbke hp hlg (hl b hb) h1 h) (fun b hb h=>qbke hp hhg (hl b hb) h2 h) (fun b hb ha hb'=>by
      have hbg:=hl b hb
      have hnw:winP p (pqY b)=false:=by
       rw[List.any_eq_false]at hW
       simpa using hW b hb
      have hns:¬p.np.sub (pqY b).np:=fun h=>by rw[(qgi hp hbg).2 h]at hnw;cases hnw
      unfold ovP at ha hb'
      rw[Bool.or_eq_true,qgi hbg hlg,qgi hlg hbg,Pq.low_np hp hh]at ha
      rw[Bool.or_eq_true,qgi hbg hhg,qgi hhg hbg,Pq.high_np hp hh]at hb'
      have hlo:=Np.low_ok hp.np_ok hk
      have hho:=Np.high_ok hp.np_ok hk
      rcases ha with ha|ha<;>rcases hb' with hb'|hb'
      · exact Np.not_both hp.np_ok hbg.np_ok hk ha hb'
      · exact Np.not_both hp.np_ok hho hk (Np.sub_trans hb' ha) (Np.sub_refl hho)
      · exact Np.not_both hp.np_ok hlo hk (Np.sub_refl hlo) (Np.sub_trans ha hb')
      · exact hns (Np.both hp.np_ok hbg.np_ok hk ha hb'))
     have hpos:0<(l.filter fun b=>ovP (pqY b) p).length:=by
      obtain⟨b,hb,h⟩:=zay.1 hO
      exact List.length_pos_of_mem (zmf.2 ⟨hb,h⟩)
     simp only[znt,zcf,zct,List.length_append]
     generalize (l.filter fun b=>ovP (pqY b) p).length=c at*
     generalize (l.filter fun b=>ovP (pqY b) p.low).length=c1 at*
     generalize (l.filter fun b=>ovP (pqY b) p.high).length=c2 at*
     have e1:(c1+c2)*n<=c*n:=zmm _ hc
     rw[Nat.add_mul]at e1
     rw[Nat.mul_add]
     omega
theorem qbx0 {l:LA}(hl:ql1 l)(hn:l.length<=1000){n:Nat}(hn2:n<=200){p:Pq}(hp:p.good):(qhq l n p).length<=200001:=by
 have h1:=qbkg hl n p hp
 have h2:(l.filter fun b=>ovP (pqY b) p).length<=1000:=Nat.le_trans (List.length_filter_le _ _) hn
 have h3:(l.filter fun b=>ovP (pqY b) p).length*n<=1000*200:=Nat.mul_le_mul h2 hn2
 omega
theorem qb1b (v6:Bool)(hi lo bits:Int)(w6:Bool)(whi wlo wbits:Int):q1w v6 hi lo bits w6 whi wlo wbits=some (ovP ⟨v6,hi,lo,bits⟩ ⟨w6,whi,wlo,wbits⟩):=by
 rw[qblk];unfold qq2 ovP winP
 simp only[q9h,zos]
 cases qkn v6 hi lo bits w6 whi wlo wbits<;>simp
theorem qb7h {R:Type}{a:LA}(x:AV)(h:(a.length+1)*32<=140737488355328)(k:Option R):(bif decide ((a.length+([x]:List AV).length)*32<=140737488355328)then k else none)=k:=by
 rw[show([x]:List AV).length=1 from rfl,decide_eq_true h];rfl
theorem qb3b (rec:List AV->List AV->Bool->Int->Int->Int->Option (List AV))(l:LA)(hl:qn l)(hn:l.length<=1000)(a:LA)(p:Pq)(kx:List AV->Option (List AV)):
 qqc rec l (l.length:Int) a p.v p.hi p.lo p.bits kx FU 0 []=bif l.any (fun b=>winP p (pqY b))then some a else kx (l.filter fun b=>ovP (pqY b) p):=by
 rw[q4t]
 have key:=qb0 (σ:=List AV) l hl.1 (fun n i s=>qq4 rec l (l.length:Int) a p.v p.hi p.lo p.bits kx n i s) (fun i s nx=>qkh rec l (l.length:Int) i a p.v p.hi p.lo p.bits s nx kx) (fun _ _ _=>rfl)
  (fun i s=>s.length<=i) (fun r s=>bif r.any (fun b=>winP p (pqY b))then some a else kx (s++r.filter fun b=>ovP (pqY b) p)) ?_ ?_ [] FU (by simp) (qca (by have:=hl.1;omega))
 · exact key
 · intro s nx _;simp[qkh]
 · intro i y r s nx g1 g2 g3 g4 h2 h5
   have hy:=hl.2 y (zmg g2)
   have h6:(i:Int)<(l.length:Int):=by omega
   have hyy:=qe9 hy.1
   unfold mkB at hyy
   have n1:=h5 (s++[y]) (by simp;omega)
   have n2:=h5 s (by omega)
   unfold qkh
   simp only[h6,zdt,zct,zin,g2,zos,hy.1,g4,q9h,qb1b,hyy,zhs]
   rw[qb27 y (a:=s) (by omega),n1,n2,List.any_cons,List.filter_cons]
   rw[show qkn p.v p.hi p.lo p.bits (gB y.cells 0) (gI y.cells 1) (gI y.cells 2) (gI y.cells 3)=winP p (pqY y)from rfl]
   rw[show ovP ⟨gB y.cells 0,gI y.cells 1,gI y.cells 2,gI y.cells 3⟩ ⟨p.v,p.hi,p.lo,p.bits⟩=ovP (pqY y) p from rfl]
   cases winP p (pqY y)<;>cases ovP (pqY y) p<;>simp
theorem qb5a {α:Type}(l:List α)(q:α->Bool):(((l.filter q).length:Int)==0)= !(l.any q):=by
 rw[Bool.eq_iff_iff]
 simp only[beq_iff_eq,Bool.not_eq_true',List.any_eq_false]
 constructor
 · intro h x hx
   have:l.filter q=[]:=List.eq_nil_of_length_eq_zero (by omega)
   simpa using List.filter_eq_nil_iff.1 this x hx
 · intro h
   have:l.filter q=[]:=List.filter_eq_nil_iff.2 h
   rw[this];rfl
theorem qbx1:∀(n:Nat) (p:Pq),p.good->p.np.k+1=n->∀(m:Nat),n<=m->∀(a l:LA),qn l->ql1 l->l.length<=1000->a.length+(qhq l n p).length<=1000000000->
 qey m a l p.v p.hi p.lo p.bits=some (a++(qhq l n p).map Pq.av)
 |0,p,hp,hk,_,_,_,_,_,_,_,_=>by omega
 |n+1,p,hp,hk,m,hm,a,l,hl,hg,hn,hsz=>by
  obtain⟨m,rfl⟩:∃j,m=j+1:=⟨m-1,by omega⟩
  show qx3 (qey m) a l p.v p.hi p.lo p.bits=_
  unfold qx3
  simp only[zhs,qpg,List.length_nil,zas,zct]
  rw[qb3b _ l hl hn,qb5a]
  unfold qhq at hsz⊢
  cases hW:l.any fun b=>winP p (pqY b)with
  |true=>simp
  |false=>
   simp only[hW,zcf]at hsz⊢
   cases hO:l.any fun b=>ovP (pqY b) p with
   |false=>
    have hsz':a.length+1<=1000000000:=by simpa[hO]using hsz
    simp only[hO,znf,zct,zhs]
    rw[qb7h _ (by omega)]
    rfl
   |true=>
    simp only[hO,znt,zcf]at hsz⊢
    rw[qbup p.v p.hi p.lo p.bits hp.2.1 hp.2.2]
    simp only[zos]
    unfold qbcz
    cases hh:qqo p.v p.hi p.lo p.bits with
    |false=>
     have hh':p.half=false:=hh
     simp only[hh',zcf,znf,zct]
     simp
    |true=>
     have hh':p.half=true:=hh
     have hkk:=(Pq.half_iff hp).1 hh'
     have hlg:=Pq.low_good hp hh'
     have hhg:=Pq.high_good hp hh'
     have h1:p.low.np.sub p.np:=by rw[Pq.low_np hp hh'];exact Np.low_sub hp.np_ok hkk
     have h2:p.high.np.sub p.np:=by rw[Pq.high_np hp hh'];exact Np.high_sub hp.np_ok hkk
     have k1:p.low.np.k+1=n:=by rw[Pq.low_np hp hh'];show p.np.k-1+1=n;omega
     have k2:p.high.np.k+1=n:=by rw[Pq.high_np hp hh'];show p.np.k-1+1=n;omega
     have f1:=qbkf hg hp n p.low hlg h1
     have f2:=qbkf hg hp n p.high hhg h2
     have hf:qn (l.filter fun b=>ovP (pqY b) p):=⟨Nat.le_trans (List.length_filter_le _ _) hl.1,fun y hy=>hl.2 y (zmf.1 hy).1⟩
     have hfg:ql1 (l.filter fun b=>ovP (pqY b) p):=fun y hy=>hg y (zmf.1 hy).1
     have hfn:(l.filter fun b=>ovP (pqY b) p).length<=1000:=Nat.le_trans (List.length_filter_le _ _) hn
     simp only[hh',zct,List.length_append]at hsz⊢
     have r1:=qbx1 n p.low hlg k1 m (by omega) a _ hf hfg hfn (by rw[f1];omega)
     have r2:=qbx1 n p.high hhg k2 m (by omega) (a++(qhq l n p.low).map Pq.av) _ hf hfg hfn (by rw[f2];simp only[List.length_append,List.length_map];omega)
     rw[f1]at r1
     rw[f2]at r2
     simp only[znt,zcf,zhs,zct,zas]
     rw[show qey m a (l.filter fun b=>ovP (pqY b) p) (gB (lowP p.v p.hi p.lo p.bits).cells 0) (gI (lowP p.v p.hi p.lo p.bits).cells 1) (gI (lowP p.v p.hi p.lo p.bits).cells 2) (gI (lowP p.v p.hi p.lo p.bits).cells 3)=some (a++(qhq l n p.low).map Pq.av)from r1]
     simp only[zos,zhs,zct]
     rw[show qey m (a++(qhq l n p.low).map Pq.av) (l.filter fun b=>ovP (pqY b) p) (gB (qbfe p.v p.hi p.lo p.bits).cells 0) (gI (qbfe p.v p.hi p.lo p.bits).cells 1) (gI (qbfe p.v p.hi p.lo p.bits).cells 2) (gI (qbfe p.v p.hi p.lo p.bits).cells 3)=some (a++(qhq l n p.low).map Pq.av++(qhq l n p.high).map Pq.av)from r2]
     simp
theorem qf4 {l:LA}(hl:qn l)(ht:qcz l):ql1 l:=fun y hy=>by
 obtain⟨j,hj⟩:=List.getElem?_of_mem hy
 exact⟨(ht j y hj).p,(hl.2 y hy).2.1,(hl.2 y hy).2.2.1⟩
theorem qbff {p q:Pq}(hp:p.good)(hq:q.good):qyl p.v p.hi p.lo p.bits q.v q.hi q.lo q.bits=true↔p.np.sub q.np/\p.np.k<q.np.k:=by
 unfold qyl
 rw[zat,decide_eq_true_eq,show qkn p.v p.hi p.lo p.bits q.v q.hi q.lo q.bits=winP p q from rfl,qgi hp hq]
 obtain⟨a1,a2,a3,_⟩:=hp.range
 obtain⟨b1,b2,b3,_⟩:=hq.range
 constructor
 · rintro⟨h1,h2⟩
   refine⟨h2,?_⟩
   have:p.v=q.v:=h2.1
   rw[this]at a3;omega
 · rintro⟨h1,h2⟩
   refine⟨?_,h1⟩
   have:p.v=q.v:=h1.1
   rw[this]at a3;omega
def qyn (l:LA)(p:Pq):List AV:=l.filter fun y=>qyl (gB y.cells 0) (gI y.cells 1) (gI y.cells 2) (gI y.cells 3) p.v p.hi p.lo p.bits
def qb1c (l:LA)(p:Pq):List AV:=
 bif(match l.find? (atP p.v p.hi p.lo p.bits)with|some y=>gI y.cells 4==1|none=>false)then(qhq (qyn l p) (p.np.k+1) p).map Pq.av else[]
theorem qbkh {l:LA}(hg:ql1 l){p:Pq}{y:AV}(hy:l.find? (atP p.v p.hi p.lo p.bits)=some y):p.good/\pqY y=p:=by
 have h1:=List.find?_some hy
 obtain⟨a,b,c,d⟩:=qqn.1 h1
 have e:pqY y=p:=by unfold pqY;rw[a,b,c,d]
 have:=hg y (List.mem_of_find?_eq_some hy)
 rw[e]at this
 exact⟨this,e⟩
theorem qb9y {n:Nat}(h:n<=1000):n<=FU:=by rw[qb59];omega
theorem qb3c (y:AV):gI (blkV y).cells 4=gI y.cells 4:=rfl
theorem qb8v (l:LA)(hl:qn l)(hg:ql1 l)(hn:l.length<=1000)(p:Pq):q2y l p.v p.hi p.lo p.bits=some (qb1c l p):=by
 rw[qbr5];unfold qx4 qb1c
 rw[qbz0 l hl]
 simp only[zos]
 unfold qbe9
 cases hf:l.find? (atP p.v p.hi p.lo p.bits)with
 |none=>rfl
 |some y=>
  obtain⟨hp,_⟩:=qbkh hg hf
  simp only[qb3c,znt,Bool.false_or]
  cases hk:gI y.cells 4==1 with
  |false=>
   have:(gI y.cells 4 != 1)=true:=by unfold bne;rw[hk];rfl
   rw[this];rfl
  |true=>
   have:(gI y.cells 4 != 1)=false:=by unfold bne;rw[hk];rfl
   rw[this]
   simp only[zcf,qpg,List.length_nil,zas,zct]
   have lp:∀kx:List AV->Option (List AV),qz9 l (l.length:Int) p.v p.hi p.lo p.bits kx FU 0 []=kx (qyn l p):=by
    intro kx
    rw[qbh5]
    have key:=qb0 (σ:=List AV) l hl.1 (fun n i s=>qmb l (l.length:Int) p.v p.hi p.lo p.bits kx n i s) (fun i s nx=>qma l (l.length:Int) i p.v p.hi p.lo p.bits s nx kx) (fun _ _ _=>rfl)
     (fun i s=>s.length<=i) (fun r s=>kx (s++qyn r p)) ?_ ?_ [] FU (by simp) (qca (by have:=hl.1;omega))
    · exact key
    · intro s nx _;simp[qma,qyn]
    · intro i y r s nx g1 g2 g3 g4 h2 h5
      have hy:=hl.2 y (zmg g2)
      have h6:(i:Int)<(l.length:Int):=by omega
      have hyy:=qe9 hy.1
      unfold mkB at hyy
      have n1:=h5 (s++[y]) (by simp;omega)
      have n2:=h5 s (by omega)
      unfold qma
      simp only[h6,zdt,zct,zin,g2,zos,hy.1,g4,qbxv,hyy,zhs]
      rw[qb27 y (a:=s) (by omega),n1,n2]
      unfold qyn
      rw[List.filter_cons]
      cases qyl (gB y.cells 0) (gI y.cells 1) (gI y.cells 2) (gI y.cells 3) p.v p.hi p.lo p.bits<;>simp
   rw[lp]
   simp only[zhs,zct]
   have hf2:qn (qyn l p):=⟨Nat.le_trans (List.length_filter_le _ _) hl.1,fun y hy=>hl.2 y (zmf.1 hy).1⟩
   have hfg:ql1 (qyn l p):=fun y hy=>hg y (zmf.1 hy).1
   have hfn:(qyn l p).length<=1000:=Nat.le_trans (List.length_filter_le _ _) hn
   have hk2:=hp.range.2.2.2
   have:=qbx1 (p.np.k+1) p hp rfl FU (qb9y (by omega)) [] (qyn l p) hf2 hfg hfn (by have:=qbx0 hfg hfn (n:=p.np.k+1) (by omega) hp;simp;omega)
   rw[qba0,this]
   simp
theorem q5k {l:LA}:qcz l↔(∀y,y∈l->qm7 y=true/\mayB y=true)/\l.Pairwise fun x y=>ltY x y/\qbw y x=false:=by
 constructor
 · intro h
   refine⟨fun y hy=> ?_,List.pairwise_iff_getElem.2 fun i j hi hj hij=> ?_⟩
   · obtain⟨j,hj⟩:=List.getElem?_of_mem hy
     exact⟨(h j y hj).p,(h j y hj).may⟩
   · have h1:l[i]?=some l[i]:=by simp
     have h2:l[j]?=some l[j]:=by simp
     exact⟨h.sorted i _ h1 j _ hij h2,(h j _ h2).bar i _ hij h1⟩
 · rintro⟨h1,h2⟩ j y hy
   rw[List.pairwise_iff_getElem]at h2
   obtain⟨hj,rfl⟩:=zge.1 hy
   refine⟨(h1 _ (List.getElem_mem hj)).1,(h1 _ (List.getElem_mem hj)).2,fun i z hji hz=> ?_,fun k z hk hz=> ?_⟩
   · obtain⟨hi,rfl⟩:=zge.1 hz
     exact(h2 i j hi hj (by omega)).1
   · obtain⟨hi,rfl⟩:=zge.1 hz
     exact(h2 k j hi hj hk).2
theorem qcz.rem {l:LA}(ht:qcz l)(v:Bool)(hi lo bits:Int):qcz (remF l v hi lo bits):=by
 rw[q5k]at ht⊢
 exact⟨fun y hy=>ht.1 y (zmf.1 hy).1,ht.2.filter _⟩
theorem qb5b {l:LA}(hl:qn l)(v:Bool)(hi lo bits:Int):qn (remF l v hi lo bits):=⟨Nat.le_trans (List.length_filter_le _ _) hl.1,fun y hy=>hl.2 y (zmf.1 hy).1⟩
theorem qbx2 {l:LA}(hl:qn l)(hn:l.length<=100000){b:AV}(hb:qg7 b):qn (insF b l):=⟨by rw[q7g];omega,fun y hy=>by
 rcases qr5.1 hy with rfl|h
 · exact hb
 · exact hl.2 y h⟩
theorem qb1d {l:LA}(hl:qn l){v:Bool}{hi lo bits:Int}{y:AV}(h:l.find? (atP v hi lo bits)=some y):qbe9 l v hi lo bits=(y,true):=by
 unfold qbe9;rw[h];simp only
 rw[qbun (hl.2 y (List.mem_of_find?_eq_some h)).1]
theorem qb1e {l:LA}{v:Bool}{hi lo bits:Int}(h:l.find? (atP v hi lo bits)=none):qbe9 l v hi lo bits=(blk0,false):=by
 unfold qbe9;rw[h]
theorem pick {l:LA}{n:Int}(hn:0<=n/\n<=255)(h0:0<l.length)(hl:l.length<=1000):
 ∃y,ixB l ((i64.wrap n).tmod (l.length:Int))=some y/\y∈l:=by
 obtain⟨m,rfl⟩:=Int.eq_ofNat_of_zero_le hn.1
 rw[w64 (by omega) (by omega),<-Int.ofNat_tmod,zin]
 have hlt:=Nat.mod_lt m h0
 refine⟨l[m%l.length],?_,List.getElem_mem _⟩
 simp[hlt]
def atY (b y:AV):Bool:=atP (gB b.cells 0) (gI b.cells 1) (gI b.cells 2) (gI b.cells 3) y
theorem qwj {b y:AV}:atY b y=true↔pqY y=pqY b:=by
 unfold atY;rw[qqn];unfold pqY
 constructor
 · rintro⟨h1,h2,h3,h4⟩;rw[h1,h2,h3,h4]
 · intro h;injection h with h1 h2 h3 h4;exact⟨h1,h2,h3,h4⟩
theorem qb8w {y b:AV}(h:cmpY y b>0):ltY b y:=(qpb b y).2.2.1 ((qpb y b).1.1 h)
theorem qb8x {y b:AV}(h:¬cmpY y b>0)(hne:atY b y=false):ltY y b:=by
 refine(qpb y b).2.2.1 ?_
 have:cmpY y b≠0:=fun h0=>by
  have:=qbfb.1 (q2r.2 h0)
  rw[show atY b y=true from qqn.2 this]at hne;cases hne
 omega
theorem qb8y {y b:AV}(h:ltY y b):¬cmpY y b>0:=by
 have:=(qpb y b).2.2.2 h
 omega
theorem qbsz {y b:AV}(h:ltY b y):cmpY y b>0:=(qpb y b).1.2 ((qpb b y).2.2.2 h)
theorem qbur {b:AV}:∀{l:LA},l.Pairwise (fun x y=>ltY x y/\qbw y x=false)->(∀z,z∈l->atY b z=false/\qbw b z=false/\qbw z b=false)->(insF b l).Pairwise fun x y=>ltY x y/\qbw y x=false
 |[],_,_=>by simp[insF]
 |y::r,hp,h=>by
  rw[List.pairwise_cons]at hp
  rw[q9i]
  by_cases hc:cmpY y b>0
  · simp only[hc,zdt,zct]
    have hby:=qb8w hc
    refine List.pairwise_cons.2 ⟨fun z hz=> ?_,List.pairwise_cons.2 hp⟩
    refine⟨?_,(h z hz).2.2⟩
    rcases List.mem_cons.1 hz with rfl|hz'
    · exact hby
    · exact qzu hby (hp.1 z hz').1
  · simp only[hc,zdf,zcf]
    have h0:=h y (by simp)
    refine List.pairwise_cons.2 ⟨fun z hz=> ?_,qbur hp.2 fun z hz=>h z (zmc _ hz)⟩
    rcases qr5.1 hz with rfl|hz'
    · exact⟨qb8x hc h0.1,h0.2.1⟩
    · exact hp.1 z hz'
theorem qcz.ins {l:LA}(ht:qcz l){b:AV}(h1:qm7 b=true)(h2:mayB b=true)(h:∀z,z∈l->atY b z=false/\qbw b z=false/\qbw z b=false):qcz (insF b l):=by
 obtain⟨a1,a2⟩:=q5k.1 ht
 refine q5k.2 ⟨fun y hy=> ?_,qbur a2 h⟩
 rcases qr5.1 hy with rfl|hy'
 · exact⟨h1,h2⟩
 · exact a1 y hy'
theorem qbx3 {q:AV->Bool}{b:AV}(hb:q b=false):∀l:List AV,(insF b l).filter q=l.filter q
 |[]=>by simp[insF,hb]
 |y::r=>by
  rw[q9i]
  cases decide (cmpY y b>0)with
  |true=>simp only[zct];rw[List.filter_cons];simp[hb]
  |false=>simp only[zcf];rw[List.filter_cons,List.filter_cons,qbx3 hb r]
theorem qbrl {q:AV->Bool}{l:LA}(h:∀z,z∈l->q z=true):l.filter q=l:=List.filter_eq_self.2 h
theorem qbs0 {y:AV}:∀{l:LA},l.Pairwise ltY->y∈l->insF y (l.filter fun z=> !atY y z)=l
 |[],_,h=>by simp at h
 |x::r,hp,hm=>by
  rw[List.pairwise_cons]at hp
  have hyy:atY y y=true:=qwj.2 rfl
  have nat:∀a b:AV,ltY a b->atY b a=false/\atY a b=false:=fun a b hab=>by
   constructor
   · cases hq:atY b a with
     |false=>rfl
     |true=>
      have:=qbsz hab
      have h0:=q2r.1 (qbfb.2 (qqn.1 hq))
      have h1:=(qpb a b).2.2.2 hab
      omega
   · cases hq:atY a b with
     |false=>rfl
     |true=>
      have h0:=q2r.1 (qbfb.2 (qqn.1 hq))
      have:=qbsz hab
      omega
  rcases List.mem_cons.1 hm with rfl|hm'
  · have e:(r.filter fun z=> !atY y z)=r:=qbrl fun z hz=>by rw[(nat y z (hp.1 z hz)).2];rfl
    rw[List.filter_cons,hyy]
    simp only[znt,Bool.false_eq_true,if_false,e]
    cases r with
    |nil=>rfl
    |cons z r=>rw[q9i];simp only[qbsz (hp.1 z (by simp)),zdt,zct]
  · have hxy:=hp.1 y hm'
    rw[List.filter_cons,(nat x y hxy).1]
    simp only[znf,if_true]
    rw[q9i]
    simp only[qb8y hxy,zdf,zcf]
    rw[qbs0 hp.2 hm']
theorem q5v {l:LA}(ht:qcz l):l.Pairwise ltY:=(q5k.1 ht).2.imp fun h=>h.1
theorem qb5c {l:LA}(ht:qcz l){y:AV}(hy:y∈l):(remF l (pqY y).v (pqY y).hi (pqY y).lo (pqY y).bits).length+1=l.length:=by
 have:=congrArg List.length (qbs0 (q5v ht) hy)
 rw[q7g]at this
 exact this
def barK (ky kz:Int):Bool:=bif kz==3 then true else bif kz==2 then ky != 3 else false
theorem qbky {y z:AV}(hy:(pqY y).good)(hz:(pqY z).good):qbw y z=false↔((pqY y).np.sub (pqY z).np->(pqY y).np.k<(pqY z).np.k->barK (gI y.cells 4) (gI z.cells 4)=false):=by
 have e:qbw y z=bif qyl (pqY y).v (pqY y).hi (pqY y).lo (pqY y).bits (pqY z).v (pqY z).hi (pqY z).lo (pqY z).bits then barK (gI y.cells 4) (gI z.cells 4)else false:=by
  unfold qbw qyl
  rw[Bool.and_comm];rfl
 rw[e]
 cases hl:qyl (pqY y).v (pqY y).hi (pqY y).lo (pqY y).bits (pqY z).v (pqY z).hi (pqY z).lo (pqY z).bits with
 |true=>obtain⟨h1,h2⟩:=(qbff hy hz).1 hl;simp[h1,h2]
 |false=>
  simp only[zcf,true_iff]
  intro h1 h2
  rw[(qbff hy hz).2 ⟨h1,h2⟩]at hl;cases hl
theorem qcz.bars {l:LA}(hl:qn l)(ht:qcz l){y z:AV}(hy:y∈l)(hz:z∈l):qbw y z=false:=by
 have hg:=qf4 hl ht
 refine(qbky (hg y hy) (hg z hz)).2 fun h1 h2=> ?_
 have hw:winP (pqY y) (pqY z)=true:=(qgi (hg y hy) (hg z hz)).2 h1
 obtain⟨j,hj⟩:=List.getElem?_of_mem hy
 obtain⟨i,hi⟩:=List.getElem?_of_mem hz
 have hne:atP (gB z.cells 0) (gI z.cells 1) (gI z.cells 2) (gI z.cells 3) y=false:=by
  cases hq:atP (gB z.cells 0) (gI z.cells 1) (gI z.cells 2) (gI z.cells 3) y with
  |false=>rfl
  |true=>rw[qwj.1 hq]at h2;omega
 obtain⟨h3,_⟩:=qbf2 (hl.2 y hy) hw hne
 have hij:i<j:=by
  rcases Nat.lt_trichotomy i j with h|h|h
  · exact h
  · subst h;rw[hi]at hj;cases hj;exact absurd h3 qff
  · exact absurd (qzu h3 (ht.sorted j y hj i z h hi)) qff
 exact(qbky (hg y hy) (hg z hz)).1 ((ht j y hj).bar i z hij hi) h1 h2
theorem qbkz {l:LA}(hg:ql1 l){p:Pq}(hp:p.good):occF l p.v p.hi p.lo p.bits=false↔∀y,y∈l->¬((pqY y).np.sub p.np/\(pqY y).np.k<p.np.k):=by
 unfold occF
 rw[List.any_eq_false]
 constructor
 · intro h y hy h2;exact h y hy ((qbff (p:=pqY y) (hg y hy) hp).2 h2)
 · intro h y hy h2;exact h y hy ((qbff (p:=pqY y) (hg y hy) hp).1 h2)
theorem qbz6 {l:LA}{b:AV}:l.any (atP (gB b.cells 0) (gI b.cells 1) (gI b.cells 2) (gI b.cells 3))=false↔∀z,z∈l->atY b z=false:=by
 rw[List.any_eq_false]
 constructor
 · intro h z hz;have:=h z hz;unfold atY;simpa using this
 · intro h z hz;have:=h z hz;unfold atY at this;rw[this];simp
theorem qb5d {l:LA}(hl:qn l)(ht:qcz l){b:AV}(hb:qg7 b)(h:(addF l b).2=0):
 (addF l b).1=insF b l/\qcz (insF b l)/\qce (insF b l) (gB b.cells 0) (gI b.cells 1) (gI b.cells 2) (gI b.cells 3)=(l,0):=by
 have hg:=qf4 hl ht
 unfold addF at*
 cases hp:qm7 b with
 |false=>simp[hp]at h
 |true=>
 cases hm:mayB b with
 |false=>simp[hp,hm]at h
 |true=>
 cases ha:l.any (atP (gB b.cells 0) (gI b.cells 1) (gI b.cells 2) (gI b.cells 3))with
 |true=>simp[hp,hm,ha]at h
 |false=>
 cases hbr:(l.any (qbw b)||occF l (gB b.cells 0) (gI b.cells 1) (gI b.cells 2) (gI b.cells 3))with
 |true=>simp only[hp,hm,ha,hbr,znt,zcf,zct]at h;cases h
 |false=>
 rw[hp,hm,ha,hbr]at h
 simp only[znt,zcf]at*
 cases h512:decide ((l.length:Int)>=512)with
 |true=>rw[h512]at h;simp at h
 |false=>
 simp only[zcf]
 rw[Bool.or_eq_false_iff]at hbr
 have hbg:(pqY b).good:=⟨hp,hb.2.1,hb.2.2.1⟩
 have ho:=(qbkz (p:=pqY b) hg hbg).1 hbr.2
 have hat:=qbz6.1 ha
 have key:∀z,z∈l->atY b z=false/\qbw b z=false/\qbw z b=false:=fun z hz=>by
  refine⟨hat z hz,?_,?_⟩
  · have:=List.any_eq_false.1 hbr.1 z hz;simpa using this
  · exact(qbky (hg z hz) hbg).2 fun h1 h2=>absurd ⟨h1,h2⟩ (ho z hz)
 have hT:=ht.ins hp hm key
 refine⟨trivial,hT,?_⟩
 unfold qce
 have e1:(insF b l).any (atP (gB b.cells 0) (gI b.cells 1) (gI b.cells 2) (gI b.cells 3))=true:=zay.2 ⟨b,qr5.2 (.inl rfl),qqn.2 ⟨rfl,rfl,rfl,rfl⟩⟩
 have e2:occF (insF b l) (gB b.cells 0) (gI b.cells 1) (gI b.cells 2) (gI b.cells 3)=false:=by
  refine(qbkz (p:=pqY b) (l:=insF b l) (fun y hy=> ?_) hbg).2 fun y hy=> ?_
  · rcases qr5.1 hy with rfl|hy'
    · exact hbg
    · exact hg y hy'
  · rcases qr5.1 hy with rfl|hy'
    · intro h;omega
    · exact ho y hy'
 have e3:remF (insF b l) (gB b.cells 0) (gI b.cells 1) (gI b.cells 2) (gI b.cells 3)=l:=by
  unfold remF
  rw[qbx3 (b:=b) (by simp[atP]) l]
  exact qbrl fun z hz=>by have:=hat z hz;unfold atY at this;rw[this];rfl
 rw[e1,e2,e3];rfl
theorem qbx4 {p:Pq}(hp:p.good)(h:p.half=true):p.low.np.sub p.np/\p.high.np.sub p.np/\p.low.np.k+1=p.np.k/\p.high.np.k+1=p.np.k:=by
 have hk:=(Pq.half_iff hp).1 h
 rw[Pq.low_np hp h,Pq.high_np hp h]
 refine⟨Np.low_sub hp.np_ok hk,Np.high_sub hp.np_ok hk,?_,?_⟩
 · show p.np.k-1+1=p.np.k;omega
 · show p.np.k-1+1=p.np.k;omega
theorem qban {l:LA}(hl:qn l)(ht:qcz l){v:Bool}{hi lo bits:Int}(h:(qce l v hi lo bits).2=0):
 qn (qce l v hi lo bits).1/\qcz (qce l v hi lo bits).1/\(qce l v hi lo bits).1.length+1=l.length:=by
 unfold qce at*
 cases h1:l.any (atP v hi lo bits)with
 |false=>rw[h1]at h;cases h
 |true=>
 cases h2:occF l v hi lo bits with
 |true=>rw[h1,h2]at h;cases h
 |false=>
 simp only[znt,zcf]
 obtain⟨y,hy,ha⟩:=zay.1 h1
 obtain⟨a,b,c,d⟩:=qqn.1 ha
 have:=qb5c ht hy
 unfold pqY at this
 simp only[a,b,c,d]at this
 exact⟨qb5b hl v hi lo bits,ht.rem v hi lo bits,this⟩
def betR (b0:Option AV)(y:AV):Bool:=match b0 with
 |none=>true
 |some x=>decide (gI y.cells 3>gI x.cells 3)
theorem qbrm (q:AV->Bool)(b0:Option AV)(y:AV)(r:LA):qp8 q b0 (y::r)=qp8 q (bif q y&&betR b0 y then some y else b0) r:=by cases b0<;>rfl
theorem qbfg {q:AV->Bool}{b:AV}:∀{l:LA} {b0:Option AV},qp8 q b0 l=some b->(b0=some b\/b∈l/\q b=true)/\(∀z,z∈l->q z=true->gI z.cells 3<=gI b.cells 3)/\∀x,b0=some x->gI x.cells 3<=gI b.cells 3
 |[],b0,h=>by
  unfold qp8 at h;subst h
  exact⟨.inl rfl,fun z hz=>by simp at hz,fun x hx=>by cases hx;exact Int.le_refl _⟩
 |y::r,b0,h=>by
  rw[qbrm]at h
  cases hc:(q y&&betR b0 y)with
  |true=>
   rw[hc]at h
   simp only[zct]at h
   obtain⟨h1,h2,h3⟩:=qbfg h
   rw[zat]at hc
   have hy:=h3 y rfl
   refine⟨?_,?_,?_⟩
   · rcases h1 with h1|⟨h1,h1'⟩
     · cases h1;exact .inr ⟨by simp,hc.1⟩
     · exact .inr ⟨zmc _ h1,h1'⟩
   · intro z hz hq
     rcases List.mem_cons.1 hz with rfl|hz
     · exact hy
     · exact h2 z hz hq
   · intro x hx
     subst hx
     have:=hc.2
     simp only[betR,decide_eq_true_eq]at this
     omega
  |false=>
   rw[hc]at h
   simp only[zcf]at h
   obtain⟨h1,h2,h3⟩:=qbfg h
   refine⟨?_,?_,h3⟩
   · rcases h1 with h1|⟨h1,h1'⟩
     · exact .inl h1
     · exact .inr ⟨zmc _ h1,h1'⟩
   · intro z hz hq
     rcases List.mem_cons.1 hz with rfl|hz
     · rw[hq]at hc
       cases b0 with
       |none=>simp[betR]at hc
       |some x=>
        have:=h3 x rfl
        simp only[betR,zta,decide_eq_false_iff_not]at hc
        omega
     · exact h2 z hz hq
theorem qbrn {q:AV->Bool}:∀{l:LA} {b0:Option AV},qp8 q b0 l=none->b0=none/\∀z,z∈l->q z=false
 |[],b0,h=>by unfold qp8 at h;exact⟨h,fun z hz=>by simp at hz⟩
 |y::r,b0,h=>by
  rw[qbrm]at h
  obtain⟨h1,h2⟩:=qbrn h
  cases hq:q y with
  |true=>
   rw[hq]at h1
   cases b0 with
   |none=>simp[betR]at h1
   |some x=>cases hd:betR (some x) y<;>simp[hd]at h1
  |false=>
   rw[hq]at h1
   simp only[Bool.false_and,zcf]at h1
   refine⟨h1,fun z hz=> ?_⟩
   rcases List.mem_cons.1 hz with rfl|hz
   · exact hq
   · exact h2 z hz
theorem qbfh {l:LA}(ht:qcz l){y z:AV}(hy:y∈l)(hz:z∈l)(h:pqY z=pqY y):z=y:=by
 obtain⟨i,hi⟩:=List.getElem?_of_mem hy
 obtain⟨j,hj⟩:=List.getElem?_of_mem hz
 have h1:atP (gB y.cells 0) (gI y.cells 1) (gI y.cells 2) (gI y.cells 3) z=true:=qwj.2 h
 have:=qcz.uniq ht hi hj (qqn.2 ⟨rfl,rfl,rfl,rfl⟩) h1
 subst this
 rw[hi]at hj;cases hj;rfl
theorem qbx5 {z:AV}(hz:(pqY z).good){w:Bool}{ahi alo:Int}(u3:uok ahi)(u4:uok alo):qg9 (gB z.cells 0) (gI z.cells 1) (gI z.cells 2) (gI z.cells 3) w ahi alo=true↔qfy w ahi alo=true/\(⟨w,numP ahi alo,0⟩:Np).sub (pqY z).np:=by
 refine(qbuj (v6:=gB z.cells 0) (hi:=gI z.cells 1) (lo:=gI z.cells 2) (bits:=gI z.cells 3) hz.2.1 hz.2.2 u3 u4).trans ?_
 unfold Np.sub
 constructor
 · rintro⟨_,h2,h3,h4⟩;exact⟨h2,h3.symm,Nat.zero_le _,h4.symm⟩
 · rintro⟨h1,h2,_,h4⟩;exact⟨hz.1,h1,h2.symm,h4.symm⟩
def hasA (w:Bool)(ahi alo:Int)(z:AV):Bool:=qg9 (gB z.cells 0) (gI z.cells 1) (gI z.cells 2) (gI z.cells 3) w ahi alo
theorem qbfi {C:LA}(hC:ql1 C):∀(n:Nat) (p:Pq),p.good->∀q,q∈qhq C n p->q.good/\q.np.sub p.np/\∀c,c∈C->ovP (pqY c) q=false
 |0,p,hp,q,hq=>by simp[qhq]at hq
 |n+1,p,hp,q,hq=>by
  unfold qhq at hq
  cases hW:C.any fun b=>winP p (pqY b)with
  |true=>simp[hW]at hq
  |false=>
   cases hO:C.any fun b=>ovP (pqY b) p with
   |false=>
    simp[hW,hO]at hq
    subst hq
    exact⟨hp,Np.sub_refl hp.np_ok,fun c hc=>by have:=List.any_eq_false.1 hO c hc;simpa using this⟩
   |true=>
    cases hh:p.half with
    |false=>simp[hW,hO,hh]at hq
    |true=>
     rw[hW,hO,hh]at hq
     simp only[zcf,znt,zct,List.mem_append]at hq
     obtain⟨s1,s2,_,_⟩:=qbx4 hp hh
     rcases hq with hq|hq
     · obtain⟨a,b,c⟩:=qbfi hC n p.low (Pq.low_good hp hh) q hq
       exact⟨a,Np.sub_trans b s1,c⟩
     · obtain⟨a,b,c⟩:=qbfi hC n p.high (Pq.high_good hp hh) q hq
       exact⟨a,Np.sub_trans b s2,c⟩
theorem qbx6 (q:Pq):fitC qk q.av.cells=true:=rfl
theorem av_w (q:Pq):gB q.av.cells 0=q.v/\gI q.av.cells 1=q.hi/\gI q.av.cells 2=q.lo/\gI q.av.cells 3=q.bits:=⟨rfl,rfl,rfl,rfl⟩
def betQ (better:Int->Int->Bool)(b:Option Pq)(x:Pq):Bool:=match b with
 |none=>true
 |some q=>better x.bits q.bits
def qnm (better:Int->Int->Bool)(bits:Int):Option Pq->List Pq->Option Pq
 |b,[]=>b
 |b,x::r=>qnm better bits (bif decide (x.bits<=bits)&&betQ better b x then some x else b) r
theorem q3b (better:Int->Int->Bool)(bits:Int)(b:Option Pq)(x:Pq)(r:List Pq):qnm better bits b (x::r)=qnm better bits (bif decide (x.bits<=bits)&&betQ better b x then some x else b) r:=rfl
def pq0:Pq:=⟨false,0,0,0⟩
def outQ:Option Pq->AV×Bool
 |some q=>(q.av,true)
 |none=>(qym,false)
theorem qbki {better:Int->Int->Bool}{bits:Int}{q:Pq}:∀{F:List Pq} {b:Option Pq},qnm better bits b F=some q->(b=some q\/(q∈F/\q.bits<=bits))
 |[],b,h=>.inl h
 |x::r,b,h=>by
  rw[q3b]at h
  rcases qbki h with h1|⟨h1,h2⟩
  · cases hc:decide (x.bits<=bits)&&betQ better b x with
    |true=>
     rw[hc]at h1
     simp only[zct]at h1
     cases h1
     rw[zat,decide_eq_true_eq]at hc
     exact .inr ⟨by simp,hc.1⟩
    |false=>rw[hc]at h1;exact .inl h1
  · exact .inr ⟨zmc _ h1,h2⟩
theorem q7h (F:List Pq)(hF:F.length<=1000000000)(bits:Int):qhd (F.map Pq.av) bits=some (outQ (qnm (fun _ _=>false) bits none F)):=by
 rw[qvx];unfold qed
 rw[qs1]
 have hlen:(F.map Pq.av).length=F.length:=List.length_map _
 have key:=qb0 (σ:=Bool×Pq) F (by omega) (fun n i s=>qcp bits (F.map Pq.av) ((F.map Pq.av).length:Int) false 0 0 0 (fun v b0 b1 b2 b3=>some ((.agg [(.bool b0),(.int .u64 b1),(.int .u64 b2),(.int .i64 b3)]),v)) n s.1 i s.2.v s.2.hi s.2.lo s.2.bits)
  (fun i s nx=>qco bits s.1 (F.map Pq.av) ((F.map Pq.av).length:Int) i false 0 0 0 s.2.v s.2.hi s.2.lo s.2.bits (fun e i v hi lo b=>nx i (e,⟨v,hi,lo,b⟩)) (fun v b0 b1 b2 b3=>some ((.agg [(.bool b0),(.int .u64 b1),(.int .u64 b2),(.int .i64 b3)]),v))) (fun _ _ _=>rfl)
  (fun _ s=>s.1=false->s.2=pq0) (fun r s=>some (outQ (qnm (fun _ _=>false) bits (bif s.1 then some s.2 else none) r))) ?_ ?_ (false,pq0) FU (fun _=>rfl) (qca (by omega))
 · exact key
 · rintro⟨e,q⟩ nx h
   rw[<-hlen]
   unfold qco
   simp only[Int.lt_irrefl,zdf,zcf]
   cases e with
   |false=>rw[show q=pq0 from h rfl];rfl
   |true=>rfl
 · rintro i x r ⟨e,q⟩ nx g1 g2 g3 g4 h h5
   have ga:(F.map Pq.av)[i]?=some x.av:=by rw[List.getElem?_map,g2];rfl
   have h6:(i:Int)<((F.map Pq.av).length:Int):=by omega
   obtain⟨w0,w1,w2,w3⟩:=av_w x
   unfold qco
   simp only[h6,zdt,zct,zin,ga,zos,qbx6,w0,w1,w2,w3,g4]
   rw[qsg];unfold qde
   rw[qbc7];unfold qnr
   rw[q3b]
   cases hb:decide (x.bits<=bits)with
   |false=>simp only[zcf,Bool.false_and];exact h5 (e,q) h
   |true=>
    cases e with
    |false=>simp only[znf,zct,zcf,zta,betQ];exact h5 (true,x) (fun h=>by cases h)
    |true=>
     simp only[znt,zct,zcf,zta,betQ,zos]
     exact h5 (true,q) (fun h=>by cases h)
theorem q7i (F:List Pq)(hF:F.length<=1000000000)(bits:Int):qhc (F.map Pq.av) bits=some (outQ (qnm (fun a b=>decide (a>b)) bits none F)):=by
 rw[qvw];unfold qec
 rw[qsz]
 have hlen:(F.map Pq.av).length=F.length:=List.length_map _
 have key:=qb0 (σ:=Bool×Pq) F (by omega) (fun n i s=>qcn bits (F.map Pq.av) ((F.map Pq.av).length:Int) false 0 0 0 (fun v b0 b1 b2 b3=>some ((.agg [(.bool b0),(.int .u64 b1),(.int .u64 b2),(.int .i64 b3)]),v)) n s.1 i s.2.v s.2.hi s.2.lo s.2.bits)
  (fun i s nx=>qcm bits s.1 (F.map Pq.av) ((F.map Pq.av).length:Int) i false 0 0 0 s.2.v s.2.hi s.2.lo s.2.bits (fun e i v hi lo b=>nx i (e,⟨v,hi,lo,b⟩)) (fun v b0 b1 b2 b3=>some ((.agg [(.bool b0),(.int .u64 b1),(.int .u64 b2),(.int .i64 b3)]),v))) (fun _ _ _=>rfl)
  (fun _ s=>s.1=false->s.2=pq0) (fun r s=>some (outQ (qnm (fun a b=>decide (a>b)) bits (bif s.1 then some s.2 else none) r))) ?_ ?_ (false,pq0) FU (fun _=>rfl) (qca (by omega))
 · exact key
 · rintro⟨e,q⟩ nx h
   rw[<-hlen]
   unfold qcm
   simp only[Int.lt_irrefl,zdf,zcf]
   cases e with
   |false=>rw[show q=pq0 from h rfl];rfl
   |true=>rfl
 · rintro i x r ⟨e,q⟩ nx g1 g2 g3 g4 h h5
   have ga:(F.map Pq.av)[i]?=some x.av:=by rw[List.getElem?_map,g2];rfl
   have h6:(i:Int)<((F.map Pq.av).length:Int):=by omega
   obtain⟨w0,w1,w2,w3⟩:=av_w x
   unfold qcm
   simp only[h6,zdt,zct,zin,ga,zos,qbx6,w0,w1,w2,w3,g4]
   rw[qse];unfold qdd
   rw[qbc6];unfold qnq
   rw[q3b]
   cases hb:decide (x.bits<=bits)with
   |false=>simp only[zcf,Bool.false_and];exact h5 (e,q) h
   |true=>
    cases e with
    |false=>simp only[znf,zct,zcf,zta,betQ];exact h5 (true,x) (fun h=>by cases h)
    |true=>
     simp only[znt,zct,zcf,zta,betQ,zos]
     by_cases hc:x.bits>q.bits
     · simp only[hc,zdt,zct];exact h5 (true,x) (fun h=>by cases h)
     · simp only[hc,zdf,zcf];exact h5 (true,q) (fun h=>by cases h)
theorem q7j (F:List Pq)(hF:F.length<=1000000000)(bits:Int):qhb (F.map Pq.av) bits=some (outQ (qnm (fun a b=>decide (a<b)) bits none F)):=by
 rw[qvv];unfold qeb
 rw[qsx]
 have hlen:(F.map Pq.av).length=F.length:=List.length_map _
 have key:=qb0 (σ:=Bool×Pq) F (by omega) (fun n i s=>qcl bits (F.map Pq.av) ((F.map Pq.av).length:Int) false 0 0 0 (fun v b0 b1 b2 b3=>some ((.agg [(.bool b0),(.int .u64 b1),(.int .u64 b2),(.int .i64 b3)]),v)) n s.1 i s.2.v s.2.hi s.2.lo s.2.bits)
  (fun i s nx=>qck bits s.1 (F.map Pq.av) ((F.map Pq.av).length:Int) i false 0 0 0 s.2.v s.2.hi s.2.lo s.2.bits (fun e i v hi lo b=>nx i (e,⟨v,hi,lo,b⟩)) (fun v b0 b1 b2 b3=>some ((.agg [(.bool b0),(.int .u64 b1),(.int .u64 b2),(.int .i64 b3)]),v))) (fun _ _ _=>rfl)
  (fun _ s=>s.1=false->s.2=pq0) (fun r s=>some (outQ (qnm (fun a b=>decide (a<b)) bits (bif s.1 then some s.2 else none) r))) ?_ ?_ (false,pq0) FU (fun _=>rfl) (qca (by omega))
 · exact key
 · rintro⟨e,q⟩ nx h
   rw[<-hlen]
   unfold qck
   simp only[Int.lt_irrefl,zdf,zcf]
   cases e with
   |false=>rw[show q=pq0 from h rfl];rfl
   |true=>rfl
 · rintro i x r ⟨e,q⟩ nx g1 g2 g3 g4 h h5
   have ga:(F.map Pq.av)[i]?=some x.av:=by rw[List.getElem?_map,g2];rfl
   have h6:(i:Int)<((F.map Pq.av).length:Int):=by omega
   obtain⟨w0,w1,w2,w3⟩:=av_w x
   unfold qck
   simp only[h6,zdt,zct,zin,ga,zos,qbx6,w0,w1,w2,w3,g4]
   rw[qsc];unfold qdc
   rw[qbc5];unfold qnp
   rw[q3b]
   cases hb:decide (x.bits<=bits)with
   |false=>simp only[zcf,Bool.false_and];exact h5 (e,q) h
   |true=>
    cases e with
    |false=>simp only[znf,zct,zcf,zta,betQ];exact h5 (true,x) (fun h=>by cases h)
    |true=>
     simp only[znt,zct,zcf,zta,betQ,zos]
     by_cases hc:x.bits<q.bits
     · simp only[hc,zdt,zct];exact h5 (true,x) (fun h=>by cases h)
     · simp only[hc,zdf,zcf];exact h5 (true,q) (fun h=>by cases h)
def frQ (l:LA)(p:Pq):List Pq:=qhq (qyn l p) (p.np.k+1) p
def qboz (policy:Int)(a b:Int):Bool:=bif policy==1 then false else bif policy==2 then decide (a>b)else decide (a<b)
def qpd (policy bits:Int)(q:Pq):Pq:=bif(policy==3&&decide (q.bits<bits))then q.high else q
def qbc0 (p:Pq)(bits policy:Int):Bool:=decide (bits<p.bits)||((decide (bits>ql p.v)||decide (policy<1))||decide (policy>3))
def qbv4 (l:LA)(p:Pq)(bits policy:Int):AV×Int:=match qnm (qboz policy) bits none (frQ l p)with
 |none=>(qym,22)
 |some q=>(mkP (qpd policy bits q).v (qpd policy bits q).hi (qpd policy bits q).lo bits,0)
def qfj (l:LA)(p:Pq)(bits policy:Int):AV×Int:=match l.find? (atP p.v p.hi p.lo p.bits)with
 |none=>(qym,11)
 |some y=>bif gI y.cells 4 != 1 then(qym,21)else bif qbc0 p bits policy then(qym,1)else qbv4 l p bits policy
theorem q9k {l:LA}(hg:ql1 l)(p:Pq):ql1 (qyn l p):=fun y hy=>hg y (zmf.1 hy).1
theorem qb8z {l:LA}(hg:ql1 l){p:Pq}(hp:p.good){q:Pq}(hq:q∈frQ l p):q.good/\q.np.sub p.np:=by
 obtain⟨a,b,_⟩:=qbfi (q9k hg p) _ p hp q hq
 exact⟨a,b⟩
theorem qb7i {l:LA}(hg:ql1 l)(hn:l.length<=1000){p:Pq}(hp:p.good):(frQ l p).length<=200001:=
 qbx0 (q9k hg p) (Nat.le_trans (List.length_filter_le _ _) hn) (by have:=hp.range.2.2.2;omega) hp
theorem qb7j {s:Pq}(hs:s.good){n:Int}(h1:s.bits<=n)(h2:n<=ql s.v):qxv s.v s.hi s.lo s.bits n=true:=by
 unfold qxv
 rw[hs.1];simp[h1,h2]
theorem qbs1 {q:Pq}(hq:q.good){n:Int}(h1:q.bits<n)(h2:n<=ql q.v):q.half=true:=by
 refine(Pq.half_iff hq).2 ?_
 obtain⟨_,_,a3,_⟩:=hq.range
 omega
theorem qbro {q:Pq}(hq:q.good){policy bits:Int}(h1:q.bits<=bits)(h2:bits<=ql q.v):(qpd policy bits q).good/\(qpd policy bits q).bits<=bits/\(qpd policy bits q).v=q.v:=by
 unfold qpd
 cases hc:(policy==3&&decide (q.bits<bits))with
 |false=>exact⟨hq,h1,rfl⟩
 |true=>
  rw[zat,decide_eq_true_eq]at hc
  exact⟨Pq.high_good hq (qbs1 hq hc.2 h2),by show q.bits+1<=bits;omega,rfl⟩
noncomputable def qb1f (policy bits:Int)(x:AV):Option (AV×Int):=(bif((policy==(3:Int))&&(decide ((gI x.cells 3)<bits)))then(oB (ql4 (gB x.cells 0) (gI x.cells 1) (gI x.cells 2) (gI x.cells 3)) fun r16=>(oB (qe4 (gB r16.2.1.cells 0) (gI r16.2.1.cells 1) (gI r16.2.1.cells 2) (gI r16.2.1.cells 3) bits (0:Int)) fun r17=>(some ((.agg [(.bool (gB r17.1.cells 0)),(.int .u64 (gI r17.1.cells 1)),(.int .u64 (gI r17.1.cells 2)),(.int .i64 (gI r17.1.cells 3))]),(0:Int)))))else(oB (qe4 (gB x.cells 0) (gI x.cells 1) (gI x.cells 2) (gI x.cells 3) bits (0:Int)) fun r18=>(some ((.agg [(.bool (gB r18.1.cells 0)),(.int .u64 (gI r18.1.cells 1)),(.int .u64 (gI r18.1.cells 2)),(.int .i64 (gI r18.1.cells 3))]),(0:Int)))))
theorem qb7k {q:Pq}(hq:q.good){policy bits:Int}(h1:q.bits<=bits)(h2:bits<=ql q.v):qb1f policy bits q.av=some (mkP (qpd policy bits q).v (qpd policy bits q).hi (qpd policy bits q).lo bits,0):=by
 unfold qb1f
 obtain⟨w0,w1,w2,w3⟩:=av_w q
 rw[w0,w1,w2,w3]
 obtain⟨sg,sb,sv⟩:=qbro (policy:=policy) hq h1 h2
 have sp:=qb7j sg sb (by rw[sv];exact h2)
 unfold qpd at*
 by_cases hp3:policy=3
 · by_cases hlt:q.bits<bits
   · have hh:=qbs1 hq hlt h2
     have c:(policy==3&&decide (q.bits<bits))=true:=by simp[hp3,hlt]
     rw[c]at sg sp⊢
     simp only[zct]at sg sp⊢
     rw[qbup _ _ _ _ hq.2.1 hq.2.2]
     have hv:qbcz q.v q.hi q.lo q.bits=(q.low.av,q.high.av,true):=by
      unfold qbcz
      rw[show qqo q.v q.hi q.lo q.bits=true from hh];rfl
     rw[hv]
     simp only[zos]
     obtain⟨z0,z1,z2,z3⟩:=av_w q.high
     rw[z0,z1,z2,z3,qbfd sg.2.1 sg.2.2,sp]
     rfl
   · have c:(policy==3&&decide (q.bits<bits))=false:=by simp[hlt]
     rw[c]at sg sp⊢
     simp only[zcf]at sg sp⊢
     rw[qbfd hq.2.1 hq.2.2,sp];rfl
 · have c:(policy==3&&decide (q.bits<bits))=false:=by simp[hp3]
   rw[c]at sg sp⊢
   simp only[zcf]at sg sp⊢
   rw[qbfd hq.2.1 hq.2.2,sp];rfl
theorem qb5e (l:LA)(hl:qn l)(hg:ql1 l)(hn:l.length<=1000)(p:Pq)(bits policy:Int):q0a l p.v p.hi p.lo p.bits bits policy=some (qfj l p bits policy):=by
 rw[qbh6];unfold qpr qfj
 rw[qbz0 l hl,zos]
 cases hf:l.find? (atP p.v p.hi p.lo p.bits)with
 |none=>rw[qb1e hf];rfl
 |some y=>
  rw[qb1d hl hf]
  obtain⟨hp,_⟩:=qbkh hg hf
  simp only[znt,zcf]
  cases hk:gI y.cells 4 != 1 with
  |true=>rfl
  |false=>
   simp only[zcf]
   have hlen:qz6 p.v p.hi p.lo p.bits=some (ql p.v):=by
    rw[qbhz];unfold qpq ql
    cases p.v<;>rfl
   rw[hlen]
   simp only[zos]
   cases hb:qbc0 p bits policy with
   |true=>
    unfold qbc0 at hb
    by_cases h1:bits<p.bits
    · simp only[h1,zdt,zct];rfl
    · simp only[h1,zdf,zcf,Bool.false_or]at hb⊢
      rw[hb];rfl
   |false=>
    unfold qbc0 at hb
    by_cases h1:bits<p.bits
    · simp[h1]at hb
    · simp only[h1,zdf,zcf,Bool.false_or]at hb⊢
      rw[hb]
      simp only[zcf]
      simp only[Bool.or_eq_false_iff,decide_eq_false_iff_not]at hb
      obtain⟨⟨h2,h3⟩,h4⟩:=hb
      have hF:=qb7i hg hn hp
      have e1:q2y l p.v p.hi p.lo p.bits=some ((frQ l p).map Pq.av):=by
       rw[qb8v l hl hg hn p]
       unfold qb1c
       rw[hf]
       have:(gI y.cells 4==1)=true:=by simpa using hk
       simp only[this,zct];rfl
      rw[e1]
      simp only[zos]
      have fin:∀b:Int->Int->Bool,qboz policy=b->(bif(!(outQ (qnm b bits none (frQ l p))).2)then(some (qym,(22:Int)))else qb1f policy bits (outQ (qnm b bits none (frQ l p))).1)=some (qbv4 l p bits policy):=by
       intro b hb
       unfold qbv4
       rw[hb]
       cases hq:qnm b bits none (frQ l p)with
       |none=>rfl
       |some q=>
        rcases qbki hq with h|⟨h,h'⟩
        · cases h
        · obtain⟨qg,qs⟩:=qb8z hg hp h
          have hv:q.v=p.v:=qs.1
          simp only[outQ,znt,zcf]
          exact qb7k qg h' (by rw[hv];omega)
      have hpol:policy=1\/policy=2\/policy=3:=by omega
      rcases hpol with rfl|rfl|rfl
      · refine Eq.trans ?_ (fin (fun _ _=>false) (by funext a b;rfl))
        rw[q7h _ (by omega)];rfl
      · refine Eq.trans ?_ (fin (fun a b=>decide (a>b)) (by funext a b;rfl))
        rw[q7i _ (by omega)];rfl
      · refine Eq.trans ?_ (fin (fun a b=>decide (a<b)) (by funext a b;rfl))
        rw[q7j _ (by omega)];rfl
structure Chosen (l:LA)(p q:Pq)(bits:Int):Prop where
 good:q.good
 bits:q.bits=bits
 sub:q.np.sub p.np
 pg:p.good
 free:∀d,d∈qyn l p->ovP (pqY d) q=false
theorem q7k {l:LA}(hg:ql1 l)(p:Pq)(bits policy:Int):(∃e,qfj l p bits policy=(qym,e)/\e≠0)\/∃q,qfj l p bits policy=(q.av,0)/\Chosen l p q bits:=by
 unfold qfj
 cases hf:l.find? (atP p.v p.hi p.lo p.bits)with
 |none=>exact .inl ⟨11,rfl,by decide⟩
 |some y=>
  obtain⟨hp,_⟩:=qbkh hg hf
  simp only
  cases hk:gI y.cells 4 != 1 with
  |true=>exact .inl ⟨21,rfl,by decide⟩
  |false=>
   simp only[zcf]
   cases hb:qbc0 p bits policy with
   |true=>exact .inl ⟨1,rfl,by decide⟩
   |false=>
    simp only[zcf]
    unfold qbc0 at hb
    simp only[Bool.or_eq_false_iff,decide_eq_false_iff_not]at hb
    obtain⟨h1,⟨h2,h3⟩,h4⟩:=hb
    unfold qbv4
    cases hq:qnm (qboz policy) bits none (frQ l p)with
    |none=>exact .inl ⟨22,rfl,by decide⟩
    |some q=>
     rcases qbki hq with h|⟨h,h'⟩
     · cases h
     · obtain⟨qg,qs,qf⟩:=qbfi (q9k hg p) _ p hp q h
       have hv:q.v=p.v:=qs.1
       obtain⟨sg,sb,sv⟩:=qbro (policy:=policy) qg h' (by rw[hv];omega)
       have ss:(qpd policy bits q).np.sub q.np:=by
        unfold qpd
        cases hc:(policy==3&&decide (q.bits<bits))with
        |false=>exact Np.sub_refl qg.np_ok
        |true=>
         rw[zat,decide_eq_true_eq]at hc
         exact(qbx4 qg (qbs1 qg hc.2 (by rw[hv];omega))).2.1
       simp only
       generalize qpd policy bits q=s at*
       obtain⟨b1,b2,b3,b4⟩:=sg.range
       have hkk:kOf s.v bits<=s.np.k:=by
        show kOf s.v bits<=kOf s.v s.bits
        unfold kOf;omega
       have gq:(⟨s.v,s.hi,s.lo,bits⟩:Pq).good:=by
        refine⟨(q1b sg.2.1 sg.2.2).2 ⟨(qe2 sg.1).2.2,by show 0<=bits;omega,by show bits<=ql s.v;rw[sv,hv];omega,?_⟩,sg.2⟩
        exact Nat.mod_eq_zero_of_dvd (Nat.dvd_trans (qbkx hkk) (Nat.dvd_of_mod_eq_zero sg.np_ok))
       have gs:(⟨s.v,s.hi,s.lo,bits⟩:Pq).np.sub s.np:=⟨rfl,hkk,by
        have:=sg.np_ok
        unfold Np.ok at this
        show s.np.n-s.np.n%2^s.np.k=s.np.n
        rw[this];rfl⟩
       refine .inr ⟨⟨s.v,s.hi,s.lo,bits⟩,rfl,gq,rfl,Np.sub_trans gs (Np.sub_trans ss qs),hp,fun d hd=> ?_⟩
       cases ho:ovP (pqY d) ⟨s.v,s.hi,s.lo,bits⟩with
       |false=>rfl
       |true=>
        have:=qbke qg gq (q9k hg p d hd) (Np.sub_trans gs ss) ho
        rw[qf d hd]at this;cases this
def qnn (l:LA)(p:Pq)(bits policy:Int)(nm ow:LU):List AV×AV×Int:=
 bif(qfj l p bits policy).2 != 0 then([],qym,(qfj l p bits policy).2)else
 bif(addF l (mkB (gB (qfj l p bits policy).1.cells 0) (gI (qfj l p bits policy).1.cells 1) (gI (qfj l p bits policy).1.cells 2) (gI (qfj l p bits policy).1.cells 3) 2 nm ow 0)).2 != 0 then([],qym,(addF l (mkB (gB (qfj l p bits policy).1.cells 0) (gI (qfj l p bits policy).1.cells 1) (gI (qfj l p bits policy).1.cells 2) (gI (qfj l p bits policy).1.cells 3) 2 nm ow 0)).2)
 else((addF l (mkB (gB (qfj l p bits policy).1.cells 0) (gI (qfj l p bits policy).1.cells 1) (gI (qfj l p bits policy).1.cells 2) (gI (qfj l p bits policy).1.cells 3) 2 nm ow 0)).1,(qfj l p bits policy).1,0)
theorem qbs2 {q:Pq}(hq:q.good){nm ow:LU}(h1:nm.length<=9223372036854775807)(h2:ow.length<=9223372036854775807):qg7 (mkB q.v q.hi q.lo q.bits 2 nm ow 0):=
 ⟨rfl,hq.2.1,hq.2.2,by show nm.length<=_;omega,by show ow.length<=_;omega⟩
theorem qb1g (l:LA)(hl:qn l)(ht:qcz l)(hn:l.length<=1000)(p:Pq)(bits policy:Int)(nm ow:LU)(h1:nm.length<=9223372036854775807)(h2:ow.length<=9223372036854775807):
 qps l p.v p.hi p.lo p.bits bits policy nm ow=some (qnn l p bits policy nm ow):=by
 have hg:=qf4 hl ht
 rw[qbc8];unfold qns qnn
 rw[qb5e l hl hg hn]
 simp only[zos]
 rcases q7k hg p bits policy with⟨e,he,hne⟩|⟨q,hq,hc⟩
 · rw[he]
   have:(e != 0)=true:=by simpa using hne
   simp only[this,zct];rfl
 · rw[hq]
   obtain⟨w0,w1,w2,w3⟩:=av_w q
   simp only[bne_self_eq_false,zcf,w0,w1,w2,w3]
   rw[qb6f l hl (by omega) ht q.v q.hi q.lo q.bits 2 nm ow 0 (qbs2 hc.good h1 h2)]
   simp only[zos]
   cases(addF l (mkB q.v q.hi q.lo q.bits 2 nm ow 0)).2 != 0<;>rfl
theorem qb5f {l:LA}{b:AV}:(addF l b).1=[]\/(addF l b).1=insF b l:=by
 unfold addF
 cases !qm7 b with
 |true=>exact .inl rfl
 |false=>
 cases !mayB b with
 |true=>exact .inl rfl
 |false=>
 cases l.any (atP (gB b.cells 0) (gI b.cells 1) (gI b.cells 2) (gI b.cells 3))with
 |true=>exact .inl rfl
 |false=>
 cases(l.any (qbw b)||occF l (gB b.cells 0) (gI b.cells 1) (gI b.cells 2) (gI b.cells 3))with
 |true=>exact .inl rfl
 |false=>
 cases decide ((l.length:Int)>=512)with
 |true=>exact .inl rfl
 |false=>exact .inr rfl
def labC (c:UInt8):Bool:=(decide (97<=c.toNat)&&decide (c.toNat<=122))||(decide (48<=c.toNat)&&decide (c.toNat<=57))||c.toNat==45||c.toNat==95
def q9l (x:LU):Bool:=x==[42]||(decide (1<=x.length)&&decide (x.length<=63)&&x.all labC)
theorem qb3d (x:LU)(hx:x.length<=9223372036854775807):qyx x=some (q9l x):=by
 rw[qbg4]
 unfold qot
 rw[q70,qfx x hx (qgo x fun _=>some true) (fun i nx=>qgn x i nx fun _=>some true) (fun _ _=>rfl) (fun r=>some (r.all labC))]
 · unfold q9l
   by_cases h1:x=[42]
   · simp[h1]
   · have e1:(x==[42])=false:=by simpa using h1
     rw[e1]
     by_cases h2:x.length<1
     · have:x.length=0:=by omega
       simp[this]
     · by_cases h3:63<x.length
       · have e:¬x.length<=63:=by omega
         have e':(63:Int)<(x.length:Int):=by omega
         simp[e,e']
       · have a1:¬((x.length:Int)<1):=by omega
         have a2:¬((63:Int)<(x.length:Int)):=by omega
         have a3:1<=x.length:=by omega
         have a4:x.length<=63:=by omega
         simp[a1,a2,a3,a4]
 · intro nx;simp[qgn]
 · intro i a r nx h1 h2 h3 h4 h5
   have h6:(i:Int)<(x.length:Int):=by omega
   have key:∀kn:Bool->Option Bool,qrh x i (a.toNat:Int) kn=kn (!labC a):=by
    intro kn
    have co:∀(p a b:Bool),(bif p then kn a else kn b)=kn (bif p then a else b):=by intro p;cases p<;>intros<;>rfl
    rw[q7z]
    unfold qkx labC
    simp only[co]
    have fin:∀n:Fin 256,(bif(decide ((n.val:Int)>=(97:Int)))&&(decide ((n.val:Int)<=(122:Int)))then false else(bif(decide ((n.val:Int)>=(48:Int)))then(!(((decide ((n.val:Int)<=(57:Int)))||((n.val:Int)==(45:Int)))||((n.val:Int)==(95:Int))))else(!(((n.val:Int)==(45:Int))||((n.val:Int)==(95:Int))))))=
     !((decide (97<=n.val)&&decide (n.val<=122))||(decide (48<=n.val)&&decide (n.val<=57))||n.val==45||n.val==95):=by decide+kernel
    exact congrArg kn (fin ⟨a.toNat,a.toNat_lt⟩)
   unfold qgn
   simp only[h6,zdt,zct,zin,h2,zos,key,h4]
   cases h7:labC a
   · simp[h7]
   · simp only[znt,zct,zcf,h5,List.all_cons,h7,zta]
def spl:List UInt8->List UInt8->List (List UInt8)
 |_,[]=>[]
 |cur,c::r=>if c=46 then cur::spl [] r else spl (cur++[c]) r
def qqp (x:LU):Bool:=decide (2<=x.length)&&decide (x.length<=254)&&x.getLast? ==some 46
def qqq:Bool->List (List UInt8)->Bool
 |_,[]=>true
 |f,l::ls=>q9l l&&(f|| !(l==[42]))&&qqq false ls
def qln (x:LU):List (List UInt8)×Bool:=
 if x=[46]then([],true)else if qqp x=true/\qqq true (spl [] x)=true then(spl [] x,true)else([],false)
def qbk (x:LU):Bool:=(qln x).2
def avS (l:List (List UInt8)):List AV:=l.map AV.str
theorem qbs3:∀(r cur:LU),(spl cur r).length<=r.length
 |[],_=>by simp[spl]
 |c::r,cur=>by
  unfold spl;split
  · have:=qbs3 r [];simp;omega
  · have:=qbs3 r (cur++[c]);simp;omega
theorem qb5g (x:LU)(hx:x.length<=254)(kx:List AV->Option (List AV×Bool)):
 qup x kx FU 0 0 []=if qqq true (spl [] x)=true then kx (avS (spl [] x))else some ([],false):=by
 rw[qbbm]
 let S:(Int×Int×List AV)->Option (List AV×Bool):=fun s=>
  if qqq (decide (s.1=0)) (spl ((x.take s.2.1.toNat).drop s.1.toNat) (x.drop s.2.1.toNat))=true then kx (s.2.2++avS (spl ((x.take s.2.1.toNat).drop s.1.toNat) (x.drop s.2.1.toNat)))else some ([],false)
 have key:=qbkv (fun n (s:Int×Int×List AV)=>qif x kx n s.1 s.2.1 s.2.2) (fun s nx=>qie x s.1 s.2.1 s.2.2 (fun a b c=>nx (a,b,c)) kx) (fun _ _=>rfl)
  (fun s=>0<=s.1/\s.1<=s.2.1/\s.2.1<=x.length/\s.2.2.length<=s.2.1) (fun s=>(x.length-s.2.1).toNat) S ?_ FU (0,0,[]) (by simp) (qca (by simp;omega))
 · have e:S (0,0,[])=if qqq true (spl [] x)=true then kx (avS (spl [] x))else some ([],false):=by simp[S]
   rw[<-e];exact key
 · rintro⟨st,i,acc⟩ ⟨h0,h1,h2,h3⟩ nx hn
   simp only at h0 h1 h2 h3
   obtain⟨i,rfl⟩:∃j:Nat,i=j:=⟨i.toNat,by omega⟩
   obtain⟨st,rfl⟩:∃j:Nat,st=j:=⟨st.toNat,by omega⟩
   have hw:i64.wrap ((i:Int)+1)=((i+1:Nat):Int):=w64 (by omega) (by omega)
   simp only[S,ztn]
   by_cases hlt:i<x.length
   · have hd:x.drop i=x[i]::x.drop (i+1):=List.drop_eq_getElem_cons hlt
     have hi:x[i]?=some x[i]:=by simp[hlt]
     have ht:x.take (i+1)=x.take i++[x[i]]:=(List.take_append_getElem hlt).symm
     have hlt':(i:Int)<(x.length:Int):=by omega
     unfold qie
     simp only[hlt',zdt,zct,zin,hi,zos,hw]
     by_cases hc:x[i]=46
     · have hc':(((x[i]).toNat:Int) != 46)=false:=by rw[hc];rfl
       have hcut:cutI x (some (st:Int)) (some (i:Int))=some ((x.take i).drop st):=by
        simp only[cutI,Option.getD_some,ztn]
        rw[if_pos ⟨by omega,by omega,by omega⟩]
       have hsl:((x.take i).drop st).length<=9223372036854775807:=by simp;omega
       simp only[hc',zcf,hcut,zos,zhs,Bool.and_true,zct,qbbl,qmv,qb3d _ hsl]
       have hsz:(acc.length+1)*16<=140737488355328:=by omega
       have hnx:=hn (((i+1:Nat):Int),((i+1:Nat):Int),acc++[.str ((x.take i).drop st)]) ⟨by simp;omega,by simp,by simp;omega,by simp;omega⟩ (by simp;omega)
       simp only[S,ztn]at hnx
       have hz:(x.take (i+1)).drop (i+1)=[]:=by simp
       rw[hz]at hnx
       have hne:decide (((i+1:Nat):Int)=0)=false:=by simp;omega
       rw[hne]at hnx
       rw[hd]
       simp only[spl,hc,if_true,qqq]
       cases hl:q9l ((x.take i).drop st)
       · simp
       · by_cases hstar:(x.take i).drop st=[42]
         · rw[hstar]at hnx⊢
           by_cases h00:st=0
           · have e1:decide ((st:Int)>0)=false:=by simp;omega
             have e2:decide ((st:Int)=0)=true:=by simp;omega
             simp only[e1,e2,znt,zcf,zct,beq_self_eq_true,List.length_singleton,hsz,zdt,Bool.true_or,Bool.and_true,zta]
             rw[hnx]
             simp[avS,List.append_assoc]
           · have e1:decide ((st:Int)>0)=true:=by simp;omega
             have e2:decide ((st:Int)=0)=false:=by simp;omega
             have e3:0<st:=by omega
             simp[e1,e2,e3,h00]
         · have e1:((x.take i).drop st==[42])=false:=by simpa using hstar
           simp only[e1,znt,zcf,zct,znf,Bool.or_true,Bool.and_true,zta,List.length_singleton,hsz,zdt]
           rw[hnx]
           simp[avS,List.append_assoc]
     · have hc':(((x[i]).toNat:Int) != 46)=true:=by
        have:(x[i]).toNat≠46:=fun h=>hc (by rw[<-UInt8.toNat_inj];exact h)
        simp;omega
       simp only[hc',zct]
       have hnx:=hn ((st:Int),((i+1:Nat):Int),acc) ⟨by simp,by simp;omega,by simp;omega,by simp;omega⟩ (by simp;omega)
       simp only[S,ztn]at hnx
       rw[hnx,hd]
       simp only[spl,hc,if_false]
       have e:(x.take (i+1)).drop st=(x.take i).drop st++[x[i]]:=by
        rw[ht,List.drop_append_of_le_length (by simp;omega)]
       rw[e]
   · have:i=x.length:=by omega
     subst this
     unfold qie
     simp[spl,qqq,avS]
theorem q5w (x:LU)(hx:x.length<=9223372036854775807):qhh x=some (avS (qln x).1,(qln x).2):=by
 rw[qbma]
 unfold qri qln
 by_cases h1:x=[46]
 · simp[h1,avS]
 · have e1:(x==[46])=false:=by simpa using h1
   rw[if_neg h1]
   simp only[e1,zcf,qbbj,qmu,zhs,Bool.and_true,zct]
   by_cases h2:2<=x.length/\x.length<=254
   · have a1:¬((x.length:Int)<2):=by omega
     have a2:¬((254:Int)<(x.length:Int)):=by omega
     have hw:i64.wrap ((x.length:Int)-1)=((x.length-1:Nat):Int):=by rw[w64 (by omega) (by omega)];omega
     have hi:x[x.length-1]?=some (x[x.length-1]'(by omega)):=by simp<;>omega
     have hl:x.getLast? =some (x[x.length-1]'(by omega)):=by rw[List.getLast?_eq_getElem?,hi]
     simp only[a1,gt_iff_lt,a2,zdf,Bool.or_false,zcf,hw,zin,hi,zos]
     by_cases h3:x[x.length-1]'(by omega)=46
     · have h3':(((x[x.length-1]'(by omega)).toNat:Int) != 46)=false:=by rw[h3];rfl
       have hok:qqp x=true:=by simp[qqp,h2.1,h2.2,hl,h3]
       simp only[h3',zcf]
       rw[qb5g x h2.2]
       by_cases h4:qqq true (spl [] x)=true
       · simp[hok,h4]
       · simp[hok,h4,avS]
     · have h3':(((x[x.length-1]'(by omega)).toNat:Int) != 46)=true:=by
        have:(x[x.length-1]'(by omega)).toNat≠46:=fun h=>h3 (by rw[<-UInt8.toNat_inj];exact h)
        simp;omega
       have hok:qqp x=false:=by simp[qqp,hl,h3]
       simp only[h3',zct]
       simp[hok,avS]
   · have hok:qqp x=false:=by
      unfold qqp
      by_cases h:2<=x.length
      · have:¬x.length<=254:=fun h'=>h2 ⟨h,h'⟩
        simp[this]
      · simp[h]
     have a:(decide ((x.length:Int)<2)||decide ((x.length:Int)>254))=true:=by
      simp;omega
     simp only[a,zct]
     simp[hok,avS]
theorem qbus (x:LU)(hx:x.length<=9223372036854775807):qv6 x=some (qbk x):=by
 rw[qbmb]
 unfold qrj
 rw[q5w x hx];rfl
def qfk:List UInt8->List UInt8->List (List UInt8)
 |cur,[]=>[cur]
 |cur,c::r=>if c=46 then cur::qfk [] r else qfk (cur++[c]) r
theorem q35:∀(s cur:LU),(qfk cur s).length=s.count 46+1
 |[],cur=>rfl
 |c::r,cur=>by
  unfold qfk
  split
  · rename_i h;subst h;simp[q35 r]
  · rename_i h
    rw[q35 r,List.count_cons_of_ne (fun e=>h e)]
theorem qbrp:∀(s cur:LU),s.count 46=0->qfk cur s=[cur++s]
 |[],cur,_=>by simp[qfk]
 |c::r,cur,h=>by
  unfold qfk
  split
  · rename_i h';subst h';simp at h
  · rename_i h'
    rw[List.count_cons_of_ne (fun e=>h' e)]at h
    rw[qbrp r _ h]
    simp
theorem qbrq:∀(s cur:LU),0<s.count 46->∃pre post,s=pre++46::post/\Lib.indexByte s 46=(pre.length:Int)/\qfk cur s=(cur++pre)::qfk [] post
 |[],cur,h=>by simp at h
 |c::r,cur,h=>by
  by_cases h':c=46
  · subst h'
    exact⟨[],r,rfl,by simp[Lib.indexByte],by simp[qfk]⟩
  · rw[List.count_cons_of_ne (fun e=>h' e)]at h
    obtain⟨pre,post,h1,h2,h3⟩:=qbrq r (cur++[c]) h
    refine⟨c::pre,post,by simp[h1],?_,?_⟩
    · have hb:(c==46)=false:=by simpa using h'
      have hn:¬((Lib.indexByte r 46)= -1):=by omega
      unfold Lib.indexByte
      simp[hb,hn,h2]
    · show(if c=46 then cur::qfk [] r else qfk (cur++[c]) r)=_
      rw[if_neg h',h3]
      simp
theorem qb7l (s:LU):qx5 s [46]=some (Lib.indexByte s 46):=by
 rw[qbnu];unfold qtl
 rw[qbda];unfold qnu
 rw[q59];unfold qjv q5i
 by_cases h:([46]:List UInt8)=s
 · subst h;rfl
 · have hb:(([46]:List UInt8)==s)=false:=by simpa using h
   rw[hb]
   rfl
theorem qb7m (s:LU):q4h s [46]=some ((s.count 46:Nat):Int):=by
 rw[qbnv];unfold qtm q5h Lib.countByte
 rfl
theorem qb7n (pre post:LU):cutI (pre++46::post) none (some ((pre.length:Nat):Int))=some pre:=by
 unfold cutI
 simp only[Option.getD_none,Option.getD_some]
 rw[if_pos ⟨by omega,by omega,by simp;omega⟩]
 simp
theorem qb5h (pre post:LU):cutI (pre++46::post) (some ((pre.length+1:Nat):Int)) none=some post:=by
 unfold cutI
 simp only[Option.getD_none,Option.getD_some]
 rw[if_pos ⟨by omega,by simp;omega,by omega⟩]
 rw[ztn,ztn,List.take_length]
 rw[List.drop_append]
 simp
theorem qbz7 (s:LU)(hs:s.length<=1000000000):qx6 s [46]=some ((qfk [] s).map AV.str):=by
 rw[qbnw];unfold qtn
 rw[qbgh];unfold qoh
 have hc:s.count 46<=s.length:=List.count_le_length
 have w1:i64.wrap (((s.count 46:Nat):Int)+1)=((s.count 46+1:Nat):Int):=w64 (by omega) (by omega)
 have w2:i64.wrap ((s.length:Int)+1)=((s.length+1:Nat):Int):=w64 (by omega) (by omega)
 have hm:(if((s.length+1:Nat):Int)<((s.count 46+1:Nat):Int)then((s.length+1:Nat):Int)else((s.count 46+1:Nat):Int))=((s.count 46+1:Nat):Int):=if_neg (by omega)
 have hd1:decide (0<=((s.count 46+1:Nat):Int)/\((s.count 46+1:Nat):Int)<=((s.count 46+1:Nat):Int)/\((s.count 46+1:Nat):Int)*16<=281474976710656)=true:=decide_eq_true ⟨by omega,by omega,by omega⟩
 have w3:i64.wrap (((s.count 46+1:Nat):Int)-1)=((s.count 46:Nat):Int):=by rw[w64 (by omega) (by omega)];omega
 have b1:(((-1:Int))==0)=false:=rfl
 have b2:(([46]:List UInt8)==([]:List UInt8))=false:=rfl
 have b3:decide ((-1:Int)<0)=true:=rfl
 simp only[b1,b2,zcf,q7s,qkv,b3,zct,qb7m,zos,w1,w2,hm,hd1,zhs,Bool.and_true,w3,ztn]
 generalize hn:s.count 46=n at*
 rw[q7t]
 let kx:List UInt8->Int->List AV->Option (List AV):=fun v0 v10 a0=>(bif decide (0<=v10/\v10<a0.length)then(oB (a0[v10.toNat]?) fun y1=>(oB (putE y1 0 1 [(.str v0)]) fun z2=>(bif hd (a0.set v10.toNat z2) a0.length then(oB (cutI (a0.set v10.toNat z2) none (some (i64.wrap (v10+1)))) fun s3=>(some s3))else none)))else none)
 have key:=qbkv (fun k (q:List UInt8×Int×List AV)=>qd1 [46] 0 (n:Int) kx k q.1 q.2.1 q.2.2)
  (fun q nx=>qgk q.1 [46] 0 (n:Int) q.2.1 q.2.2 (fun a b c=>nx (a,(b,c))) kx) (fun _ _=>rfl)
  (fun q=>∃dn:List (List UInt8),q.2.1=dn.length/\q.2.2=dn.map AV.str++List.replicate (n+1-dn.length) (AV.str [])/\dn.length<=n/\q.1.count 46=n-dn.length/\dn++qfk [] q.1=qfk [] s/\q.1.length<=1000000000)
  (fun q=>n-q.2.1.toNat) (fun q=>some ((qfk [] s).map AV.str)) ?_ FU (s,(0,List.replicate (n+1) (AV.str []))) ⟨[],rfl,by simp,by simp,by simpa using hn,rfl,hs⟩ (qca (by simp;omega))
 · have key':qd1 [46] 0 (n:Int) kx FU s 0 (List.replicate (n+1) (AV.str []))=some ((qfk [] s).map AV.str):=key
   show oB (qd1 [46] 0 (n:Int) kx FU s 0 (List.replicate (n+1) (AV.str []))) _=_
   rw[key']
   rfl
 · rintro⟨v0,v10,a0⟩ ⟨dn,rfl,rfl,h1,h2,h3,h5⟩ nx hnx
   simp only at h1 h2 h3 h5
   show qgk v0 [46] 0 (n:Int) (dn.length:Int) (dn.map AV.str++List.replicate (n+1-dn.length) (AV.str [])) (fun a b c=>nx (a,(b,c))) kx=some ((qfk [] s).map AV.str)
   have hlen:(dn.map AV.str++List.replicate (n+1-dn.length) (AV.str [])).length=n+1:=by simp;omega
   have hget:(dn.map AV.str++List.replicate (n+1-dn.length) (AV.str []))[dn.length]?=some (.str []):=by
    rw[List.getElem?_append_right (by simp)]
    simp only[List.length_map,Nat.sub_self]
    rw[List.getElem?_replicate,if_pos (by omega)]
   have hdec:decide (0<=(dn.length:Int)/\(dn.length:Int)<((dn.map AV.str++List.replicate (n+1-dn.length) (AV.str [])).length:Int))=true:=decide_eq_true ⟨by omega,by rw[hlen];omega⟩
   have hset:∀x,(dn.map AV.str++List.replicate (n+1-dn.length) (AV.str [])).set dn.length (.str x)=(dn++[x]).map AV.str++List.replicate (n+1-(dn.length+1)) (AV.str []):=by
    intro x
    rw[List.set_append_right _ _ (by simp)]
    simp only[List.length_map,Nat.sub_self]
    rw[show n+1-dn.length=(n+1-(dn.length+1))+1 by omega,List.replicate_succ]
    simp
   have hhd:∀x,hd ((dn.map AV.str++List.replicate (n+1-dn.length) (AV.str [])).set dn.length (.str x)) (dn.map AV.str++List.replicate (n+1-dn.length) (AV.str [])).length=true:=fun x=>by simp[hd]
   unfold qgk
   by_cases hlt:dn.length<n
   · have c1:decide ((dn.length:Int)<(n:Int))=true:=decide_eq_true (by omega)
     obtain⟨pre,post,e1,e2,e3⟩:=qbrq v0 [] (by omega)
     subst e1
     have hpl:pre.length+1+post.length=(pre++46::post).length:=by simp;omega
     generalize hv:pre++46::post=v0 at*
     have c2:decide (Lib.indexByte v0 46<0)=false:=decide_eq_false (by omega)
     have w4:i64.wrap (Lib.indexByte v0 46+0)=(pre.length:Int):=by rw[e2,w64 (by omega) (by omega)];omega
     have w5:i64.wrap (Lib.indexByte v0 46+(([46]:List UInt8).length:Int))=((pre.length+1:Nat):Int):=by rw[e2];simp;rw[w64 (by omega) (by omega)]
     have w6:i64.wrap ((dn.length:Int)+1)=((dn.length+1:Nat):Int):=w64 (by omega) (by omega)
     have k1:cutI v0 none (some ((pre.length:Nat):Int))=some pre:=by rw[<-hv];exact qb7n pre post
     have k2:cutI v0 (some ((pre.length+1:Nat):Int)) none=some post:=by rw[<-hv];exact qb5h pre post
     have hp:putE (.str []) 0 1 [AV.str pre]=some (.str pre):=rfl
     simp only[c1,zct,qb7l,zos,c2,zcf,w4,k1,zhs,hdec,ztn,hget,hp,w5,k2,hhd,w6]
     refine hnx _ ⟨dn++[pre],by simp,by rw[hset];simp,by simp;omega,?_,?_,by show post.length<=1000000000;omega⟩ (by simp;omega)
     · have hcp:v0.count 46=(qfk [] v0).length-1:=by rw[q35];simp
       have:(qfk [] post).length=post.count 46+1:=q35 post []
       rw[e3]at hcp
       simp at hcp
       simp
       omega
     · rw[<-h3,e3]
       simp
   · have hdn:dn.length=n:=by omega
     have c1:decide ((dn.length:Int)<(n:Int))=false:=decide_eq_false (by omega)
     have hp:putE (.str []) 0 1 [AV.str v0]=some (.str v0):=rfl
     have w6:i64.wrap ((dn.length:Int)+1)=((n+1:Nat):Int):=by rw[w64 (by omega) (by omega)];omega
     have k3:cutI ((dn++[v0]).map AV.str++List.replicate (n+1-(dn.length+1)) (AV.str [])) none (some ((n+1:Nat):Int))=some ((dn++[v0]).map AV.str):=by
      have hz:n+1-(dn.length+1)=0:=by omega
      rw[hz]
      simp only[List.replicate_zero,List.append_nil]
      have hL:((dn++[v0]).map AV.str).length=n+1:=by simp;omega
      generalize (dn++[v0]).map AV.str=L at hL⊢
      unfold cutI
      simp only[Option.getD_none,Option.getD_some]
      rw[if_pos ⟨by omega,by omega,by omega⟩,ztn,<-hL,List.take_length]
      rfl
     simp only[c1,zcf]
     show kx v0 (dn.length:Int) _=_
     simp only[kx,zct,hdec,ztn,hget,zos,hp,hhd,w6]
     rw[hset,k3]
     simp only[zos]
     rw[<-h3,qbrp v0 [] (by omega)]
     simp
def ordB (x:LU):Bool:=decide (1<=x.length)&&decide (x.length<=63)&&x.all labC
theorem qb1h (x:LU)(hx:x.length<=9223372036854775807):q1y x=some (ordB x):=by
 rw[qblt];unfold qq5
 rw[qba6,qfx x hx (qh9 x (x.length:Int) fun _=>some true) (fun i nx=>qh8 x (x.length:Int) i nx fun _=>some true) (fun _ _=>rfl) (fun r=>some (r.all labC))]
 · unfold ordB
   by_cases h1:x=[]
   · subst h1;rfl
   · have e1:(x==[])=false:=by simpa using h1
     have h2:1<=x.length:=by
      cases x with
      |nil=>exact absurd rfl h1
      |cons a r=>simp
     by_cases h3:x.length<=63
     · have:¬(x.length:Int)>63:=by omega
       simp only[e1,this,h2,h3,zdt,zdf,Bool.or_self,zcf,zta]
     · have:(x.length:Int)>63:=by omega
       simp[e1,this,h3]
 · intro nx;simp[qh8]
 · intro i a r nx h1 h2 h3 h4 h5
   have h6:(i:Int)<(x.length:Int):=by omega
   have key:∀kn:Bool->Option Bool,quj x (a.toNat:Int) (x.length:Int) i kn=kn (!labC a):=by
    intro kn
    have co:∀(p a b:Bool),(bif p then kn a else kn b)=kn (bif p then a else b):=by intro p;cases p<;>intros<;>rfl
    rw[qba5]
    unfold qmp labC
    simp only[co]
    have fin:∀n:Fin 256,(bif((decide ((n.val:Int)<(97:Int)))||(decide ((n.val:Int)>(122:Int))))then(bif(decide ((n.val:Int)<(48:Int)))then(((n.val:Int) != (45:Int))&&((n.val:Int) != (95:Int)))else(((decide ((n.val:Int)>(57:Int)))&&((n.val:Int) != (45:Int)))&&((n.val:Int) != (95:Int))))else false)=
     !((decide (97<=n.val)&&decide (n.val<=122))||(decide (48<=n.val)&&decide (n.val<=57))||n.val==45||n.val==95):=by decide+kernel
    exact congrArg kn (fin ⟨a.toNat,a.toNat_lt⟩)
   unfold qh8
   simp only[h6,zdt,zct,zin,h2,zos,key,h4]
   cases h7:labC a
   · simp[h7]
   · simp only[znt,zct,zcf,h5,List.all_cons,h7,zta]
def sufB (x y:LU):Bool:=decide (y.length<=x.length)&&x.drop (x.length-y.length)==y
theorem qbna (x y:LU)(hx:x.length<=9223372036854775807):qpt x y=some (sufB x y):=by
 rw[qbc9];unfold qnt
 rw[q58];unfold qju sufB
 by_cases h:y.length<=x.length
 · have h1:(x.length:Int)>=(y.length:Int):=by omega
   have w:i64.wrap ((x.length:Int)-(y.length:Int))=((x.length-y.length:Nat):Int):=by rw[w64 (by omega) (by omega)];omega
   have hc:cutI x (some ((x.length-y.length:Nat):Int)) none=some (x.drop (x.length-y.length)):=by
    unfold cutI
    simp only[Option.getD_none,Option.getD_some]
    rw[if_pos ⟨by omega,by omega,by omega⟩,ztn,ztn,List.take_length]
   simp only[h1,zdt,zct,w,hc,zos,h,zta]
 · have h1:¬(x.length:Int)>=(y.length:Int):=by omega
   simp[h1,h]
def q9m:Bool->List (List UInt8)->Bool
 |_,[]=>true
 |f,l::ls=>(ordB l||(f&&l==[42]))&&q9m false ls
def valB (x:LU):Bool:=x==[46]||(decide (x.length<255)&&sufB x [46]&&q9m true (qfk [] (x.take (x.length-1))))
theorem qbo0:∀(s cur:LU),∀l,l∈qfk cur s->l.length<=cur.length+s.length
 |[],cur,l,h=>by simp[qfk]at h;subst h;simp
 |c::r,cur,l,h=>by
  unfold qfk at h
  split at h
  · rcases List.mem_cons.1 h with rfl|h
    · simp<;>omega
    · have:=qbo0 r [] l h;simp at this⊢;omega
  · have:=qbo0 r _ l h;simp at this⊢;omega
theorem qb80 (ps:List (List UInt8))(hps:ps.length<=9223372036854775807)(hl:∀l,l∈ps->l.length<=9223372036854775807):
 q0d (ps.map AV.str) ((ps.map AV.str).length:Int) (fun _=>some true) FU 0=some (q9m true ps):=by
 have hlen:(ps.map AV.str).length=ps.length:=by simp
 rw[qbic,hlen]
 have key:=qb0 (σ:=Unit) ps hps (fun n i _=>qmg (ps.map AV.str) (ps.length:Int) (fun _=>some true) n i) (fun i _ nx=>qmf (ps.map AV.str) (ps.length:Int) i (fun j=>nx j ()) (fun _=>some true)) (fun _ _ _=>rfl)
  (fun _ _=>True) (fun r _=>some (q9m (decide (r.length=ps.length)) r)) ?_ ?_ () FU trivial (qca (by omega))
 · simpa using key
 · intro s nx _
   simp[qmf,q9m]
 · intro i l r s nx h1 h2 h3 h4 _ h5
   have h6:(i:Int)<(ps.length:Int):=by omega
   have hg:(ps.map AV.str)[i]?=some (.str l):=by simp[h2]
   have hr:r.length=ps.length-(i+1):=by
    have:=congrArg List.length h1
    simp at this
    omega
   unfold qmf
   simp only[h6,zdt,zct,zin,hg,zos]
   rw[show fitC [.s] (AV.str l).cells=true from rfl,show gS (AV.str l).cells 0=l from rfl]
   simp only[zct,qbib,qpv,qb1h l (hl l (zmg h2)),zos,h4,h5 () trivial,q9m]
   have e1:decide (r.length=ps.length)=false:=decide_eq_false (by omega)
   have e2:decide ((l::r).length=ps.length)=decide (i=0):=decide_eq_decide.2 (by simp;omega)
   rw[e1,e2]
   by_cases hi:i=0
   · subst hi
     cases ordB l<;>cases(l==[42])<;>rfl
   · have a1:decide ((i:Int)>0)=true:=decide_eq_true (by omega)
     have a2:decide (i=0)=false:=decide_eq_false hi
     rw[a1,a2]
     cases ordB l<;>rfl
theorem qb5i (x:LU)(hx:x.length<=9223372036854775807):qgl x=some (valB x):=by
 rw[qbr6];unfold qx7 valB
 by_cases h1:x=[46]
 · subst h1;rfl
 · have e1:(x==[46])=false:=by simpa using h1
   rw[e1]
   simp only[zcf,qbh9,qpu,qbna x _ hx,zos,Bool.false_or]
   by_cases h2:x.length<255
   · have e2:¬(x.length:Int)>=255:=by omega
     simp only[e2,zdf,zcf,h2,zdt,zta]
     cases h3:sufB x [46]with
     |false=>rfl
     |true=>
      have h4:1<=x.length:=by
       simp[sufB]at h3
       exact h3.1
      have w:i64.wrap ((x.length:Int)-1)=((x.length-1:Nat):Int):=by rw[w64 (by omega) (by omega)];omega
      have hc:cutI x none (some ((x.length-1:Nat):Int))=some (x.take (x.length-1)):=by
       unfold cutI
       simp only[Option.getD_none,Option.getD_some]
       rw[if_pos ⟨by omega,by omega,by omega⟩,ztn]
       rfl
      have hpl:=q35 (x.take (x.length-1)) []
      have hcl:(x.take (x.length-1)).count 46<=(x.take (x.length-1)).length:=List.count_le_length
      have htl:(x.take (x.length-1)).length<=254:=by simp;omega
      simp only[znt,zcf,w,hc,zos,qbz7 _ (by omega:(x.take (x.length-1)).length<=1000000000)]
      rw[qb80 _ (by omega) (fun l hl=>by have:=qbo0 _ _ l hl;simp only[List.length_nil]at this;omega)]
      simp
   · have e2:(x.length:Int)>=255:=by omega
     simp[e2,h2]
theorem q9n:∀(y cur:LU),spl cur (y++[46])=qfk cur y
 |[],cur=>by simp[spl,qfk]
 |c::r,cur=>by
  simp only[List.cons_append,spl,qfk]
  split
  · rw[q9n r]
  · rw[q9n r]
theorem qbz8:∀(ls:List (List UInt8)) (f:Bool),q9m f ls=qqq f ls
 |[],f=>rfl
 |l::ls,f=>by
  unfold q9m qqq
  rw[qbz8 ls false]
  by_cases h:l=[42]
  · subst h
    rw[show ordB [42]=false from by decide,show q9l [42]=true from by decide]
    cases f<;>rfl
  · have e:(l==[42])=false:=by simpa using h
    rw[e]
    rw[show q9l l=ordB l by simp[q9l,ordB,e]]
    cases ordB l<;>cases f<;>rfl
theorem qb81 (x:LU):valB x=qbk x:=by
 unfold valB qbk qln
 by_cases h1:x=[46]
 · subst h1;rfl
 · have e1:(x==[46])=false:=by simpa using h1
   rw[e1,if_neg h1,Bool.false_or]
   rcases List.eq_nil_or_concat x with rfl|⟨y,c,rfl⟩
   · rfl
   · rw[List.concat_eq_append]at*
     have hl:(y++[c]).length-1=y.length:=by simp
     have hs:sufB (y++[c]) [46]=(c==46):=by
      unfold sufB
      have:(y++[c]).length-([46]:List UInt8).length=y.length:=by simp
      rw[this]
      simp
     have he:qqp (y++[c])=(decide (1<=y.length)&&decide ((y++[c]).length<255)&&(c==46)):=by
      unfold qqp
      have a1:decide (2<=(y++[c]).length)=decide (1<=y.length):=decide_eq_decide.2 (by simp)
      have a2:decide ((y++[c]).length<=254)=decide ((y++[c]).length<255):=decide_eq_decide.2 (by omega)
      rw[a1,a2]
      simp
     rw[hl,hs,he,List.take_left]
     by_cases hc:c=46
     · subst hc
       rw[q9n,qbz8]
       have hy:1<=y.length:=by
        cases y with
        |nil=>exact absurd rfl h1
        |cons a r=>simp
       rw[decide_eq_true hy]
       cases decide ((y++[46]).length<255)<;>cases qqq true (qfk [] y)<;>simp
     · have hb:(c==46)=false:=by simpa using hc
       rw[hb]
       simp
theorem qqu (x:LU)(hx:x.length<=9223372036854775807):qgl x=some (qbk x):=by rw[qb5i x hx,qb81]
def qsm (x y:LU):Bool:=qbk x&&(qbk y&&(y==[46]||x==y||sufB x (46::y)))
theorem qbrr {x:LU}(h:qbk x=true):x.length<=254:=by
 unfold qbk qln at h
 split at h
 · rename_i h1;subst h1;simp
 · split at h
   · rename_i h2
     have:=h2.1
     simp[qqp]at this
     omega
   · cases h
theorem qb7o (x y:LU)(hx:x.length<=9223372036854775807)(hy:y.length<=9223372036854775807):q9w x y=some (qsm x y):=by
 rw[qbr8];unfold qya qsm
 simp only[qqu x hx,qqu y hy,zos]
 cases h1:qbk x with
 |false=>rfl
 |true=>
  cases h2:qbk y with
  |false=>rfl
  |true=>
   have hl:=qbrr h2
   simp only[zct,zta]
   rw[qbvg];unfold q0f
   have hd:decide (([46]:List UInt8).length+y.length<=9223372036854775807)=true:=decide_eq_true (by simp;omega)
   cases h3:(y==[46]||x==y)with
   |true=>rfl
   |false=>
    simp only[zcf,hd,zct,qbna x _ hx,zos,Bool.false_or]
    rfl
def qp (x:LU):List (List UInt8):=(qln x).1
theorem qbo1 (x:LU)(hx:x.length<=9223372036854775807):quk x=some (avS (qp x)):=by
 rw[qbpo];unfold qvy
 simp only[qbig,qpx,qqu x hx,zos]
 by_cases h1:x=[46]
 · subst h1;rfl
 · have e1:(x==[46])=false:=by simpa using h1
   rw[e1]
   simp only[zcf]
   cases h2:qbk x with
   |false=>
    unfold qp
    unfold qbk qln at h2
    unfold qln
    rw[if_neg h1]at h2⊢
    split at h2
    · cases h2
    · rename_i h3
      rw[if_neg h3]
      rfl
   |true=>
    have hl:=qbrr h2
    have h5:=h2
    unfold qbk qln at h5
    rw[if_neg h1]at h5
    split at h5
    · rename_i h3
      have hend:=h3.1
      simp only[qqp,zat,decide_eq_true_eq,beq_iff_eq]at hend
      have h4:1<=x.length:=by omega
      have w:i64.wrap ((x.length:Int)-1)=((x.length-1:Nat):Int):=by rw[w64 (by omega) (by omega)];omega
      have hc:cutI x none (some ((x.length-1:Nat):Int))=some (x.take (x.length-1)):=by
       unfold cutI
       simp only[Option.getD_none,Option.getD_some]
       rw[if_pos ⟨by omega,by omega,by omega⟩,ztn]
       rfl
      have htl:(x.take (x.length-1)).length<=254:=by simp;omega
      simp only[znt,zcf,w,hc,zos,qbz7 _ (by omega:(x.take (x.length-1)).length<=1000000000)]
      unfold qp qln
      rw[if_neg h1,if_pos h3]
      rcases List.eq_nil_or_concat x with rfl|⟨y,c,rfl⟩
      · simp at h4
      · rw[List.concat_eq_append]at*
        have hc46:c=46:=by have:=hend.2;simpa using this
        subst hc46
        have hlen:(y++[46]).length-1=y.length:=by simp
        rw[hlen,List.take_left,q9n]
        rfl
    · cases h5
theorem qwk {α R:Type}(l:List α)(hl:l.length<=9223372036854775807)(L:Nat->Int->Option R)(B:Int->(Int->Option R)->Option R)(hL:∀n i,L (n+1) i=B i (L n))
 (S:Nat->List α->Option R) (h0:∀nx,B (l.length:Int) nx=S l.length [])
 (hs:∀(i:Nat) (a:α) (r:List α) nx,l.drop i=a::r->l[i]?=some a->i<l.length->i64.wrap ((i:Int)+1)=((i+1:Nat):Int)->nx ((i+1:Nat):Int)=S (i+1) r->B (i:Int) nx=S i (a::r)):
 L FU 0=S 0 l:=by
 have:=qfx l hl L B hL (fun r=>S (l.length-r.length) r) (fun nx=>by simpa using h0 nx) (fun i a r nx h1 h2 h3 h4 h5=>by
  have hr:r.length=l.length-(i+1):=by
   have:=congrArg List.length h1
   simp at this;omega
  have e1:l.length-r.length=i+1:=by omega
  have e2:l.length-(a::r).length=i:=by simp;omega
  simp only[e1]at h5
  simp only[e2]
  exact hs i a r nx h1 h2 h3 h4 h5)
 simpa using this
theorem q36 {l:LT}{ls:List LT}{cs:LA}(h:fitC (l::ls) cs=true):∃x r,cs=x::r/\fitL l x=true/\fitC ls r=true:=by
 cases cs with
 |nil=>simp[fitC]at h
 |cons x r=>
  simp only[fitC]at h
  cases hl:fitL l x
  · rw[hl]at h;cases h
  · rw[hl]at h;exact⟨x,r,rfl,hl,h⟩
theorem qb5j {cs:LA}(h:fitC [] cs=true):cs=[]:=by
 cases cs with
 |nil=>rfl
 |cons x r=>simp[fitC]at h
theorem qbs4:∀(q cur y:LU),spl cur (q++46::y)=spl cur (q++[46])++spl [] y
 |[],cur,y=>by simp[spl]
 |c::r,cur,y=>by
  simp only[List.cons_append,spl]
  split
  · simp[qbs4 r [] y]
  · exact qbs4 r _ y
theorem qr6:∀(x cur:LU),x.getLast? =some 46->(spl cur x).flatMap (· ++[46])=cur++x
 |[],cur,h=>by simp at h
 |[c],cur,h=>by
  have:c=46:=by simpa using h
  subst this
  simp[spl]
 |c::d::r,cur,h=>by
  have h':(d::r).getLast? =some 46:=by simpa using h
  unfold spl
  split
  · rename_i hc
    subst hc
    simp[qr6 (d::r) [] h']
  · rw[qr6 (d::r) _ h']
    simp
theorem qqr {x:LU}(h:qbk x=true):x=[46]/\qp x=[]\/x≠[46]/\2<=x.length/\x.getLast? =some 46/\qqq true (spl [] x)=true/\qp x=spl [] x:=by
 unfold qbk at h
 unfold qp
 unfold qln at h⊢
 by_cases h1:x=[46]
 · left;exact⟨h1,by rw[if_pos h1]⟩
 · right
   rw[if_neg h1]at h⊢
   split at h
   · rename_i h2
     rw[if_pos h2]
     have h3:=h2.1
     simp only[qqp,zat,decide_eq_true_eq,beq_iff_eq]at h3
     exact⟨h1,h3.1.1,h3.2,h2.2,rfl⟩
   · cases h
theorem qb5k {x y:LU}:sufB x y=true↔y<:+x:=by
 unfold sufB
 rw[zat,decide_eq_true_eq,beq_iff_eq,List.suffix_iff_eq_drop]
 constructor
 · rintro⟨_,h⟩;exact h.symm
 · intro h
   refine⟨?_,h.symm⟩
   have:=congrArg List.length h
   simp at this;omega
theorem qb3e {x y:LU}(hx:qbk x=true)(hy:qbk y=true):qp y<:+qp x↔(y==[46]||x==y||sufB x (46::y))=true:=by
 simp only[Bool.or_eq_true,beq_iff_eq,qb5k]
 rcases qqr hy with⟨rfl,e⟩|⟨y1,y2,y3,y4,y5⟩
 · simp[e]
 · have jy:=qr6 y [] y3
   rw[List.nil_append]at jy
   rcases qqr hx with⟨rfl,e⟩|⟨x1,x2,x3,x4,x5⟩
   · rw[e,y5]
     constructor
     · intro h
       have:spl [] y=[]:=List.suffix_nil.1 h
       rw[this]at jy
       simp at jy
       subst jy
       simp at y2
     · rintro((h|h)|h)
       · exact absurd h y1
       · exact absurd h.symm y1
       · have:=h.length_le
         rw[List.length_cons,List.length_singleton]at this
         omega
   · have jx:=qr6 x [] x3
     rw[List.nil_append]at jx
     rw[x5,y5]
     constructor
     · rintro⟨p,hp⟩
       rw[<-hp,List.flatMap_append,jy]at jx
       rcases List.eq_nil_or_concat p with rfl|⟨q,l,rfl⟩
       · left;right;simpa using jx.symm
       · right
         rw[List.concat_eq_append]at jx
         refine⟨q.flatMap (· ++[46])++l,?_⟩
         rw[<-jx];simp
     · rintro((h|h)|⟨q,h⟩)
       · exact absurd h y1
       · subst h;exact List.suffix_refl _
       · rw[<-h,qbs4]
         exact⟨_,rfl⟩
def comm:List (List UInt8)->List (List UInt8)->Nat
 |a::r,b::s=>if a=b then comm r s+1 else 0
 |_,_=>0
theorem qbx7:∀(a b:List (List UInt8)),comm a b=b.length↔b<+:a
 |[],[]=>by simp[comm]
 |[],_::_=>by simp[comm]
 |_::_,[]=>by simp[comm]
 |a::r,b::s=>by
  unfold comm
  by_cases h:a=b
  · subst h
    rw[if_pos rfl,List.cons_prefix_cons]
    simp[qbx7 r s]
  · rw[if_neg h,List.cons_prefix_cons]
    simp
    exact fun e=>absurd e.symm h
theorem q2s (l:List (List UInt8))(i:Nat)(h:i<l.length):(avS l)[l.length-1-i]?=some (.str (l.reverse[i]'(by simpa using h))):=by
 unfold avS
 rw[List.getElem?_map,List.getElem_reverse,List.getElem?_eq_getElem (by omega)]
 rfl
theorem qbx8 (xs ys:List (List UInt8))(hx:xs.length<=1000000000)(hy:ys.length<=1000000000):qsi (avS xs) (avS ys)=some ((comm xs.reverse ys.reverse:Nat):Int):=by
 rw[qbod];unfold qt0
 rw[qbg8]
 have lx:(avS xs).length=xs.length:=by simp[avS]
 have ly:(avS ys).length=ys.length:=by simp[avS]
 have key:=qbkv (fun n (i:Int)=>qhi (avS xs) (avS ys) (fun v5=>some v5) n i) (fun i nx=>qox (avS xs) (avS ys) i nx (fun v5=>some v5)) (fun _ _=>rfl)
  (fun i=>0<=i/\i<=xs.length) (fun i=>(xs.length-i).toNat) (fun i=>some (i+((comm (xs.reverse.drop i.toNat) (ys.reverse.drop i.toNat):Nat):Int))) ?_ FU 0 (by simp) (qca (by simp;omega))
 · rw[show qhi (avS xs) (avS ys) (fun v5=>some v5) FU 0=_ from key]
   simp
 · rintro i ⟨h0,h1⟩ nx hn
   obtain⟨i,rfl⟩:∃j:Nat,i=j:=⟨i.toNat,by omega⟩
   unfold qox
   rw[qbg7];unfold qow
   simp only[lx,ly,ztn]
   have hw:i64.wrap ((i:Int)+1)=((i+1:Nat):Int):=w64 (by omega) (by omega)
   by_cases hi:i<xs.length
   · have hdx:xs.reverse.drop i=xs.reverse[i]'(by simpa using hi)::xs.reverse.drop (i+1):=List.drop_eq_getElem_cons (by simpa using hi)
     by_cases hj:i<ys.length
     · have hdy:ys.reverse.drop i=ys.reverse[i]'(by simpa using hj)::ys.reverse.drop (i+1):=List.drop_eq_getElem_cons (by simpa using hj)
       have w1:i64.wrap (i64.wrap ((xs.length:Int)-1)-(i:Int))=((xs.length-1-i:Nat):Int):=by
        rw[w64 (i:=(xs.length:Int)-1) (by omega) (by omega),w64 (by omega) (by omega)];omega
       have w2:i64.wrap (i64.wrap ((ys.length:Int)-1)-(i:Int))=((ys.length-1-i:Nat):Int):=by
        rw[w64 (i:=(ys.length:Int)-1) (by omega) (by omega),w64 (by omega) (by omega)];omega
       have d1:decide ((i:Int)<(xs.length:Int))=true:=decide_eq_true (by omega)
       have d2:decide ((i:Int)<(ys.length:Int))=true:=decide_eq_true (by omega)
       simp only[d1,d2,zct,w1,w2,zin,q2s _ _ hi,q2s _ _ hj,zos,hw]
       have f:∀s:List UInt8,fitC [.s] (AV.str s).cells=true:=fun _=>rfl
       have g:∀s:List UInt8,gS (AV.str s).cells 0=s:=fun _=>rfl
       simp only[f,zct,g]
       have hnx:=hn ((i+1:Nat):Int) ⟨by omega,by omega⟩ (by omega)
       simp only[ztn]at hnx
       rw[hdx,hdy]
       unfold comm
       by_cases he:xs.reverse[i]'(by simpa using hi)=ys.reverse[i]'(by simpa using hj)
       · have hb:(xs.reverse[i]'(by simpa using hi)==ys.reverse[i]'(by simpa using hj))=true:=beq_iff_eq.2 he
         rw[hb,zct,hnx,if_pos he]
         congr 1;omega
       · have hb:(xs.reverse[i]'(by simpa using hi)==ys.reverse[i]'(by simpa using hj))=false:=by simpa using he
         rw[hb,zcf,if_neg he]
         simp
     · have d1:decide ((i:Int)<(xs.length:Int))=true:=decide_eq_true (by omega)
       have d2:decide ((i:Int)<(ys.length:Int))=false:=decide_eq_false (by omega)
       have e:ys.reverse.drop i=[]:=List.drop_eq_nil_of_le (by simp;omega)
       rw[e,hdx]
       simp only[d1,d2,zct,zcf]
       simp[comm]
   · have d1:decide ((i:Int)<(xs.length:Int))=false:=decide_eq_false (by omega)
     have e:xs.reverse.drop i=[]:=List.drop_eq_nil_of_le (by simp;omega)
     rw[e]
     simp only[d1,zcf]
     simp[comm]
theorem qwl {x:LU}:(qp x).length<=254:=by
 unfold qp qln
 split
 · simp
 · split
   · rename_i h
     have h3:=h.1
     simp only[qqp,zat,decide_eq_true_eq,beq_iff_eq]at h3
     have:=qbs3 x []
     simp;omega
   · simp
theorem qb3f (x:LU)(hx:x.length<=9223372036854775807):q0p x=some (avS (qp x)):=by
 rw[qbiz];unfold qp1
 rw[q5w x hx];rfl
theorem qb5l (x y:LU)(hx:x.length<=9223372036854775807)(hy:y.length<=9223372036854775807):q14 x y=some (qsm x y):=by
 rw[qbmg];unfold qrm qsm
 rw[q5w x hx,q5w y hy]
 simp only[zos]
 show(bif qbk x&&qbk y then oB (qsi (avS (qp x)) (avS (qp y))) _ else _)=_
 cases h1:qbk x
 · rfl
 cases h2:qbk y
 · rfl
 have l1:=qwl (x:=x)
 have l2:=qwl (x:=y)
 rw[qbx8 _ _ (by omega) (by omega)]
 simp only[zas,zct,zos,zta]
 have ly:(avS (qln y).1).length=(qp y).length:=by simp[avS,qp]
 rw[ly]
 congr 1
 rw[Bool.eq_iff_iff,beq_iff_eq,<-qb3e h1 h2,<-List.reverse_prefix,<-qbx7,List.length_reverse]
 omega
theorem qb3g {x:LU}(h:qbk x=true):((qp x).head? =some [42])↔x.head? =some 42:=by
 rcases qqr h with⟨rfl,e⟩|⟨y1,y2,y3,y4,y5⟩
 · simp[e]
 · rw[y5]
   have jy:=qr6 x [] y3
   rw[List.nil_append]at jy
   cases hs:spl [] x with
   |nil=>rw[hs]at jy;simp at jy;subst jy;simp at y2
   |cons l ls=>
    rw[hs]at jy y4
    simp only[qqq,zat]at y4
    have hl:=y4.1.1
    simp only[List.head?_cons,zsi]
    constructor
    · intro e;subst e;rw[<-jy];simp
    · intro e
      unfold q9l at hl
      simp only[Bool.or_eq_true,beq_iff_eq,zat,decide_eq_true_eq]at hl
      rcases hl with hl|⟨⟨hl1,_⟩,hl2⟩
      · exact hl
      · cases l with
        |nil=>simp at hl1
        |cons c r=>
         rw[<-jy]at e
         have:c=42:=by simpa using e
         subst this
         simp[labC]at hl2
def cmpS (a b:LU):Int:=Lib.compareBytes a b
theorem q9o:∀a b,cmpS a b= -1\/cmpS a b=0\/cmpS a b=1
 |[],[]=>by simp[cmpS,Lib.compareBytes]
 |[],_::_=>by simp[cmpS,Lib.compareBytes]
 |_::_,[]=>by simp[cmpS,Lib.compareBytes]
 |a::as_,b::bs=>by
  have ih:=q9o as_ bs
  show(if a<b then(-1:Int)else if b<a then 1 else cmpS as_ bs)= -1\/_\/_
  have e:cmpS (a::as_) (b::bs)=if a<b then(-1:Int)else if b<a then 1 else cmpS as_ bs:=rfl
  rw[e]
  split
  · simp
  · split
    · simp
    · exact ih
theorem q2t (a b:UInt8):a<b\/a=b\/b<a:=by
 rcases Nat.lt_trichotomy a.toNat b.toNat with h|h|h
 · exact .inl h
 · exact .inr (.inl (UInt8.toNat_inj.1 h))
 · exact .inr (.inr h)
theorem qgj {a b:UInt8}(h:a<b):¬b<a:=fun h2=>by
 have h1:a.toNat<b.toNat:=h
 have h2:b.toNat<a.toNat:=h2
 omega
theorem qb5m {a b c:UInt8}(h:a<b)(h2:b<c):a<c:=Nat.lt_trans (show a.toNat<b.toNat from h) h2
theorem q37 (a b:UInt8)(r s:LU):cmpS (a::r) (b::s)=if a<b then-1 else if b<a then 1 else cmpS r s:=rfl
theorem qnc:∀{a b},cmpS a b=0↔a=b
 |[],[]=>by simp[cmpS,Lib.compareBytes]
 |[],_::_=>by simp[cmpS,Lib.compareBytes]
 |_::_,[]=>by simp[cmpS,Lib.compareBytes]
 |a::r,b::s=>by
  rw[q37]
  rcases q2t a b with h|rfl|h
  · rw[if_pos h]
    simp only[List.cons.injEq]
    exact⟨fun h=>by omega,fun e=>by rw[e.1]at h;exact absurd h (qgj h)⟩
  · rw[if_neg (fun h=>qgj h h),if_neg (fun h=>qgj h h),qnc]
    simp
  · rw[if_neg (qgj h),if_pos h]
    simp only[List.cons.injEq]
    exact⟨fun h=>by omega,fun e=>by rw[e.1]at h;exact absurd h (qgj h)⟩
theorem qbkj:∀a b,cmpS b a= -cmpS a b
 |[],[]=>by simp[cmpS,Lib.compareBytes]
 |[],_::_=>by simp[cmpS,Lib.compareBytes]
 |_::_,[]=>by simp[cmpS,Lib.compareBytes]
 |a::r,b::s=>by
  rw[q37,q37]
  rcases q2t a b with h|rfl|h
  · simp[h,qgj h]
  · simp[fun h=>qgj (a:=a) (b:=a) h h,qbkj r s]
  · simp[h,qgj h]
theorem qbfj:∀{a b c},cmpS a b<0->cmpS b c<0->cmpS a c<0
 |[],[],_,h,_=>by simp[cmpS,Lib.compareBytes]at h
 |[],_::_,[],_,h=>by simp[cmpS,Lib.compareBytes]at h
 |[],_::_,_::_,_,_=>by simp[cmpS,Lib.compareBytes]
 |_::_,[],_,h,_=>by simp[cmpS,Lib.compareBytes]at h
 |_::_,_::_,[],_,h=>by simp[cmpS,Lib.compareBytes]at h
 |a::r,b::s,c::t,h1,h2=>by
  rw[q37]at h1 h2⊢
  rcases q2t a b with h|rfl|h
  · rcases q2t b c with k|rfl|k
    · rw[if_pos (qb5m h k)];omega
    · rw[if_pos h];omega
    · rw[if_neg (qgj k),if_pos k]at h2;omega
  · rw[if_neg (fun h=>qgj h h),if_neg (fun h=>qgj h h)]at h1
    rcases q2t a c with k|rfl|k
    · rw[if_pos k];omega
    · rw[if_neg (fun h=>qgj h h),if_neg (fun h=>qgj h h)]at h2⊢
      exact qbfj h1 h2
    · rw[if_neg (qgj k),if_pos k]at h2;omega
  · rw[if_neg (qgj h),if_pos h]at h1;omega
theorem qbut:∀a b,Op.bytesLess a b=decide (cmpS a b<0)
 |[],[]=>by simp[Op.bytesLess,cmpS,Lib.compareBytes]
 |[],_::_=>by simp[Op.bytesLess,cmpS,Lib.compareBytes]
 |_::_,[]=>by simp[Op.bytesLess,cmpS,Lib.compareBytes]
 |a::r,b::s=>by
  rw[q37]
  unfold Op.bytesLess
  rw[qbut r s]
  rcases q2t a b with h|rfl|h
  · simp[h]
  · simp[fun h=>qgj (a:=a) (b:=a) h h]
  · have hne:a≠b:=fun e=>by rw[e]at h;exact qgj h h
    simp[h,qgj h,hne]
theorem qbrs (a b:LU):qtp a b=some (cmpS a b):=by
 rw[qbie]
 unfold qpw
 rw[q6c]
 rfl
theorem qb82 (a b:LU):qye a b=some (cmpS a b):=by
 rw[qboc]
 unfold qtz
 rw[qbut]
 rcases q9o a b with h|h|h
 · simp[h]
 · have e:=qnc.1 h
   subst e
   simp[h]
 · have e:(a==b)=false:=by
    have:a≠b:=fun e=>by rw[qnc.2 e]at h;omega
    simpa using this
   simp[h,e]
def cmpZ:List (List UInt8)->List (List UInt8)->Option Int
 |a::r,b::s=>if cmpS a b=0 then cmpZ r s else some (cmpS a b)
 |_,_=>none
def cmpR (x y:List (List UInt8)):Int:=(cmpZ x y).getD (if x.length<y.length then-1 else if x.length>y.length then 1 else 0)
def cmpN (x y:LU):Int:=
 if qbk x=true/\qbk y=false then-1 else if qbk y=true/\qbk x=false then 1 else if qbk x=false then cmpS x y else cmpR (qp x).reverse (qp y).reverse
theorem q38 (a b:LU)(r s:List (List UInt8)):cmpR (a::r) (b::s)=if cmpS a b=0 then cmpR r s else cmpS a b:=by
 unfold cmpR
 simp only[cmpZ]
 split
 · simp
 · rfl
theorem qbuu:∀{x y},cmpR x y=0↔x=y
 |[],[]=>by simp[cmpR,cmpZ]
 |[],_::_=>by simp[cmpR,cmpZ]
 |_::_,[]=>by simp[cmpR,cmpZ]
 |a::r,b::s=>by
  rw[q38]
  split
  · rename_i h
    rw[qbuu,qnc.1 h];simp
  · rename_i h
    simp only[List.cons.injEq]
    exact⟨fun e=>absurd e h,fun e=>absurd (qnc.2 e.1) h⟩
theorem qbuv:∀x y,cmpR y x= -cmpR x y
 |[],[]=>by simp[cmpR,cmpZ]
 |[],_::_=>by simp[cmpR,cmpZ]
 |_::_,[]=>by simp[cmpR,cmpZ]
 |a::r,b::s=>by
  rw[q38,q38,qbkj a b,qbuv r s]
  split<;>split<;>omega
theorem qbrt:∀{x y z},cmpR x y<0->cmpR y z<0->cmpR x z<0
 |[],[],_,h,_=>by simp[cmpR,cmpZ]at h
 |[],_::_,[],_,h=>by simp[cmpR,cmpZ]at h
 |[],_::_,_::_,_,_=>by simp[cmpR,cmpZ]
 |_::_,[],_,h,_=>by simp[cmpR,cmpZ]at h
 |_::_,_::_,[],_,h=>by simp[cmpR,cmpZ]at h
 |a::r,b::s,c::t,h1,h2=>by
  rw[q38]at h1 h2⊢
  by_cases e1:cmpS a b=0
  · have:=qnc.1 e1
    subst this
    rw[if_pos e1]at h1
    by_cases e2:cmpS a c=0
    · rw[if_pos e2]at h2⊢
      exact qbrt h1 h2
    · rw[if_neg e2]at h2⊢;exact h2
  · rw[if_neg e1]at h1
    by_cases e2:cmpS b c=0
    · have:=qnc.1 e2
      subst this
      rw[if_neg e1];exact h1
    · rw[if_neg e2]at h2
      have:=qbfj h1 h2
      rw[if_neg (by omega)];exact this
theorem qbuw:∀x y,cmpR x y= -1\/cmpR x y=0\/cmpR x y=1
 |[],[]=>by simp[cmpR,cmpZ]
 |[],_::_=>by simp[cmpR,cmpZ]
 |_::_,[]=>by simp[cmpR,cmpZ]
 |a::r,b::s=>by
  rw[q38]
  split
  · exact qbuw r s
  · exact q9o a b
theorem qb1i {x y:LU}(hx:qbk x=true)(hy:qbk y=true)(h:qp x=qp y):x=y:=by
 rcases qqr hx with⟨a1,a2⟩|⟨a1,a2,a3,a4,a5⟩<;>rcases qqr hy with⟨b1,b2⟩|⟨b1,b2,b3,b4,b5⟩
 · rw[a1,b1]
 · exfalso
   have h2:=qr6 y [] b3
   rw[<-b5,<-h,a2]at h2
   simp at h2
   subst h2
   simp at b2
 · exfalso
   have h2:=qr6 x [] a3
   rw[<-a5,h,b2]at h2
   simp at h2
   subst h2
   simp at a2
 · have h1:=qr6 x [] a3
   have h2:=qr6 y [] b3
   rw[<-a5,h,b5]at h1
   simp only[List.nil_append]at h1 h2
   exact h1.symm.trans h2
theorem qbux {x y:LU}:cmpN x y=0↔x=y:=by
 unfold cmpN
 cases hx:qbk x<;>cases hy:qbk y
 · simp[qnc]
 · simp only[Bool.true_eq_false,and_self,Bool.false_eq_true,false_and,if_false,if_true]
   exact⟨fun h=>by omega,fun e=>by rw[e,hy]at hx;cases hx⟩
 · simp only[and_self,if_true]
   exact⟨fun h=>by omega,fun e=>by rw[e,hy]at hx;cases hx⟩
 · simp only[Bool.true_eq_false,and_false,if_false,qbuu]
   exact⟨fun h=>qb1i hx hy (by simpa using congrArg List.reverse h),fun e=>by rw[e]⟩
theorem qb3h (x y:LU):cmpN y x= -cmpN x y:=by
 unfold cmpN
 cases hx:qbk x<;>cases hy:qbk y<;>simp
 · exact qbkj x y
 · exact qbuv _ _
theorem qb1j {x y z:LU}(h1:cmpN x y<0)(h2:cmpN y z<0):cmpN x z<0:=by
 unfold cmpN at*
 cases hx:qbk x<;>cases hy:qbk y<;>cases hz:qbk z<;>simp[hx,hy,hz]at h1 h2⊢
 · exact qbfj h1 h2
 · exact qbrt h1 h2
theorem qb3i (x y:LU):cmpN x y= -1\/cmpN x y=0\/cmpN x y=1:=by
 unfold cmpN
 split
 · simp
 · split
   · simp
   · split
     · exact q9o x y
     · exact qbuw _ _
theorem qbuy (xs ys:List (List UInt8))(hx:xs.length<=1000000000)(hy:ys.length<=1000000000)(kx:Unit->Option Int):∀(n j:Nat),j<=xs.length->j<=ys.length->xs.length-j<n->
 qgg (avS xs) (avS ys) kx n ((j+1:Nat):Int)=match cmpZ (xs.reverse.drop j) (ys.reverse.drop j)with
  |some c=>some c
  |none=>kx ()
 |0,j,_,_,h=>by omega
 |n+1,j,h1,h2,h3=>by
  unfold qgg qs3
  have hlx:(avS xs).length=xs.length:=by simp[avS]
  have hly:(avS ys).length=ys.length:=by simp[avS]
  rw[hlx,hly]
  by_cases hc:j<xs.length/\j<ys.length
  · have e1:(decide (((j+1:Nat):Int)<=(xs.length:Int))&&decide (((j+1:Nat):Int)<=(ys.length:Int)))=true:=by simp;omega
    rw[e1,zct,w64 (by omega) (by omega),qbrb (j:=xs.length-1-j) (by omega),q2s xs j hc.1,zos]
    rw[show fitC [.s] (AV.str (xs.reverse[j]'(by simpa using hc.1))).cells=true from rfl,zct,w64 (by omega) (by omega),qbrb (j:=ys.length-1-j) (by omega),q2s ys j hc.2,zos]
    rw[show fitC [.s] (AV.str (ys.reverse[j]'(by simpa using hc.2))).cells=true from rfl,zct]
    rw[show gS (AV.str (xs.reverse[j]'(by simpa using hc.1))).cells 0=xs.reverse[j]'(by simpa using hc.1)from rfl,show gS (AV.str (ys.reverse[j]'(by simpa using hc.2))).cells 0=ys.reverse[j]'(by simpa using hc.2)from rfl,qbrs,zos]
    rw[List.drop_eq_getElem_cons (l:=xs.reverse) (i:=j) (by simpa using hc.1),List.drop_eq_getElem_cons (l:=ys.reverse) (i:=j) (by simpa using hc.2)]
    simp only[cmpZ]
    by_cases h0:cmpS (xs.reverse[j]'(by simpa using hc.1)) (ys.reverse[j]'(by simpa using hc.2))=0
    · rw[if_pos h0,h0]
      simp only[bne_self_eq_false,zcf]
      have ih:=qbuy xs ys hx hy kx n (j+1) (by omega) (by omega) (by omega)
      rw[w64 (by omega) (by omega)]
      rw[show((j+1:Nat):Int)+1=((j+1+1:Nat):Int) by omega]
      exact ih
    · rw[if_neg h0]
      have:(cmpS (xs.reverse[j]'(by simpa using hc.1)) (ys.reverse[j]'(by simpa using hc.2)) != 0)=true:=by simpa using h0
      rw[this,zct]
  · have e1:(decide (((j+1:Nat):Int)<=(xs.length:Int))&&decide (((j+1:Nat):Int)<=(ys.length:Int)))=false:=by
     rw[Bool.and_eq_false_iff];simp;omega
    rw[e1,zcf]
    have:cmpZ (xs.reverse.drop j) (ys.reverse.drop j)=none:=by
     rcases Classical.not_and_iff_not_or_not.1 hc with h|h
     · rw[List.drop_eq_nil_of_le (by simp;omega)];simp[cmpZ]
     · have e:ys.reverse.drop j=[]:=List.drop_eq_nil_of_le (by simp;omega)
       rw[e]
       cases xs.reverse.drop j<;>simp[cmpZ]
    rw[this]
theorem lenC (a b:Nat):(bif decide ((a:Int)<(b:Int))then some (-1:Int)else bif decide ((a:Int)>(b:Int))then some 1 else some 0)=some (if a<b then-1 else if a>b then 1 else 0):=by
 rcases Nat.lt_trichotomy a b with h|h|h
 · have:(a:Int)<b:=by omega
   simp[h,this]
 · subst h;simp
 · have h1:¬(a:Int)<b:=by omega
   have h2:(b:Int)<a:=by omega
   have h3:¬a<b:=by omega
   simp[h1,h2,h3,h]
theorem qbfk (x y:LU)(hx:x.length<=9223372036854775807)(hy:y.length<=9223372036854775807):qsh x y=some (cmpN x y):=by
 rw[qbnz]
 unfold qtq cmpN
 rw[qqu x hx,zos,qqu y hy,zos,qbo1 x hx,zos,qbo1 y hy,zos,qbdd]
 have hlx:=qwl (x:=x)
 have hly:=qwl (x:=y)
 have hL:=qbuy (qp x) (qp y) (by omega) (by omega) (fun _=>(bif(decide (((avS (qp x)).length:Int)<((avS (qp y)).length:Int)))then(some (-1:Int))else(bif(decide (((avS (qp x)).length:Int)>((avS (qp y)).length:Int)))then(some (1:Int))else(some (0:Int))))) FU 0 (by omega) (by omega) (qca (by omega))
 rw[show((0+1:Nat):Int)=1 from rfl]at hL
 rw[hL]
 cases qbk x<;>cases qbk y<;>simp only[znt,znf,Bool.and_true,Bool.and_false,zas,zct,zcf,qbrs,zos,and_self,if_true,Bool.true_eq_false,Bool.false_eq_true,and_false,false_and,if_false]
 simp only[List.drop_zero]
 unfold cmpR
 cases cmpZ (qp x).reverse (qp y).reverse with
 |some c=>rfl
 |none=>
  simp only[avS,List.length_map,Option.getD_none,List.length_reverse]
  exact lenC _ _
theorem qbuz:∀(a b:List (List UInt8)),cmpZ a b=if h:comm a b<a.length/\comm a b<b.length then some (cmpS (a[comm a b]'h.1) (b[comm a b]'h.2))else none
 |[],b=>by simp[cmpZ,comm]
 |a::r,[]=>by simp[cmpZ,comm]
 |a::r,b::s=>by
  unfold cmpZ comm
  by_cases e:a=b
  · subst e
    rw[if_pos (qnc.2 rfl),qbuz r s]
    simp only[if_true]
    by_cases h:comm r s<r.length/\comm r s<s.length
    · rw[dif_pos h,dif_pos (by simp;omega)]
      simp
    · rw[dif_neg h,dif_neg (by simp;omega)]
  · rw[if_neg (fun h=>e (qnc.1 h))]
    simp[e]
theorem qb3j (x:LU):(qln x).2=qbk x:=rfl
theorem qbru (x y:LU)(hx:x.length<=9223372036854775807)(hy:y.length<=9223372036854775807):qrk x y=some (cmpN x y):=by
 rw[qbg9]
 unfold qoy cmpN
 rw[q5w x hx,zos,q5w y hy,zos]
 simp only[qb3j,qb82,zos]
 have hlx:=qwl (x:=x)
 have hly:=qwl (x:=y)
 rw[show(qln x).1=qp x from rfl,show(qln y).1=qp y from rfl,qbx8 _ _ (by omega) (by omega),zos]
 cases qbk x<;>cases qbk y<;>simp only[znt,znf,Bool.or_true,Bool.or_false,Bool.or_self,zct,zcf,and_self,if_true,Bool.true_eq_false,Bool.false_eq_true,and_false,false_and,if_false]
 have hax:(avS (qp x)).length=(qp x).length:=by simp[avS]
 have hay:(avS (qp y)).length=(qp y).length:=by simp[avS]
 rw[hax,hay]
 unfold cmpR
 rw[qbuz]
 by_cases h:comm (qp x).reverse (qp y).reverse<(qp x).length/\comm (qp x).reverse (qp y).reverse<(qp y).length
 · have e1:(decide (((comm (qp x).reverse (qp y).reverse:Nat):Int)<((qp x).length:Int))&&decide (((comm (qp x).reverse (qp y).reverse:Nat):Int)<((qp y).length:Int)))=true:=by simp;omega
   rw[e1,zct,dif_pos (by simpa using h)]
   rw[w64 (i:=((qp x).length:Int)-1) (by omega) (by omega),w64 (by omega) (by omega),qbrb (j:=(qp x).length-1-comm (qp x).reverse (qp y).reverse) (by omega),q2s _ _ h.1,zos]
   rw[show fitC [.s] (AV.str ((qp x).reverse[comm (qp x).reverse (qp y).reverse]'(by simpa using h.1))).cells=true from rfl,zct]
   rw[w64 (i:=((qp y).length:Int)-1) (by omega) (by omega),w64 (by omega) (by omega),qbrb (j:=(qp y).length-1-comm (qp x).reverse (qp y).reverse) (by omega),q2s _ _ h.2,zos]
   rw[show fitC [.s] (AV.str ((qp y).reverse[comm (qp x).reverse (qp y).reverse]'(by simpa using h.2))).cells=true from rfl,zct]
   rfl
 · have e1:(decide (((comm (qp x).reverse (qp y).reverse:Nat):Int)<((qp x).length:Int))&&decide (((comm (qp x).reverse (qp y).reverse:Nat):Int)<((qp y).length:Int)))=false:=by
    rw[Bool.and_eq_false_iff];simp;omega
   rw[e1,zcf,dif_neg (by simpa using h)]
   simp only[Option.getD_none,List.length_reverse]
   exact lenC _ _
theorem qb83 (v:Bool)(hi lo:Int)(w:Bool)(whi wlo:Int):cmpA v hi lo w whi wlo=cmpP v hi lo 0 w whi wlo 0:=by
 unfold cmpP
 cases h:(cmpA v hi lo w whi wlo != 0)
 · simp at h;simp[h]
 · simp
theorem qb1k (v:Bool)(hi lo:Int)(w:Bool)(whi wlo:Int):(cmpA v hi lo w whi wlo<0/\ltP v hi lo 0 w whi wlo 0)\/(cmpA v hi lo w whi wlo=0/\v=w/\hi=whi/\lo=wlo)\/(cmpA v hi lo w whi wlo>0/\ltP w whi wlo 0 v hi lo 0):=by
 rw[qb83]
 rcases q5j v hi lo 0 w whi wlo 0 with h|⟨h1,h2,h3,h4,_⟩|h
 · exact .inl h
 · exact .inr (.inl ⟨h1,h2,h3,h4⟩)
 · exact .inr (.inr h)
def qxw (y:AV):Prop:=fitC qc y.cells=true/\uok (gI y.cells 2)/\uok (gI y.cells 3)/\(gS y.cells 0).length<=9223372036854775807
def qct (l:LA):Prop:=l.length<=9223372036854775807/\∀y,y∈l->qxw y
def mkH (n:LU)(v:Bool)(hi lo t:Int):AV:=.agg [(.str n),(.bool v),(.int .u64 hi),(.int .u64 lo),(.int .i64 t)]
theorem qb9z {cs:LA}(h:fitC qc cs=true):cs=(mkH (gS cs 0) (gB cs 1) (gI cs 2) (gI cs 3) (gI cs 4)).cells:=by
 unfold qc at h
 obtain⟨x0,r,rfl,h0,h⟩:=q36 h
 obtain⟨x1,r,rfl,h1,h⟩:=q36 h
 obtain⟨x2,r,rfl,h2,h⟩:=q36 h
 obtain⟨x3,r,rfl,h3,h⟩:=q36 h
 obtain⟨x4,r,rfl,h4,h⟩:=q36 h
 have:=qb5j h
 subst this
 cases x0<;>simp[fitL]at h0
 cases x1<;>simp[fitL]at h1
 cases x2<;>simp[fitL]at h2
 cases x3<;>simp[fitL]at h3
 cases x4<;>simp[fitL]at h4
 subst h2 h3 h4
 rfl
theorem ql7 {y:AV}(h:fitC qc y.cells=true):mkH (gS y.cells 0) (gB y.cells 1) (gI y.cells 2) (gI y.cells 3) (gI y.cells 4)=y:=by
 have h5:=qb9z h
 cases y with
 |agg cs=>exact congrArg AV.agg h5.symm
 |_=>
  exfalso
  have:=congrArg List.length h5
  simp[AV.cells,mkH]at this
def qe3 (n:LU)(v:Bool)(hi lo:Int)(m:LU)(w:Bool)(whi wlo:Int):Int:=bif(cmpA v hi lo w whi wlo != 0)then cmpA v hi lo w whi wlo else cmpN n m
def cmpH (y z:AV):Int:=qe3 (gS y.cells 0) (gB y.cells 1) (gI y.cells 2) (gI y.cells 3) (gS z.cells 0) (gB z.cells 1) (gI z.cells 2) (gI z.cells 3)
def ltHr (n:LU)(v:Bool)(hi lo:Int)(m:LU)(w:Bool)(whi wlo:Int):Prop:=ltP v hi lo 0 w whi wlo 0\/(v=w/\hi=whi/\lo=wlo/\cmpN n m<0)
def ltH (y z:AV):Prop:=ltHr (gS y.cells 0) (gB y.cells 1) (gI y.cells 2) (gI y.cells 3) (gS z.cells 0) (gB z.cells 1) (gI z.cells 2) (gI z.cells 3)
theorem q5l (n:LU)(v:Bool)(hi lo:Int)(m:LU)(w:Bool)(whi wlo:Int):
 (qe3 n v hi lo m w whi wlo<0/\ltHr n v hi lo m w whi wlo)\/(qe3 n v hi lo m w whi wlo=0/\n=m/\v=w/\hi=whi/\lo=wlo)\/(qe3 n v hi lo m w whi wlo>0/\ltHr m w whi wlo n v hi lo):=by
 unfold qe3
 rcases qb1k v hi lo w whi wlo with⟨h1,h2⟩|⟨h1,rfl,rfl,rfl⟩|⟨h1,h2⟩
 · have:(cmpA v hi lo w whi wlo != 0)=true:=by simp;omega
   rw[this,zct]
   exact .inl ⟨h1,.inl h2⟩
 · rw[h1,show((0:Int) != 0)=false from rfl,zcf]
   have hs:=qb3h n m
   rcases qb3i n m with h|h|h
   · exact .inl ⟨by omega,.inr ⟨rfl,rfl,rfl,by omega⟩⟩
   · exact .inr (.inl ⟨h,qbux.1 h,rfl,rfl,rfl⟩)
   · exact .inr (.inr ⟨by omega,.inr ⟨rfl,rfl,rfl,by omega⟩⟩)
 · have:(cmpA v hi lo w whi wlo != 0)=true:=by simp;omega
   rw[this,zct]
   exact .inr (.inr ⟨h1,.inl h2⟩)
theorem qnd {n:LU}{v:Bool}{hi lo:Int}:¬ltHr n v hi lo n v hi lo:=fun h=>by
 rcases h with h|⟨_,_,_,h⟩
 · exact qff h
 · rw[qbux.2 rfl]at h;omega
theorem qzv {x y z:AV}(h1:ltH x y)(h2:ltH y z):ltH x z:=by
 unfold ltH at*
 rcases h1 with h1|⟨a1,a2,a3,a4⟩
 · rcases h2 with h2|⟨b1,b2,b3,b4⟩
   · exact .inl (qzu h1 h2)
   · left;rw[<-b1,<-b2,<-b3];exact h1
 · rcases h2 with h2|⟨b1,b2,b3,b4⟩
   · left;rw[a1,a2,a3];exact h2
   · exact .inr ⟨a1.trans b1,a2.trans b2,a3.trans b3,qb1j a4 b4⟩
theorem qbfl {y:AV}:¬ltH y y:=qnd
theorem q39 {y z:AV}:ltH y z↔cmpH y z<0:=by
 unfold ltH cmpH
 rcases q5l (gS y.cells 0) (gB y.cells 1) (gI y.cells 2) (gI y.cells 3) (gS z.cells 0) (gB z.cells 1) (gI z.cells 2) (gI z.cells 3)with⟨h1,h2⟩|⟨h1,h2,h3,h4,h5⟩|⟨h1,h2⟩
 · exact⟨fun _=>h1,fun _=>h2⟩
 · refine⟨fun h=> ?_,fun h=>by omega⟩
   rw[h2,h3,h4,h5]at h
   exact absurd h qnd
 · refine⟨fun h=> ?_,fun h=>by omega⟩
   exact absurd (qzv (x:=y) (y:=z) (z:=y) h h2) qbfl
def samH (y z:AV):Bool:=gS y.cells 0==gS z.cells 0&&((gB y.cells 1==gB z.cells 1)&&((gI y.cells 2==gI z.cells 2)&&((gI y.cells 3==gI z.cells 3)&&true)))
def atH (n:LU)(v:Bool)(hi lo:Int)(y:AV):Bool:=gS y.cells 0==n&&((gB y.cells 1==v)&&((gI y.cells 2==hi)&&((gI y.cells 3==lo)&&true)))
theorem q2u {n:LU}{v:Bool}{hi lo:Int}{y:AV}:atH n v hi lo y=true↔gS y.cells 0=n/\gB y.cells 1=v/\gI y.cells 2=hi/\gI y.cells 3=lo:=by
 unfold atH;simp[and_assoc]
theorem qwm {n:LU}{v:Bool}{hi lo:Int}{y:AV}:atH n v hi lo y=true↔qe3 (gS y.cells 0) (gB y.cells 1) (gI y.cells 2) (gI y.cells 3) n v hi lo=0:=by
 rw[q2u]
 rcases q5l (gS y.cells 0) (gB y.cells 1) (gI y.cells 2) (gI y.cells 3) n v hi lo with⟨h1,h2⟩|⟨h1,h2,h3,h4,h5⟩|⟨h1,h2⟩
 · refine⟨fun h=> ?_,fun h=>by omega⟩
   rw[h.1,h.2.1,h.2.2.1,h.2.2.2]at h2
   exact absurd h2 qnd
 · exact⟨fun _=>h1,fun _=>⟨h2,h3,h4,h5⟩⟩
 · refine⟨fun h=> ?_,fun h=>by omega⟩
   rw[h.1,h.2.1,h.2.2.1,h.2.2.2]at h2
   exact absurd h2 qnd
theorem q5m (n:LU)(v:Bool)(hi lo:Int)(m:LU)(w:Bool)(whi wlo:Int):(qe3 n v hi lo m w whi wlo<0↔qe3 m w whi wlo n v hi lo>0)/\(qe3 n v hi lo m w whi wlo=0↔qe3 m w whi wlo n v hi lo=0):=by
 have tr:∀{n v hi lo m w whi wlo},ltHr n v hi lo m w whi wlo->ltHr m w whi wlo n v hi lo->False:=fun {n v hi lo m w whi wlo} h1 h2=>
  qbfl (qzv (x:=mkH n v hi lo 0) (y:=mkH m w whi wlo 0) (z:=mkH n v hi lo 0) h1 h2)
 rcases q5l n v hi lo m w whi wlo with⟨h1,h2⟩|⟨h1,e1,e2,e3,e4⟩|⟨h1,h2⟩<;>rcases q5l m w whi wlo n v hi lo with⟨k1,k2⟩|⟨k1,k3,k4,k5,k6⟩|⟨k1,k2⟩
 · exact(tr h2 k2).elim
 · subst k3 k4 k5 k6;exact absurd h2 qnd
 · exact⟨by omega,by omega⟩
 · subst e1 e2 e3 e4;exact absurd k2 qnd
 · exact⟨by omega,by omega⟩
 · subst e1 e2 e3 e4;exact absurd k2 qnd
 · exact⟨by omega,by omega⟩
 · subst k3 k4 k5 k6;exact absurd h2 qnd
 · exact(tr h2 k2).elim
section
variable (n:LU)(v:Bool)(hi lo t:Int)(m:LU)(w:Bool)(whi wlo s:Int)(hn:n.length<=9223372036854775807)(hm:m.length<=9223372036854775807)
include hn hm
theorem qb5n:q4j n v hi lo t m w whi wlo s=some (qe3 n v hi lo m w whi wlo):=by
 rw[qbn0];unfold qtr qe3
 rw[qbsx,zos,qbfk n m hn hm,zos]
 cases(cmpA v hi lo w whi wlo != 0)<;>rfl
theorem qbx9:qul n v hi lo t m w whi wlo s=some (qe3 n v hi lo m w whi wlo):=by
 rw[qbpq];unfold qvz qe3
 rw[qbsx,zos,qbfk n m hn hm,zos]
 cases(cmpA v hi lo w whi wlo != 0)<;>rfl
theorem qb5o:q0r n v hi lo t m w whi wlo s=some (decide (qe3 n v hi lo m w whi wlo<0)):=by
 rw[qbi3];unfold qp2 qe3
 rw[qbzz,zos,qbru n m hn hm]
 by_cases h:cmpA v hi lo w whi wlo<0
 · have:(cmpA v hi lo w whi wlo != 0)=true:=by simp;omega
   simp[h,this]
 · by_cases h2:cmpA v hi lo w whi wlo=0
   · simp[h2]
   · have:(cmpA v hi lo w whi wlo != 0)=true:=by simpa using h2
     have h3:(cmpA v hi lo w whi wlo==0)=false:=by simpa using h2
     simp[h,h3,this]
end
def q5n (x:LU):Bool:=x.head? ==some 42
def qsn (x:LU):Bool:= !qbk x||q5n x
theorem qb90 {x:LU}(h:qbk x=true):∃c r,x=c::r:=by
 rcases qqr h with⟨rfl,_⟩|⟨_,h2,_⟩
 · exact⟨_,_,rfl⟩
 · cases x with
   |nil=>simp at h2
   |cons c r=>exact⟨c,r,rfl⟩
theorem qb7p {R:Type}{x:LU}(h:qbk x=true)(k:Bool->Option R):(oB (ixB x (0:Int)) fun c=>k ((c.toNat:Int)==(42:Int)))=k (q5n x):=by
 obtain⟨c,r,rfl⟩:=qb90 h
 simp only[ixB_zero,List.getElem?_cons_zero,zos,q5n,List.head?_cons]
 congr 1
 rw[Bool.eq_iff_iff]
 simp only[beq_iff_eq,zsi]
 constructor
 · intro h;have:c.toNat=42:=by omega
   exact UInt8.toNat_inj.1 this
 · intro h;rw[h];rfl
theorem qbnb {R:Type}{x:LU}(h:qbk x=true)(k:Bool->Option R):(bif(decide (((avS (qp x)).length:Int)>(0:Int)))then(oB (ixB (avS (qp x)) (0:Int)) fun y2=>(bif fitC [.s] y2.cells then(k ((gS y2.cells 0)==([42]:List UInt8)))else none))else k false)=k (q5n x):=by
 have hs:=qb3g h
 unfold q5n
 cases hl:qp x with
 |nil=>
  rw[hl]at hs
  have:(x.head? ==some 42)=false:=by
   rw[Bool.eq_false_iff]
   intro e
   have:=hs.2 (by simpa using e)
   simp at this
  simp[avS,this]
 |cons a r=>
  rw[hl]at hs
  have e:(a==[42])=(x.head? ==some 42):=by
   rw[Bool.eq_iff_iff]
   simp only[beq_iff_eq]
   rw[<-hs];simp
  have hpos:(((avS (a::r)).length:Int)>0):=by simp[avS]
  rw[decide_eq_true hpos,zct]
  simp only[ixB_zero]
  show k (a==[42])=_
  rw[e]
def qwn (n:LU)(v:Bool)(hi lo t:Int):Int:=bif qsn n then 2 else bif !qfy v hi lo then 3 else bif(decide (t<0)||decide (t>2147483647))then 1 else 0
theorem qb5p (n:LU)(v:Bool)(hi lo t:Int)(hn:n.length<=9223372036854775807):q4i n v hi lo t=some (qwn n v hi lo t):=by
 rw[qbny];unfold qto
 rw[qbgj];unfold qoi
 rw[qqu n hn,zos,qbov,zos]
 unfold qwn qsn
 cases h:qbk n
 · simp
 · simp only[znt,zcf,Bool.false_or]
   rw[qb7p h (fun b=>bif b then some 2 else bif !qfy v hi lo then some 3 else bif(decide (t<0)||decide (t>2147483647))then some 1 else some 0)]
   cases q5n n<;>simp only[zct,zcf]
   cases qfy v hi lo<;>simp only[znt,znf,zct,zcf]
   cases(decide (t<0)||decide (t>2147483647))<;>rfl
theorem qb3k (n:LU)(hn:n.length<=9223372036854775807)(h:qbk n=true):qyy n=some (q5n n):=by
 rw[qbg5];unfold qov
 rw[qb3f n hn,zos]
 exact qbnb h some
theorem qb5q (n:LU)(hn:n.length<=9223372036854775807)(h:qbk n=true):q4l n=some (q5n n):=by
 rw[qbn3];unfold qtt
 rw[qbo1 n hn,zos]
 exact qbnb h some
def qpe (y:AV):Int:=qwn (gS y.cells 0) (gB y.cells 1) (gI y.cells 2) (gI y.cells 3) (gI y.cells 4)
def q1e (p:Option AV)(y:AV):Int:=match p with
 |none=>0
 |some z=>bif decide (cmpH y z<0)then 7 else bif(cmpH y z==0)then 12 else 0
def errH (p:Option AV)(y:AV):Int:=bif qpe y != 0 then qpe y else q1e p y
def chkH:Option AV->List AV->Int
 |_,[]=>0
 |p,y::r=>bif errH p y != 0 then errH p y else chkH (some y) r
def qfg (l:LA):Int:=bif decide ((l.length:Int)>256)then 9 else chkH none l
def qha (l:LA)(i:Nat):Option AV:=match i with
 |0=>none
 |i+1=>l[i]?
theorem qbya (l:LA)(hl:qct l):qx8 l=some (qfg l):=by
 rw[qbn1];unfold qts qfg
 by_cases hlen:(l.length:Int)>256
 · simp[hlen]
 · simp only[hlen,zdf,zcf]
   rw[qbde,qwk l hl.1 (qj2 l l (l.length:Int) fun _=>some 0) (fun i nx=>qj1 l l (l.length:Int) i nx fun _=>some 0) (fun _ _=>rfl) (fun i r=>some (chkH (qha l i) r))]
   · rfl
   · intro nx;simp[qj1,chkH]
   · intro i y r nx h1 h2 h3 h4 h5
     have hy:=hl.2 y (zmg h2)
     have h6:(i:Int)<(l.length:Int):=by omega
     unfold qj1 chkH
     simp only[h6,zdt,zct,zin,h2,zos,hy.1,qb5p _ _ _ _ _ hy.2.2.2,h4,h5]
     rw[show qha l (i+1)=some y from h2]
     unfold errH
     rw[show qwn (gS y.cells 0) (gB y.cells 1) (gI y.cells 2) (gI y.cells 3) (gI y.cells 4)=qpe y from rfl]
     cases hf:(qpe y != 0)
     · simp only[zcf]
       cases i with
       |zero=>simp[qha,q1e]
       |succ i=>
        have e0:(((i+1:Nat):Int)==0)=false:=by simp;omega
        have hw:i64.wrap (((i+1:Nat):Int)-1)=(i:Int):=by rw[w64 (by omega) (by have:=hl.1;omega)];omega
        obtain⟨x,hx⟩:∃x,l[i]?=some x:=⟨l[i],by simp⟩
        have hxf:=hl.2 x (zmg hx)
        simp only[e0,zcf,hw,zin,hx,zos,hxf.1,zct,qb5n _ _ _ _ _ _ _ _ _ _ hy.2.2.2 hxf.2.2.2]
        rw[show qha l (i+1)=some x from hx]
        unfold q1e
        rw[show qe3 (gS y.cells 0) (gB y.cells 1) (gI y.cells 2) (gI y.cells 3) (gS x.cells 0) (gB x.cells 1) (gI x.cells 2) (gI x.cells 3)=cmpH y x from rfl]
        by_cases c1:cmpH y x<0
        · simp[c1,hf]
        · by_cases c2:cmpH y x=0
          · simp[c2,hf]
          · have c3:(cmpH y x==0)=false:=by simpa using c2
            simp[c1,c3,hf]
     · simp[hf]
theorem qb1l (l:LA)(hl:qct l):q13 l=some (qfg l):=by
 rw[qbme];unfold qrl qfg
 by_cases hlen:(l.length:Int)>256
 · simp[hlen]
 · simp only[hlen,zdf,zcf]
   rw[qbbt,qwk l hl.1 (qih l fun _=>some 0) (fun i nx=>qig l i nx fun _=>some 0) (fun _ _=>rfl) (fun i r=>some (chkH (qha l i) r))]
   · rfl
   · intro nx;simp[qig,chkH]
   · intro i y r nx h1 h2 h3 h4 h5
     have hy:=hl.2 y (zmg h2)
     have h6:(i:Int)<(l.length:Int):=by omega
     unfold qig chkH
     simp only[h6,zdt,zct,zin,h2,zos,hy.1,h4,h5]
     rw[show qha l (i+1)=some y from h2]
     have hJ27:∀kn:Bool->Option Int,quq l (i:Int) (gS y.cells 0) (gB y.cells 1) (gI y.cells 2) (gI y.cells 3) (gI y.cells 4) kn=kn (qsn (gS y.cells 0)):=fun kn=>by
      rw[qbbo];unfold qmw qsn
      rw[qbus _ hy.2.2.2,zos]
      cases h:qbk (gS y.cells 0)
      · simp
      · rw[qb3k _ hy.2.2.2 h];simp
     rw[hJ27,q9g,zos]
     have hJ51:∀kn:Bool->Option Int,qur l (i:Int) (gS y.cells 0) (gB y.cells 1) (gI y.cells 2) (gI y.cells 3) (gI y.cells 4) kn=kn (match qha l i with
      |none=>false
      |some x=>decide (cmpH y x<0)):=fun kn=>by
      rw[qbbq];unfold qmx
      cases i with
      |zero=>simp[qha]
      |succ i=>
       have hpos:((i+1:Nat):Int)>0:=by omega
       have hw:i64.wrap (((i+1:Nat):Int)-1)=(i:Int):=by rw[w64 (by omega) (by have:=hl.1;omega)];omega
       obtain⟨x,hx⟩:∃x,l[i]?=some x:=⟨l[i],by simp⟩
       have hxf:=hl.2 x (zmg hx)
       simp only[hpos,zdt,zct,hw,zin,hx,zos,hxf.1,qb5o _ _ _ _ _ _ _ _ _ _ hy.2.2.2 hxf.2.2.2]
       rw[show qha l (i+1)=some x from hx]
       rfl
     have hJ58:∀kn:Bool->Option Int,qus l (i:Int) (gS y.cells 0) (gB y.cells 1) (gI y.cells 2) (gI y.cells 3) (gI y.cells 4) kn=kn (match qha l i with
      |none=>false
      |some x=>samH y x):=fun kn=>by
      rw[qbbs];unfold qmy
      cases i with
      |zero=>simp[qha]
      |succ i=>
       have hpos:((i+1:Nat):Int)>0:=by omega
       have hw:i64.wrap (((i+1:Nat):Int)-1)=(i:Int):=by rw[w64 (by omega) (by have:=hl.1;omega)];omega
       obtain⟨x,hx⟩:∃x,l[i]?=some x:=⟨l[i],by simp⟩
       have hxf:=hl.2 x (zmg hx)
       simp only[hpos,zdt,zct,hw,zin,hx,zos,hxf.1]
       rw[show qha l (i+1)=some x from hx]
       unfold samH
       simp only
       cases h:(gS y.cells 0==gS x.cells 0)<;>simp only[zct,zcf,Bool.false_and,zta]
     rw[hJ51,hJ58]
     unfold errH qpe qwn
     cases qsn (gS y.cells 0)<;>simp only[zct,zcf]
     · cases qfy (gB y.cells 1) (gI y.cells 2) (gI y.cells 3)<;>simp only[znt,znf,zct,zcf]
       · rfl
       · cases(decide (gI y.cells 4<0)||decide (gI y.cells 4>2147483647))<;>simp only[zct,zcf]
         · unfold q1e
           cases hp:qha l i with
           |none=>simp
           |some x=>
            simp only
            have hsam:samH y x=(cmpH y x==0):=by
             rw[Bool.eq_iff_iff]
             have:=qwm (n:=gS x.cells 0) (v:=gB x.cells 1) (hi:=gI x.cells 2) (lo:=gI x.cells 3) (y:=y)
             rw[show samH y x=atH (gS x.cells 0) (gB x.cells 1) (gI x.cells 2) (gI x.cells 3) y from rfl,this]
             simp[cmpH]
            rw[hsam]
            by_cases c1:cmpH y x<0
            · simp[c1]
            · by_cases c2:cmpH y x=0
              · simp[c2]
              · have c3:(cmpH y x==0)=false:=by simpa using c2
                simp[c1,c3]
         · rfl
     · rfl
def blkd (l:LA)(v:Bool)(hi lo:Int):Bool:=(qy6 (fun y=>qg9 (gB y.cells 0) (gI y.cells 1) (gI y.cells 2) (gI y.cells 3) v hi lo) l).2&&
 ((gI (qy6 (fun y=>qg9 (gB y.cells 0) (gI y.cells 1) (gI y.cells 2) (gI y.cells 3) v hi lo) l).1.cells 4==2)||(gI (qy6 (fun y=>qg9 (gB y.cells 0) (gI y.cells 1) (gI y.cells 2) (gI y.cells 3) v hi lo) l).1.cells 4==3))
theorem qbyb (x:AV×Bool):(bif x.2 then(bif((gI x.1.cells 4)==(2:Int))then(some true)else(some ((gI x.1.cells 4)==(3:Int))))else(some false))=some (x.2&&((gI x.1.cells 4==2)||(gI x.1.cells 4==3))):=by
 cases x.2
 · rfl
 · simp only[zct,zta]
   cases(gI x.1.cells 4==2)<;>rfl
theorem qbfm (l:LA)(hl:qn l)(n:LU)(v:Bool)(hi lo t:Int):qod l n v hi lo t=some (blkd l v hi lo):=by
 rw[qbhy];unfold qpp blkd
 rw[qb49 l hl,zos,qbyb]
theorem qb3l (l:LA)(hl:qn l)(v:Bool)(hi lo:Int)(u1:uok hi)(u2:uok lo):qyz l v hi lo=some (blkd l v hi lo):=by
 rw[qbha];unfold qoz blkd
 rw[qb3a l hl v hi lo u1 u2,zos,qbyb]
def qb84 (z:AV):Prop:=fitC [.s] z.cells=true/\(gS z.cells 0).length<=9223372036854775807
def qn7 (l:LA):Prop:=l.length<=9223372036854775807/\∀z,z∈l->qb84 z
def qge (zs:LA)(n:LU):Bool:=zs.any fun z=>qsm n (gS z.cells 0)
theorem qb7q (zs:LA)(hz:qn7 zs)(n:LU)(hn:n.length<=9223372036854775807):q15 zs n=some (qge zs n):=by
 rw[qbmh];unfold qrn qge
 rw[qbdx,qfx zs hz.1 (qj4 zs n fun _=>some false) (fun i nx=>qj3 zs n i nx fun _=>some false) (fun _ _=>rfl) (fun r=>some (r.any fun z=>qsm n (gS z.cells 0)))]
 · intro nx;simp[qj3]
 · intro i z r nx h1 h2 h3 h4 h5
   have hy:=hz.2 z (zmg h2)
   have h6:(i:Int)<(zs.length:Int):=by omega
   unfold qj3
   simp only[h6,zdt,zct,zin,h2,zos,hy.1,h4,h5,qb5l n _ hn hy.2,List.any_cons]
   cases qsm n (gS z.cells 0)<;>simp
theorem qbkk (zs:LA)(hz:qn7 zs)(n:LU)(hn:n.length<=9223372036854775807):qqd zs n=some (qge zs n):=by
 rw[qbly];unfold qq6
 rw[qlf];unfold qb6
 rw[qmi];unfold qcb
 rw[qld]
 have key:=qb0 (σ:=List UInt8) zs hz.1 (fun k i s=>qbm zs (zs.length:Int) (fun b0_0q1=>(fun v4q1 b0_0q2=>(fun v4q1 b0_0q2=>(some v4q1:Option Bool)) (decide (v4q1>=0)) b0_0q2) (-1:Int) b0_0q1) (fun v4q1 b0_0q2=>(fun v4q1 b0_0q2=>(some v4q1:Option Bool)) (decide (v4q1>=0)) b0_0q2) k i s)
  (fun i s nx=>qbl zs (zs.length:Int) i s nx (fun b0_0q1=>(fun v4q1 b0_0q2=>(fun v4q1 b0_0q2=>(some v4q1:Option Bool)) (decide (v4q1>=0)) b0_0q2) (-1:Int) b0_0q1) (fun v4q1 b0_0q2=>(fun v4q1 b0_0q2=>(some v4q1:Option Bool)) (decide (v4q1>=0)) b0_0q2)) (fun _ _ _=>rfl)
  (fun _ s=>s=n) (fun r _=>some (r.any fun z=>qsm n (gS z.cells 0))) ?_ ?_ n FU rfl (qca (by have:=hz.1;omega))
 · exact key
 · intro s nx hs;simp[qbl]
 · intro i z r s nx h1 h2 h3 h4 hs h5
   subst hs
   have hy:=hz.2 z (zmg h2)
   have h6:(i:Int)<(zs.length:Int):=by omega
   unfold qbl
   simp only[h6,zdt,zct,zin,h2,zos,hy.1,h4]
   rw[qbgn];unfold qoj
   rw[qb7o s _ hn hy.2,zos]
   show(bif qsm s (gS z.cells 0)then some (decide ((i:Int)>=0))else nx ((i+1:Nat):Int) s)=_
   rw[h5 s rfl,List.any_cons]
   have:decide ((i:Int)>=0)=true:=by simp
   cases qsm s (gS z.cells 0)<;>simp[this]
def badZ (p:Option AV)(z:AV):Bool:= !qbk (gS z.cells 0)||match p with
 |none=>false
 |some x=>decide (cmpN (gS x.cells 0) (gS z.cells 0)>=0)
def chkZ (k:Int):Option AV->List AV->Int
 |_,[]=>k
 |p,z::r=>bif badZ p z then 2 else chkZ k (some z) r
def chkS (b z:LA):List AV->Int
 |[]=>0
 |h::r=>bif !blkd b (gB h.cells 1) (gI h.cells 2) (gI h.cells 3)then 25 else bif !qge z (gS h.cells 0)then 13 else chkS b z r
def qdl (b h z:LA):Int:=bif qpc b != 0 then qpc b else bif qfg h != 0 then qfg h else bif decide ((z.length:Int)>32)then 9 else chkZ (chkS b z h) none z
section
variable (b h z:LA)(hb:qn b)(hh:qct h)(hz:qn7 z)
include hb hh hz
theorem qb85:qyu h (h.length:Int) b h z (fun _=>some 0) FU 0=some (chkS b z h):=by
 rw[qbgz,qfx h hh.1 (qll h (h.length:Int) b h z fun _=>some 0) (fun i nx=>qlk h (h.length:Int) i b h z nx fun _=>some 0) (fun _ _=>rfl) (fun r=>some (chkS b z r))]
 · intro nx;simp[qlk,chkS]
 · intro i y r nx h1 h2 h3 h4 h5
   have hy:=hh.2 y (zmg h2)
   have h6:(i:Int)<(h.length:Int):=by omega
   unfold qlk chkS
   simp only[h6,zdt,zct,zin,h2,zos,hy.1,h4,h5,qbfm b hb,qbkk z hz _ hy.2.2.2]
   cases blkd b (gB y.cells 1) (gI y.cells 2) (gI y.cells 3)<;>simp only[znt,znf,zct,zcf]
   cases qge z (gS y.cells 0)<;>rfl
theorem qb86:quu b h z (fun _=>some 0) FU 0=some (chkS b z h):=by
 rw[qbbz,qfx h hh.1 (qim b h z fun _=>some 0) (fun i nx=>qil i b h z nx fun _=>some 0) (fun _ _=>rfl) (fun r=>some (chkS b z r))]
 · intro nx;simp[qil,chkS]
 · intro i y r nx h1 h2 h3 h4 h5
   have hy:=hh.2 y (zmg h2)
   have h6:(i:Int)<(h.length:Int):=by omega
   unfold qil chkS
   simp only[h6,zdt,zct,zin,h2,zos,hy.1,h4,h5,qb3l b hb _ _ _ hy.2.1 hy.2.2.1,qb7q z hz _ hy.2.2.2]
   cases blkd b (gB y.cells 1) (gI y.cells 2) (gI y.cells 3)<;>simp only[znt,znf,zct,zcf]
   cases qge z (gS y.cells 0)<;>rfl
theorem qbyc:q0j b h z=some (qdl b h z):=by
 rw[qbpx];unfold qv4 qdl
 rw[qb42 b hb,zos,qbya h hh,zos]
 cases(qpc b != 0)
 case true=>rfl
 cases(qfg h != 0)
 case true=>rfl
 simp only[zcf]
 by_cases hlen:(z.length:Int)>32
 · simp[hlen]
 · simp only[hlen,zdf,zcf]
   rw[qb85 b h z hb hh hz]
   rw[qbgy,qwk z hz.1 (qlj z (z.length:Int) b h z fun _=>some (chkS b z h)) (fun i nx=>qli z (z.length:Int) i b h z nx fun _=>some (chkS b z h)) (fun _ _=>rfl) (fun i r=>some (chkZ (chkS b z h) (qha z i) r))]
   · rfl
   · intro nx;simp[qli,chkZ]
   · intro i y r nx h1 h2 h3 h4 h5
     have hy:=hz.2 y (zmg h2)
     have h6:(i:Int)<(z.length:Int):=by omega
     unfold qli chkZ
     simp only[h6,zdt,zct,zin,h2,zos,hy.1,h4,h5]
     rw[show qha z (i+1)=some y from h2]
     have hJ:∀kn:Bool->Option Int,qyt (i:Int) (gS y.cells 0) z (z.length:Int) (i:Int) b h z kn=kn (badZ (qha z i) y):=fun kn=>by
      rw[qbgx];unfold qon badZ
      rw[qqu _ hy.2,zos]
      cases qbk (gS y.cells 0)
      · rfl
      · simp only[znt,zcf,Bool.false_or]
        cases i with
        |zero=>simp[qha]
        |succ i=>
         have hpos:((i+1:Nat):Int)>0:=by omega
         have hw:i64.wrap (((i+1:Nat):Int)-1)=(i:Int):=by rw[w64 (by omega) (by have:=hz.1;omega)];omega
         obtain⟨x,hx⟩:∃x,z[i]?=some x:=⟨z[i],by simp⟩
         have hxf:=hz.2 x (zmg hx)
         simp only[hpos,zdt,zct,hw,zin,hx,zos,hxf.1,qbfk _ _ hxf.2 hy.2]
         rw[show qha z (i+1)=some x from hx]
     rw[hJ]
     cases badZ (qha z i) y<;>rfl
theorem qbu0:qv7 b h z=some (qdl b h z):=by
 rw[qbmi];unfold qro qdl
 rw[qb26 b hb,zos,qb1l h hh,zos]
 cases(qpc b != 0)
 case true=>rfl
 cases(qfg h != 0)
 case true=>rfl
 simp only[zcf]
 by_cases hlen:(z.length:Int)>32
 · simp[hlen]
 · simp only[hlen,zdf,zcf]
   rw[qb86 b h z hb hh hz]
   rw[qbby,qwk z hz.1 (qik b h z fun _=>some (chkS b z h)) (fun i nx=>qij i b h z nx fun _=>some (chkS b z h)) (fun _ _=>rfl) (fun i r=>some (chkZ (chkS b z h) (qha z i) r))]
   · rfl
   · intro nx;simp[qij,chkZ]
   · intro i y r nx h1 h2 h3 h4 h5
     have hy:=hz.2 y (zmg h2)
     have h6:(i:Int)<(z.length:Int):=by omega
     unfold qij chkZ
     simp only[h6,zdt,zct,h4,h5]
     rw[show qha z (i+1)=some y from h2]
     have hJ:∀kn:Bool->Option Int,qut (i:Int) b h z kn=kn (badZ (qha z i) y):=fun kn=>by
      rw[qbbx];unfold qmz badZ
      simp only[zin,h2,zos,hy.1,zct]
      rw[qbus _ hy.2,zos]
      cases qbk (gS y.cells 0)
      · rfl
      · simp only[znt,zcf,Bool.false_or]
        cases i with
        |zero=>simp[qha]
        |succ i=>
         have hpos:((i+1:Nat):Int)>0:=by omega
         have hw:i64.wrap (((i+1:Nat):Int)-1)=(i:Int):=by rw[w64 (by omega) (by have:=hz.1;omega)];omega
         obtain⟨x,hx⟩:∃x,z[i]?=some x:=⟨z[i],by simp⟩
         have hxf:=hz.2 x (zmg hx)
         simp only[hpos,zdt,zct,hw,zin,hx,zos,hxf.1,h2,hy.1,qbru _ _ hxf.2 hy.2]
         rw[show qha z (i+1)=some x from hx]
     rw[hJ]
     cases badZ (qha z i) y<;>rfl
end
def Cutt (l:LA)(n:LU)(v:Bool)(hi lo:Int)(r:Nat):Prop:=r<=l.length/\∀(k:Nat) (y:AV),l[k]?=some y->(qe3 (gS y.cells 0) (gB y.cells 1) (gI y.cells 2) (gI y.cells 3) n v hi lo<0↔k<r)
theorem qbz9 (y:AV)(n:LU)(v:Bool)(hi lo t:Int):cmpH y (mkH n v hi lo t)=qe3 (gS y.cells 0) (gB y.cells 1) (gI y.cells 2) (gI y.cells 3) n v hi lo:=rfl
theorem qb7r (y:AV)(n:LU)(v:Bool)(hi lo t:Int):cmpH (mkH n v hi lo t) y=qe3 n v hi lo (gS y.cells 0) (gB y.cells 1) (gI y.cells 2) (gI y.cells 3):=rfl
theorem qbrv (n:LU)(v:Bool)(hi lo:Int):∀{l:LA},l.Pairwise ltH->∃r,Cutt l n v hi lo r
 |[],_=>⟨0,Nat.le_refl _,fun k y h=>by simp at h⟩
 |y::l,hp=>by
  rw[List.pairwise_cons]at hp
  obtain⟨r,h1,h2⟩:=qbrv n v hi lo hp.2
  by_cases hc:qe3 (gS y.cells 0) (gB y.cells 1) (gI y.cells 2) (gI y.cells 3) n v hi lo<0
  · refine⟨r+1,by simp;omega,fun k z hz=> ?_⟩
    cases k with
    |zero=>simp at hz;subst hz;exact⟨fun _=>by omega,fun _=>hc⟩
    |succ k=>rw[h2 k z (by simpa using hz)];omega
  · refine⟨0,Nat.zero_le _,fun k z hz=> ?_⟩
    refine⟨fun h=> ?_,fun h=>by omega⟩
    exfalso
    cases k with
    |zero=>simp at hz;subst hz;exact hc h
    |succ k=>
     have hyz:=hp.1 z (zmg (by simpa using hz))
     rw[<-qbz9 z n v hi lo 0]at h
     rw[<-qbz9 y n v hi lo 0]at hc
     exact hc (q39.1 (qzv hyz (q39.2 h)))
theorem qb87 {i j:Nat}(h:i+j<=9223372036854775807):i64.wrap ((u64.wrap (i64.wrap ((i:Int)+(j:Int)))).fdiv (2^min (1:Int).toNat u64.bits))=(((i+j) / 2:Nat):Int):=by
 rw[w64 (i:=(i:Int)+(j:Int)) (by omega) (by omega),wu64 (by omega) (by omega)]
 have e:(2:Int)^min (1:Int).toNat u64.bits=2:=by decide
 rw[e,Int.fdiv_eq_ediv_of_nonneg _ (by omega),w64 (by omega) (by omega)]
 omega
theorem qbo2 (l:LA)(hl:qct l)(hn:l.length<=1000000)(n:LU)(v:Bool)(hi lo t:Int)(hnm:n.length<=9223372036854775807){r:Nat}(hr:Cutt l n v hi lo r)(kx:Int->Option (Int×Bool)):
 ∀(m i j:Nat),i<=r->r<=j->j<=l.length->j-i<m->qq l (l.length:Int) n v hi lo t kx m (i:Int) (j:Int)=kx (r:Int)
 |0,i,j,_,_,_,h=>by omega
 |m+1,i,j,h1,h2,h3,h4=>by
  unfold qq qb1
  by_cases hij:i<j
  · have e1:(i:Int)<(j:Int):=by omega
    rw[decide_eq_true e1,zct]
    have e2:=qb87 (i:=i) (j:=j) (by omega)
    rw[e2,zin]
    have hk:(i+j) / 2<l.length:=by omega
    obtain⟨y,hy⟩:∃y,l[(i+j) / 2]?=some y:=⟨l[(i+j) / 2],by simp[hk]⟩
    have hyf:=hl.2 y (zmg hy)
    rw[hy,zos,hyf.1,zct,qbx9 _ _ _ _ _ _ _ _ _ _ hyf.2.2.2 hnm,zos]
    have hc:=hr.2 _ y hy
    by_cases hlt:qe3 (gS y.cells 0) (gB y.cells 1) (gI y.cells 2) (gI y.cells 3) n v hi lo<0
    · rw[decide_eq_true hlt,zct,w64 (by omega) (by omega)]
      have:=hc.1 hlt
      have ih:=qbo2 l hl hn n v hi lo t hnm hr kx m ((i+j) / 2+1) j (by omega) h2 h3 (by omega)
      rw[show(((i+j) / 2:Nat):Int)+1=(((i+j) / 2+1:Nat):Int) by omega]
      exact ih
    · rw[decide_eq_false hlt,zcf]
      have:¬(i+j) / 2<r:=fun h=>hlt (hc.2 h)
      exact qbo2 l hl hn n v hi lo t hnm hr kx m i ((i+j) / 2) h1 (by omega) (by omega) (by omega)
  · have e1:¬(i:Int)<(j:Int):=by omega
    rw[decide_eq_false e1,zcf,show i=r by omega]
theorem qbyd (l:LA)(hl:qct l)(hn:l.length<=1000000)(hp:l.Pairwise ltH)(n:LU)(v:Bool)(hi lo t:Int)(hnm:n.length<=9223372036854775807){r:Nat}(hr:Cutt l n v hi lo r):qxb l n v hi lo t=some ((r:Int),l.any (atH n v hi lo)):=by
 rw[qbr7];unfold qx9
 rw[qgf];unfold qbj
 rw[qf0]
 have:=qbo2 l hl hn n v hi lo t hnm hr (fun v9q1=>(bif(decide (v9q1<(l.length:Int)))then(oB (ixB l v9q1) fun y2=>(bif fitC qc y2.cells then(oB (qul (gS y2.cells 0) (gB y2.cells 1) (gI y2.cells 2) (gI y2.cells 3) (gI y2.cells 4) n v hi lo t) fun r3=>(some (v9q1,(r3==(0:Int)))))else none))else(some (v9q1,false)))) FU 0 l.length (Nat.zero_le _) hr.1 (Nat.le_refl _) (qca (by omega))
 rw[Int.natCast_zero]at this
 rw[this]
 have hany:l.any (atH n v hi lo)=match l[r]? with
  |some y=>atH n v hi lo y
  |none=>false:=by
  cases hy:l[r]? with
  |none=>
   simp only
   rw[Bool.eq_false_iff]
   intro h
   obtain⟨y,hym,hat⟩:=zay.1 h
   obtain⟨k,hk,rfl⟩:=List.mem_iff_getElem.1 hym
   have h0:=qwm.1 hat
   have:=(hr.2 k l[k] (by simp[hk])).2 (by have:=List.getElem?_eq_none_iff.1 hy;omega)
   omega
  |some y=>
   simp only
   have hrl:=(zge.1 hy).1
   rw[Bool.eq_iff_iff,zay]
   refine⟨?_,fun h=>⟨y,zmg hy,h⟩⟩
   rintro⟨z,hzm,hat⟩
   obtain⟨k,hk,rfl⟩:=List.mem_iff_getElem.1 hzm
   have h0:=qwm.1 hat
   have hkr:¬k<r:=fun h=>by have:=(hr.2 k l[k] (by simp[hk])).2 h;omega
   rcases Nat.lt_or_ge r k with h|h
   · exfalso
     have hlt:=List.pairwise_iff_getElem.1 hp r k hrl hk h
     have hnl:¬qe3 (gS y.cells 0) (gB y.cells 1) (gI y.cells 2) (gI y.cells 3) n v hi lo<0:=fun h=>by have:=(hr.2 r y hy).1 h;omega
     apply hnl
     have ey:l[r]=y:=by have:=zge.1 hy;exact this.2
     rw[ey]at hlt
     obtain⟨e1,e2,e3,e4⟩:=q2u.1 hat
     have:=q39.1 hlt
     unfold cmpH at this
     rw[e1,e2,e3,e4]at this
     exact this
   · have:k=r:=by omega
     subst this
     have ey:l[k]=y:=by have:=zge.1 hy;exact this.2
     rw[ey]at hat;exact hat
 rw[hany]
 by_cases hrl:r<l.length
 · have e1:(r:Int)<(l.length:Int):=by omega
   obtain⟨y,hy⟩:∃y,l[r]?=some y:=⟨l[r],by simp[hrl]⟩
   have hyf:=hl.2 y (zmg hy)
   simp only[e1,zdt,zct,zin,hy,zos,hyf.1,qbx9 _ _ _ _ _ _ _ _ _ _ hyf.2.2.2 hnm]
   have:(qe3 (gS y.cells 0) (gB y.cells 1) (gI y.cells 2) (gI y.cells 3) n v hi lo==0)=atH n v hi lo y:=by
    rw[Bool.eq_iff_iff,qwm];simp
   rw[this]
 · have e1:¬(r:Int)<(l.length:Int):=by omega
   have hy:l[r]?=none:=List.getElem?_eq_none_iff.2 (by omega)
   simp[e1,hy]
def insH (x:AV):List AV->List AV
 |[]=>[x]
 |y::r=>bif decide (cmpH x y<0)then x::y::r else y::insH x r
theorem qzw (x y:AV)(r:LA):insH x (y::r)=bif decide (cmpH x y<0)then x::y::r else y::insH x r:=rfl
theorem q7l (x:AV):∀l,(insH x l).length=l.length+1
 |[]=>rfl
 |y::r=>by rw[qzw];cases decide (cmpH x y<0)<;>simp[q7l x r]
theorem qr7 {x y:AV}:∀{l:LA},y∈insH x l↔y=x\/y∈l
 |[]=>by simp[insH]
 |z::r=>by
  rw[qzw]
  cases decide (cmpH x z<0)
  · simp only[zcf,List.mem_cons,qr7 (l:=r)]
    constructor
    · rintro(h|h|h)
      · exact .inr (.inl h)
      · exact .inl h
      · exact .inr (.inr h)
    · rintro(h|h|h)
      · exact .inr (.inl h)
      · exact .inl h
      · exact .inr (.inr h)
  · simp
theorem qbs5 (n:LU)(v:Bool)(hi lo t:Int):∀{l:LA} {r:Nat},Cutt l n v hi lo r->l.any (atH n v hi lo)=false->l.take r++[mkH n v hi lo t]++l.drop r=insH (mkH n v hi lo t) l
 |[],r,_,_=>by simp[insH]
 |y::l,r,hr,ha=>by
  simp only[List.any_cons,Bool.or_eq_false_iff]at ha
  have h0:=hr.2 0 y rfl
  have hs:=(q5m (gS y.cells 0) (gB y.cells 1) (gI y.cells 2) (gI y.cells 3) n v hi lo)
  have hne:¬qe3 (gS y.cells 0) (gB y.cells 1) (gI y.cells 2) (gI y.cells 3) n v hi lo=0:=fun h=>by rw[qwm.2 h]at ha;simp at ha
  rw[qzw]
  rw[qb7r]
  cases r with
  |zero=>
   have h1:¬qe3 (gS y.cells 0) (gB y.cells 1) (gI y.cells 2) (gI y.cells 3) n v hi lo<0:=fun h=>by have:=h0.1 h;omega
   have h2:=q5m n v hi lo (gS y.cells 0) (gB y.cells 1) (gI y.cells 2) (gI y.cells 3)
   have:qe3 n v hi lo (gS y.cells 0) (gB y.cells 1) (gI y.cells 2) (gI y.cells 3)<0:=h2.1.2 (by omega)
   simp[this]
  |succ r=>
   have h1:=h0.2 (by omega)
   have:¬qe3 n v hi lo (gS y.cells 0) (gB y.cells 1) (gI y.cells 2) (gI y.cells 3)<0:=by have:=hs.1.1 h1;omega
   have ih:=qbs5 n v hi lo t (l:=l) (r:=r) ⟨by have:=hr.1;simp at this;omega,fun k z hz=>by
    have:=hr.2 (k+1) z (by simpa using hz)
    rw[this];omega⟩ ha.2
   simp only[this,zdf,zcf,List.take_succ_cons,List.drop_succ_cons,List.cons_append]
   rw[<-ih]
theorem qb3m (l:LA)(hn:l.length<=100000){r:Nat}(hr:r<=l.length)(x:AV):qql 48 l (r:Int) [x]=some (l.take r++[x]++l.drop r):=by
 unfold qql
 have:decide (0<=(r:Int)/\(r:Int)<=(l.length:Int)/\0<([x]:List AV).length/\(l.length+([x]:List AV).length)*48<=140737488355328)=true:=by
  simp;omega
 rw[this];simp
theorem qb88 (l:LA)(hn:l.length<=100000){r:Nat}(hr:r<l.length):qzt l (r:Int) ((r+1:Nat):Int)=some (l.take r++l.drop (r+1)):=by
 unfold qzt
 have:decide (0<=(r:Int)/\(r:Int)<((r+1:Nat):Int)/\((r+1:Nat):Int)<=(l.length:Int)/\l.length<=9223372036854775807)=true:=by
  simp;omega
 rw[this];simp
theorem qbs6 {R:Type}{a:LA}(x:AV)(h:(a.length+1)*48<=140737488355328)(k:Option R):(bif decide ((a.length+([x]:List AV).length)*48<=140737488355328)then k else none)=k:=by
 have:decide ((a.length+([x]:List AV).length)*48<=140737488355328)=true:=by simpa using h
 rw[this];rfl
def kin (y:AV):Bool:=(gI y.cells 4==2)||(gI y.cells 4==3)
theorem qbfn {l:LA}(hl:qn l)(ht:qcz l){v:Bool}{hi lo:Int}(u1:uok hi)(u2:uok lo):blkd l v hi lo=true↔∃y,y∈l/\hasA v hi lo y=true/\kin y=true:=by
 have hg:=qf4 hl ht
 have e:blkd l v hi lo=((outC (qp8 (hasA v hi lo) none l)).2&&kin (outC (qp8 (hasA v hi lo) none l)).1):=rfl
 rw[e]
 cases hb:qp8 (hasA v hi lo) none l with
 |none=>
  obtain⟨_,h3⟩:=qbrn hb
  constructor
  · intro h;cases h
  · rintro⟨y,hy,h1,_⟩;rw[h3 y hy]at h1;cases h1
 |some b=>
  obtain⟨h3,h4,_⟩:=qbfg hb
  rcases h3 with h3|⟨h3,h3'⟩
  · cases h3
  have e2:((outC (some b)).2&&kin (outC (some b)).1)=kin b:=rfl
  rw[e2]
  constructor
  · intro h;exact⟨b,h3,h3',h⟩
  · rintro⟨y,hy,ha,hk⟩
    have c1:=((qbx5 (hg b h3) u1 u2).1 h3').2
    have c2:=((qbx5 (hg y hy) u1 u2).1 ha).2
    have hv:(pqY b).v=(pqY y).v:=c1.1.symm.trans c2.1
    have hle:(pqY y).bits<=(pqY b).bits:=h4 y hy ha
    obtain⟨a1,a2,a3,_⟩:=(hg b h3).range
    obtain⟨b1,b2,b3,_⟩:=(hg y hy).range
    rw[<-hv]at b3
    have hkk:(pqY b).np.k<=(pqY y).np.k:=by omega
    have hs:=Np.nest c1 c2 hkk
    rcases Nat.lt_or_ge (pqY b).np.k (pqY y).np.k with hlt|hge
    · have hbar:=(qbky (hg b h3) (hg y hy)).1 (ht.bars hl h3 hy) hs hlt
      unfold kin at hk⊢
      unfold barK at hbar
      rw[Bool.or_eq_true,beq_iff_eq,beq_iff_eq]at hk
      rcases hk with h2|h2<;>rw[h2]at hbar<;>simp at hbar
      simp[hbar]
    · have:=qbfh ht h3 hy (qb8u (hg y hy) (hg b h3) (Np.sub_antisymm (hg y hy).np_ok (Np.nest c2 c1 hge) hs))
      rw[<-this];exact hk
theorem qb5r {l:LA}(hl:qn l)(ht:qcz l){b:AV}(hf:qn (insF b l))(hi':qcz (insF b l)){v:Bool}{hi lo:Int}(u1:uok hi)(u2:uok lo)(h:blkd l v hi lo=true):blkd (insF b l) v hi lo=true:=by
 obtain⟨y,h1,h2⟩:=(qbfn hl ht u1 u2).1 h
 exact(qbfn hf hi' u1 u2).2 ⟨y,qr5.2 (.inr h1),h2⟩
theorem qb6g {b z:LA}:∀{h:LA},chkS b z h=0↔∀y,y∈h->blkd b (gB y.cells 1) (gI y.cells 2) (gI y.cells 3)=true/\qge z (gS y.cells 0)=true
 |[]=>by simp[chkS]
 |x::r=>by
  unfold chkS
  cases h1:blkd b (gB x.cells 1) (gI x.cells 2) (gI x.cells 3)with
  |false=>simp[h1]
  |true=>
  cases h2:qge z (gS x.cells 0)with
  |false=>simp[h2]
  |true=>
   simp only[znt,zcf,List.mem_cons]
   rw[qb6g]
   constructor
   · rintro h y (rfl|hy)
     · exact⟨h1,h2⟩
     · exact h y hy
   · intro h y hy;exact h y (.inr hy)
theorem qb6h (k:Int):∀{p:Option AV} {z:LA},chkZ k p z=0↔chkZ 0 p z=0/\k=0
 |p,[]=>by simp[chkZ]
 |p,x::r=>by
  unfold chkZ
  cases badZ p x with
  |true=>simp
  |false=>simp only[zcf];exact qb6h k
theorem qbrw {y z:AV}:cmpH y z>0↔ltH z y:=by rw[q39];exact(q5m _ _ _ _ _ _ _ _).1.symm
theorem qbrx:∀{p:Option AV} {l:LA},chkH p l=0↔(∀y,y∈l->qpe y=0)/\l.Pairwise ltH/\∀x,p=some x->∀y,y∈l->ltH x y
 |p,[]=>by simp[chkH]
 |p,y::r=>by
  unfold chkH errH
  by_cases hf:qpe y=0
  · have e1:(qpe y != 0)=false:=by simp[hf]
    simp only[e1,zcf]
    by_cases ho:q1e p y=0
    · have e2:(q1e p y != 0)=false:=by simp[ho]
      simp only[e2,zcf]
      rw[qbrx (p:=some y)]
      have hp:∀x,p=some x->ltH x y:=by
       rintro x rfl
       unfold q1e at ho
       simp only at ho
       refine qbrw.1 ?_
       by_cases c1:cmpH y x<0
       · simp[c1]at ho
       · by_cases c2:cmpH y x=0
         · simp[c2]at ho
         · omega
      constructor
      · rintro⟨a1,a2,a3⟩
        refine⟨fun z hz=> ?_,List.pairwise_cons.2 ⟨fun z hz=>a3 y rfl z hz,a2⟩,fun x hx z hz=> ?_⟩
        · rcases List.mem_cons.1 hz with rfl|hz
          · exact hf
          · exact a1 z hz
        · rcases List.mem_cons.1 hz with rfl|hz
          · exact hp x hx
          · exact qzv (hp x hx) (a3 y rfl z hz)
      · rintro⟨a1,a2,a3⟩
        rw[List.pairwise_cons]at a2
        exact⟨fun z hz=>a1 z (zmc _ hz),a2.2,fun x hx z hz=>by cases hx;exact a2.1 z hz⟩
    · have e2:(q1e p y != 0)=true:=by simp[ho]
      simp only[e2,zct]
      constructor
      · intro h;exact absurd h ho
      · rintro⟨_,_,a3⟩
        exfalso;apply ho
        unfold q1e
        cases p with
        |none=>rfl
        |some x=>
         have:=qbrw.2 (a3 x rfl y (by simp))
         have c1:¬cmpH y x<0:=by omega
         have c2:(cmpH y x==0)=false:=by rw[beq_eq_false_iff_ne];omega
         simp[c1,c2]
  · have e1:(qpe y != 0)=true:=by simp[hf]
    simp only[e1,zct]
    constructor
    · intro h;exact absurd h hf
    · rintro⟨a1,_⟩;exact absurd (a1 y (by simp)) hf
structure Sp where
 b:List AV
 h:List AV
 z:List AV
def Sp.av (s:Sp):AV:=.agg [(.sl 8 s.b),(.sl 5 s.h),(.sl 1 s.z)]
def Sp.fr (s:Sp):AV:=.agg [(.fr true 8 s.b),(.fr true 5 s.h),(.fr true 1 s.z)]
def sp0:Sp:=⟨[],[],[]⟩
structure Fits (s:Sp):Prop where
 b:qn s.b
 h:qct s.h
 z:qn7 s.z
structure Plan (s:Sp):Prop where
 f:Fits s
 nb:s.b.length<=512
 tb:qcz s.b
 nh:s.h.length<=256
 fh:∀y,y∈s.h->qpe y=0
 ph:s.h.Pairwise ltH
 nz:s.z.length<=32
 cz:chkZ 0 none s.z=0
 bl:∀y,y∈s.h->blkd s.b (gB y.cells 1) (gI y.cells 2) (gI y.cells 3)=true
 zo:∀y,y∈s.h->qge s.z (gS y.cells 0)=true
theorem q2v {s:Sp}(f:Fits s):qdl s.b s.h s.z=0↔Plan s:=by
 unfold qdl
 by_cases hb:qpc s.b=0
 · have e1:(qpc s.b != 0)=false:=by simp[hb]
   have hb':s.b.length<=512:=by
    unfold qpc at hb
    by_cases h:(s.b.length:Int)>512
    · simp[h]at hb
    · omega
   simp only[e1,zcf]
   by_cases hh:qfg s.h=0
   · have e2:(qfg s.h != 0)=false:=by simp[hh]
     have hh':s.h.length<=256/\chkH none s.h=0:=by
      unfold qfg at hh
      by_cases h:(s.h.length:Int)>256
      · simp[h]at hh
      · simp only[h,zdf,zcf]at hh
        exact⟨by omega,hh⟩
     simp only[e2,zcf]
     obtain⟨a1,a2,_⟩:=qbrx.1 hh'.2
     by_cases hz:(s.z.length:Int)>32
     · simp only[hz,zdt,zct]
       constructor
       · intro h;cases h
       · intro h;have:=h.nz;omega
     · simp only[hz,zdf,zcf]
       rw[qb6h,qb6g]
       constructor
       · rintro⟨h1,h2⟩
         exact⟨f,hb',(qbum hb').1 hb,hh'.1,a1,a2,by omega,h1,fun y hy=>(h2 y hy).1,fun y hy=>(h2 y hy).2⟩
       · intro h;exact⟨h.cz,fun y hy=>⟨h.bl y hy,h.zo y hy⟩⟩
   · have e2:(qfg s.h != 0)=true:=by simp[hh]
     simp only[e2,zct]
     constructor
     · intro h;exact absurd h hh
     · intro h;exfalso;apply hh
       unfold qfg
       have:¬(s.h.length:Int)>256:=by have:=h.nh;omega
       simp only[this,zdf,zcf]
       exact qbrx.2 ⟨h.fh,h.ph,fun x hx=>by cases hx⟩
 · have e1:(qpc s.b != 0)=true:=by simp[hb]
   simp only[e1,zct]
   constructor
   · intro h;exact absurd h hb
   · intro h;exact absurd ((qbum h.nb).2 h.tb) hb
structure Chg where
 k:Int
 v:Bool
 hi:Int
 lo:Int
 bits:Int
 bk:Int
 nm:List UInt8
 ow:List UInt8
 vl:Int
 nb:Int
 po:Int
 hn:List UInt8
 hv:Bool
 hhi:Int
 hlo:Int
 ht:Int
 tx:List UInt8
def Chg.av (c:Chg):AV:=.agg [(.int .i64 c.k),(.bool c.v),(.int .u64 c.hi),(.int .u64 c.lo),(.int .i64 c.bits),(.int .i64 c.bk),(.str c.nm),(.str c.ow),(.int .i64 c.vl),(.int .i64 c.nb),(.int .i64 c.po),(.str c.hn),(.bool c.hv),(.int .u64 c.hhi),(.int .u64 c.hlo),(.int .i64 c.ht),(.str c.tx)]
structure CFit (c:Chg):Prop where
 u1:uok c.hi
 u2:uok c.lo
 u3:uok c.hhi
 u4:uok c.hlo
 n1:c.nm.length<=9223372036854775807
 n2:c.ow.length<=9223372036854775807
 n3:c.hn.length<=9223372036854775807
 n4:c.tx.length<=9223372036854775807
def q7m (k:Int):Bool:=k==1||k==2||k==3||k==4||k==5||k==6
def q5o (c:Chg):Chg:=
 bif c.k==1 then⟨c.k,c.v,c.hi,c.lo,c.bits,c.bk,c.nm,c.ow,c.vl,0,0,[],false,0,0,0,[]⟩else
 bif c.k==2 then⟨c.k,c.v,c.hi,c.lo,c.bits,0,[],[],0,0,0,[],false,0,0,0,[]⟩else
 bif c.k==3 then⟨c.k,c.v,c.hi,c.lo,c.bits,0,c.nm,c.ow,0,c.nb,c.po,[],false,0,0,0,[]⟩else
 bif c.k==4 then⟨c.k,false,0,0,0,0,[],[],0,0,0,c.hn,c.hv,c.hhi,c.hlo,c.ht,[]⟩else
 bif c.k==5 then⟨c.k,false,0,0,0,0,[],[],0,0,0,c.hn,c.hv,c.hhi,c.hlo,0,[]⟩else
 bif c.k==6 then⟨c.k,false,0,0,0,0,[],[],0,0,0,c.hn,c.hv,c.hhi,c.hlo,0,c.tx⟩else
 ⟨c.k,false,0,0,0,0,[],[],0,0,0,[],false,0,0,0,[]⟩
def eqC (a b:Chg):Bool:=(a.k==b.k)&&((a.v==b.v)&&((a.hi==b.hi)&&((a.lo==b.lo)&&((a.bits==b.bits)&&((a.bk==b.bk)&&((a.nm==b.nm)&&((a.ow==b.ow)&&((a.vl==b.vl)&&((a.nb==b.nb)&&((a.po==b.po)&&((a.hn==b.hn)&&((a.hv==b.hv)&&((a.hhi==b.hhi)&&((a.hlo==b.hlo)&&((a.ht==b.ht)&&((a.tx==b.tx)&&true))))))))))))))))
theorem qb89 (c:Chg):q9r c.k c.v c.hi c.lo c.bits c.bk c.nm c.ow c.vl c.nb c.po c.hn c.hv c.hhi c.hlo c.ht c.tx=some ((q5o c).av,q7m c.k):=by
 rw[qbry];unfold qxy
 rw[qbk4];unfold qqv q5o q7m
 cases h1:(c.k==1)
 case true=>rfl
 cases h2:(c.k==2)
 case true=>rfl
 cases h3:(c.k==3)
 case true=>rfl
 cases h4:(c.k==4)
 case true=>rfl
 cases h5:(c.k==5)
 case true=>rfl
 cases h6:(c.k==6)
 case true=>rfl
 rfl
def okC (c:Chg):Bool:=q7m c.k&&eqC (q5o c) c
def blkC (c:Chg):AV:=mkB c.v c.hi c.lo c.bits c.bk c.nm c.ow c.vl
def qk5 (e:Int):Sp×Int:=(sp0,e)
def qyo (s:Sp)(n:LU)(v:Bool)(hi lo t:Int):Sp×Int:=
 bif qfg [mkH n v hi lo t] != 0 then qk5 (qfg [mkH n v hi lo t])else bif s.h.any (atH n v hi lo)then qk5 12 else
 bif decide ((s.h.length:Int)>=256)then qk5 9 else bif !blkd s.b v hi lo then qk5 25 else bif !qge s.z n then qk5 13 else
 (⟨s.b,insH (mkH n v hi lo t) s.h,s.z⟩,0)
def hst0:AV:=mkH [] false 0 0 0
def outH (h:LA)(k:Nat):List AV:=h.take k++h.drop (k+1)
def hAt (h:LA)(k:Nat):AV:=h[k]?.getD hst0
def qpf (s:Sp)(n:LU)(v:Bool)(hi lo:Int):Sp×AV×Int:=match idxO (atH n v hi lo) s.h with
 |none=>(sp0,hst0,11)
 |some k=>(⟨s.b,outH s.h k,s.z⟩,hAt s.h k,0)
def q3c (s:Sp)(n:LU)(v:Bool)(hi lo:Int)(x:LU):Sp×Int:=match idxO (atH n v hi lo) s.h with
 |none=>qk5 11
 |some k=>bif qsn x then qk5 2 else bif s.h.any (atH x v hi lo)then qk5 12 else bif !qge s.z x then qk5 13 else
  (⟨s.b,insH (mkH x v hi lo (gI (hAt s.h k).cells 4)) (outH s.h k),s.z⟩,0)
def lost (b h:LA):Bool:=h.any fun y=> !blkd b (gB y.cells 1) (gI y.cells 2) (gI y.cells 3)
def qbv5 (s:Sp)(c:Chg):Sp×Int:=
 bif c.k==1 then bif(addF s.b (blkC c)).2 != 0 then qk5 (addF s.b (blkC c)).2 else(⟨(addF s.b (blkC c)).1,s.h,s.z⟩,0)else
 bif c.k==2 then bif(qce s.b c.v c.hi c.lo c.bits).2 != 0 then qk5 (qce s.b c.v c.hi c.lo c.bits).2 else bif lost (qce s.b c.v c.hi c.lo c.bits).1 s.h then qk5 25 else(⟨(qce s.b c.v c.hi c.lo c.bits).1,s.h,s.z⟩,0)else
 bif c.k==3 then bif(qnn s.b ⟨c.v,c.hi,c.lo,c.bits⟩ c.nb c.po c.nm c.ow).2.2 != 0 then qk5 (qnn s.b ⟨c.v,c.hi,c.lo,c.bits⟩ c.nb c.po c.nm c.ow).2.2 else(⟨(qnn s.b ⟨c.v,c.hi,c.lo,c.bits⟩ c.nb c.po c.nm c.ow).1,s.h,s.z⟩,0)else
 bif c.k==4 then qyo s c.hn c.hv c.hhi c.hlo c.ht else
 bif c.k==5 then((qpf s c.hn c.hv c.hhi c.hlo).1,(qpf s c.hn c.hv c.hhi c.hlo).2.2)else
 q3c s c.hn c.hv c.hhi c.hlo c.tx
def qc3 (s:Sp)(c:Chg):Sp×Int:=bif okC c then qbv5 s c else qk5 1
structure Wk (s:Sp):Prop where
 f:Fits s
 nb:s.b.length<=1000
 tb:qcz s.b
 nh:s.h.length<=1000
 ph:s.h.Pairwise ltH
 nz:s.z.length<=1000
theorem Plan.wk {s:Sp}(h:Plan s):Wk s:=⟨h.f,by have:=h.nb;omega,h.tb,by have:=h.nh;omega,h.ph,by have:=h.nz;omega⟩
theorem qb9a {l:LA}(hp:l.Pairwise ltH){n:LU}{v:Bool}{hi lo:Int}{r k:Nat}(hr:Cutt l n v hi lo r)(hk:idxO (atH n v hi lo) l=some k):r=k:=by
 obtain⟨y,hy,hf⟩:=qpa l k hk
 have hat:=List.find?_some hf
 have h0:=qwm.1 hat
 have h1:¬k<r:=fun h=>by have:=(hr.2 k y hy).2 h;omega
 have hkl:=(zge.1 hy).1
 rcases Nat.lt_or_ge r k with h|h
 · exfalso
   have hrl:r<l.length:=by omega
   have hlt:=List.pairwise_iff_getElem.1 hp r k hrl hkl h
   have hnl:¬qe3 (gS (l[r]).cells 0) (gB (l[r]).cells 1) (gI (l[r]).cells 2) (gI (l[r]).cells 3) n v hi lo<0:=fun h=>by have:=(hr.2 r l[r] (by simp[hrl])).1 h;omega
   apply hnl
   have ey:l[k]=y:=by have:=zge.1 hy;exact this.2
   rw[ey]at hlt
   obtain⟨e1,e2,e3,e4⟩:=q2u.1 hat
   have:=q39.1 hlt
   unfold cmpH at this
   rw[e1,e2,e3,e4]at this
   exact this
 · omega
theorem qb1m {s:Sp}(w:Wk s):qvl s.b s.h s.z=some s.fr:=by
 rw[qbu4];unfold qzz qw qnh qqa q30
 have h1:s.b.length*80<=140737488355328:=by have:=w.nb;omega
 have h2:s.h.length*48<=140737488355328:=by have:=w.nh;omega
 have h3:s.z.length*16<=140737488355328:=by have:=w.nz;omega
 simp[h1,h2,h3,Sp.fr]
theorem qpg:hd ([]:List AV) ([]:List AV).length=true:=rfl
theorem qbs7 {n:LU}{v:Bool}{hi lo t:Int}(u1:uok hi)(u2:uok lo)(h:n.length<=9223372036854775807):qxw (mkH n v hi lo t):=⟨rfl,u1,u2,h⟩
theorem qb7s {y:AV}(h:qxw y):qct [y]:=⟨by simp,fun z hz=>by simp at hz;subst hz;exact h⟩
theorem qb3n {s:Sp}(w:Wk s)(n:LU)(v:Bool)(hi lo t:Int)(u1:uok hi)(u2:uok lo)(hn:n.length<=9223372036854775807):q10 n v hi lo t s.b s.h s.z=some ((qyo s n v hi lo t).1.fr,(qyo s n v hi lo t).2):=by
 obtain⟨r,hr⟩:=qbrv n v hi lo w.ph
 rw[qblz];unfold qq7 qyo
 rw[show(AV.agg [(.str n),(.bool v),(.int .u64 hi),(.int .u64 lo),(.int .i64 t)])=mkH n v hi lo t from rfl]
 simp only[zhs,qpg,zct,qbya _ (qb7s (qbs7 u1 u2 hn)),zos,qbyd s.h w.f.h (by have:=w.nh;omega) w.ph n v hi lo t hn hr,qbfm s.b w.f.b,qbkk s.z w.f.z n hn,qb3m s.h (by have:=w.nh;omega) hr.1]
 cases(qfg [mkH n v hi lo t] != 0)
 case true=>rfl
 simp only[zcf]
 cases ha:s.h.any (atH n v hi lo)
 case true=>rfl
 simp only[zcf]
 cases decide ((s.h.length:Int)>=256)
 case true=>rfl
 simp only[zcf]
 cases blkd s.b v hi lo
 case false=>rfl
 cases qge s.z n
 case false=>rfl
 simp only[znt,zcf]
 rw[qbs5 n v hi lo t hr ha];rfl
theorem qb3o {y:AV}(h:fitC qc y.cells=true):∃n v hi lo t,y=mkH n v hi lo t:=⟨_,_,_,_,_,(ql7 h).symm⟩
theorem qb0a {y:AV}(h:fitC qc y.cells=true):rdE y 0 true 5=some y:=by obtain⟨n,v,hi,lo,t,rfl⟩:=qb3o h;rfl
theorem qbu1 {y:AV}(h:fitC qc y.cells=true):fitV (.st qc) y=true:=by obtain⟨n,v,hi,lo,t,rfl⟩:=qb3o h;rfl
theorem qbye {h:LA}{k:Nat}{y:AV}(e:h[k]?=some y):hAt h k=y:=by unfold hAt;rw[e];rfl
theorem qbkl {s:Sp}(w:Wk s)(n:LU)(v:Bool)(hi lo t:Int)(hn:n.length<=9223372036854775807):qmj n v hi lo t s.b s.h s.z=some ((qpf s n v hi lo).1.fr,(qpf s n v hi lo).2.1,(qpf s n v hi lo).2.2):=by
 obtain⟨r,hr⟩:=qbrv n v hi lo w.ph
 rw[qbdf];unfold qnv qpf
 have hany:s.h.any (atH n v hi lo)=(idxO (atH n v hi lo) s.h).isSome:=by
  rw[<-qvj];unfold idxI
  cases idxO (atH n v hi lo) s.h with
  |none=>rfl
  |some k=>simp
 simp only[zhs,qpg,zct,qbyd s.h w.f.h (by have:=w.nh;omega) w.ph n v hi lo t hn hr,zos,hany]
 cases hk:idxO (atH n v hi lo) s.h with
 |none=>rfl
 |some k=>
  have:=qb9a w.ph hr hk
  subst this
  obtain⟨y,hy,_⟩:=qpa s.h r hk
  have hrl:=(zge.1 hy).1
  have hyf:=w.f.h.2 y (zmg hy)
  have h1:decide (0<=(r:Int)/\(r:Int)<(s.h.length:Int))=true:=decide_eq_true ⟨by omega,by omega⟩
  have hw:i64.wrap ((r:Int)+1)=((r+1:Nat):Int):=by rw[w64 (by omega) (by have:=w.nh;omega)];omega
  simp only[Option.isSome_some,znt,zcf,h1,zct,ztn,hy,zos,hw,qb88 s.h (by have:=w.nh;omega) hrl,zhs]
  rw[qbye hy]
  have hz:rdE y 0 true 5=some y:=qb0a hyf.1
  have hv:fitV (.st qc) y=true:=qbu1 hyf.1
  rw[hz]
  simp only[zos,hv,zct]
  rw[show(AV.agg [(.str (gS y.cells 0)),(.bool (gB y.cells 1)),(.int .u64 (gI y.cells 2)),(.int .u64 (gI y.cells 3)),(.int .i64 (gI y.cells 4))])=y from ql7 hyf.1]
  rfl
theorem spf0 (s:Sp):gL s.fr.cells 0=s.b:=rfl
theorem spf1 (s:Sp):gL s.fr.cells 1=s.h:=rfl
theorem spf2 (s:Sp):gL s.fr.cells 2=s.z:=rfl
theorem qb7t {h:LA}{k:Nat}(hk:k<h.length):(outH h k).length+1=h.length:=by simp[outH];omega
theorem q2w {h:LA}{k:Nat}{y:AV}(hy:y∈outH h k):y∈h:=by
 rcases List.mem_append.1 hy with h1|h1
 · exact List.mem_of_mem_take h1
 · exact List.mem_of_mem_drop h1
theorem q5x (h:LA)(k:Nat):(outH h k).Sublist h:=by
 have:h=h.take k++h.drop k:=(List.take_append_drop k h).symm
 unfold outH
 conv=>rhs;rw[this]
 exact(List.Sublist.refl _).append (by rw[show h.drop (k+1)=(h.drop k).drop 1 by simp];exact List.drop_sublist 1 _)
theorem Wk.out {s:Sp}(w:Wk s)(k:Nat):Wk ⟨s.b,outH s.h k,s.z⟩:=⟨⟨w.f.b,⟨Nat.le_trans (q5x s.h k).length_le w.f.h.1,fun y hy=>w.f.h.2 y (q2w hy)⟩,w.f.z⟩,w.nb,w.tb,Nat.le_trans (q5x s.h k).length_le w.nh,w.ph.sublist (q5x s.h k),w.nz⟩
theorem qb0b {h:LA}{k:Nat}{y:AV}(e:h[k]?=some y)(q:AV->Bool):h.any q=((outH h k).any q||q y):=by
 have hk:=(zge.1 e).1
 have hd:h.drop k=y::h.drop (k+1):=by
  rw[List.drop_eq_getElem_cons hk];congr 1;exact(zge.1 e).2
 have:h=h.take k++(y::h.drop (k+1)):=by rw[<-hd,List.take_append_drop]
 conv=>lhs;rw[this]
 unfold outH
 simp only[List.any_append,List.any_cons]
 cases(h.take k).any q<;>cases q y<;>simp
theorem qb5s {s:Sp}(w:Wk s)(n:LU)(v:Bool)(hi lo t:Int)(x:LU)(hn:n.length<=9223372036854775807)(hx:x.length<=9223372036854775807):q4m s.b s.h s.z n v hi lo t x=some ((q3c s n v hi lo x).1.fr,(q3c s n v hi lo x).2):=by
 rw[qbn4];unfold qtu q3c
 simp only[qb1m w,zos,spf0,spf1,spf2,zhs,qpg,zct,zas,qbkl w n v hi lo t hn]
 unfold qpf
 cases hk:idxO (atH n v hi lo) s.h with
 |none=>rfl
 |some k=>
  obtain⟨y,hy,hf⟩:=qpa s.h k hk
  have hat:=List.find?_some hf
  obtain⟨e1,e2,e3,e4⟩:=q2u.1 hat
  have hkl:=(zge.1 hy).1
  have hyf:=w.f.h.2 y (zmg hy)
  have wo:=w.out k
  obtain⟨r,hr⟩:=qbrv x v hi lo wo.ph
  simp only[bne_self_eq_false,zcf,qbye hy,e1,e2,e3,e4,zhs,zct,zas,qpg,spf0,spf1,spf2]
  rw[qbdh];unfold qnw
  rw[qqu x hx,zos]
  unfold qsn
  cases ho:qbk x with
  |false=>rfl
  |true=>
   simp only[znt,zcf,qb5q x hx ho,zos,Bool.false_or]
   cases q5n x with
   |true=>rfl
   |false=>
    have hany:s.h.any (atH x v hi lo)=((outH s.h k).any (atH x v hi lo)||(x==n)):=by
     rw[qb0b hy];congr 1
     rw[Bool.eq_iff_iff,q2u]
     simp only[e1,e2,e3,e4,and_true,beq_iff_eq]
     exact eq_comm
    simp only[zcf,qbyd (outH s.h k) wo.f.h (by have:=wo.nh;simp only at this;omega) wo.ph x v hi lo (gI y.cells 4) hx hr,zos,hany]
    cases hb:((outH s.h k).any (atH x v hi lo)||(x==n))with
    |true=>rfl
    |false=>
     have ha:(outH s.h k).any (atH x v hi lo)=false:=by
      cases h:(outH s.h k).any (atH x v hi lo)with
      |false=>rfl
      |true=>rw[h]at hb;cases hb
     simp only[zcf,qbkk s.z w.f.z x hx,zos]
     cases qge s.z x with
     |false=>rfl
     |true=>
      rw[show(AV.agg [(.str x),(.bool v),(.int .u64 hi),(.int .u64 lo),(.int .i64 (gI y.cells 4))])=mkH x v hi lo (gI y.cells 4)from rfl]
      simp only[znt,zcf,qb3m (outH s.h k) (by have:=wo.nh;simp only at this;omega) hr.1,zos,qbs5 x v hi lo (gI y.cells 4) hr ha,zhs,zct]
      rfl
theorem qb9b {R:Type}{s:Sp}(hb:qn s.b)(hh:qct s.h)(kr:Bool->List AV->List AV->List AV->Option R):
 qcw s.h s.b s.h s.z kr=kr (lost s.b s.h) s.b s.h s.z:=by
 rw[qkg];unfold qb3
 rw[qlp];unfold qb8
 rw[qke]
 have key:=qb0 (σ:=List AV×List AV×List AV) s.h hh.1 (fun k i t=>qbi s.h (s.h.length:Int) (fun b0_0q1 b0_1q2 b0_2q3=>(fun v4q1 b0_0q2 b0_1q3 b0_2q4=>(kr (decide (v4q1>=0)) b0_0q2 b0_1q3 b0_2q4)) (-1:Int) b0_0q1 b0_1q2 b0_2q3) (fun v4q1 b0_0q2 b0_1q3 b0_2q4=>(kr (decide (v4q1>=0)) b0_0q2 b0_1q3 b0_2q4)) k i t.1 t.2.1 t.2.2)
  (fun i t nx=>qbh s.h (s.h.length:Int) i t.1 t.2.1 t.2.2 (fun i a b c=>nx i (a,b,c)) (fun b0_0q1 b0_1q2 b0_2q3=>(fun v4q1 b0_0q2 b0_1q3 b0_2q4=>(kr (decide (v4q1>=0)) b0_0q2 b0_1q3 b0_2q4)) (-1:Int) b0_0q1 b0_1q2 b0_2q3) (fun v4q1 b0_0q2 b0_1q3 b0_2q4=>(kr (decide (v4q1>=0)) b0_0q2 b0_1q3 b0_2q4))) (fun _ _ _=>rfl)
  (fun _ t=>t=(s.b,s.h,s.z)) (fun r _=>kr (lost s.b r) s.b s.h s.z) ?_ ?_ (s.b,s.h,s.z) FU rfl (qca (by have:=hh.1;omega))
 · exact key
 · intro t nx ht;subst ht;simp[qbh,lost]
 · intro i y r t nx h1 h2 h3 h4 ht h5
   subst ht
   have hy:=hh.2 y (zmg h2)
   have h6:(i:Int)<(s.h.length:Int):=by omega
   unfold qbh
   simp only[h6,zdt,zct,zin,h2,zos,hy.1,h4]
   rw[qbli];unfold qq1
   rw[qbfm s.b hb,zos]
   simp only[h5 _ rfl]
   have e:lost s.b (y::r)=((!blkd s.b (gB y.cells 1) (gI y.cells 2) (gI y.cells 3))||lost s.b r):=rfl
   rw[e]
   have:decide ((i:Int)>=0)=true:=by simp
   cases blkd s.b (gB y.cells 1) (gI y.cells 2) (gI y.cells 3)<;>simp[this]
theorem qb3p {s:Sp}{n:LU}{v:Bool}{hi lo t:Int}(h:(qyo s n v hi lo t).2≠0):(qyo s n v hi lo t).1=sp0:=by
 unfold qyo at*
 cases h1:(qfg [mkH n v hi lo t] != 0)
 case true=>rfl
 cases h2:s.h.any (atH n v hi lo)
 case true=>rfl
 cases h3:decide ((s.h.length:Int)>=256)
 case true=>rfl
 cases h4:blkd s.b v hi lo
 case false=>rfl
 cases h5:qge s.z n
 case false=>rfl
 rw[h1,h2,h3,h4,h5]at h
 exact absurd rfl h
theorem qb3q {s:Sp}{n:LU}{v:Bool}{hi lo:Int}(h:(qpf s n v hi lo).2.2≠0):(qpf s n v hi lo).1=sp0:=by
 unfold qpf at*
 cases hk:idxO (atH n v hi lo) s.h with
 |none=>rfl
 |some k=>rw[hk]at h;exact absurd rfl h
theorem qb3r {s:Sp}{n:LU}{v:Bool}{hi lo:Int}{x:LU}(h:(q3c s n v hi lo x).2≠0):(q3c s n v hi lo x).1=sp0:=by
 unfold q3c at*
 cases hk:idxO (atH n v hi lo) s.h with
 |none=>rfl
 |some k=>
  rw[hk]at h
  simp only at h⊢
  cases h1:qsn x
  case true=>rfl
  cases h2:s.h.any (atH x v hi lo)
  case true=>rfl
  cases h3:qge s.z x
  case false=>rfl
  rw[h1,h2,h3]at h
  exact absurd rfl h
theorem qb1n (r:Sp×Int)(h:r.2≠0->r.1=sp0):(bif r.2 != 0 then(some ((.agg [(.sl 8 []),(.sl 5 []),(.sl 1 [])]),r.2):Option (AV×Int))else some ((.agg [(.sl 8 r.1.b),(.sl 5 r.1.h),(.sl 1 r.1.z)]),0))=some (r.1.av,r.2):=by
 obtain⟨x,e⟩:=r
 by_cases he:e=0
 · subst he;rfl
 · have h1:=h he
   simp only at h1
   subst h1
   have:(e != 0)=true:=by simpa using he
   simp only[this,zct];rfl
theorem qbs8 {s:Sp}(w:Wk s)(c:Chg)(hc:CFit c):qfq s.b s.h s.z c.k c.v c.hi c.lo c.bits c.bk c.nm c.ow c.vl c.nb c.po c.hn c.hv c.hhi c.hlo c.ht c.tx=some ((qc3 s c).1.av,(qc3 s c).2):=by
 rw[qbpv];unfold qv0 qc3
 rw[qb89 c,zos]
 have e1:(!q7m c.k|| !eqC (q5o c) c)= !okC c:=by unfold okC;cases q7m c.k<;>rfl
 change (bif(!q7m c.k|| !eqC (q5o c) c)then _ else _)=_
 rw[e1]
 cases ho:okC c with
 |false=>rfl
 |true=>
  simp only[znt,zcf,zct,qb1m w,zos,spf0,spf1,spf2,zhs,zas]
  rw[qbgs];unfold qol qbv5
  simp only[zhs,zct,zas]
  cases h1:(c.k==1)with
  |true=>
   simp only[zct]
   rw[qb6f s.b w.f.b (by have:=w.nb;omega) w.tb c.v c.hi c.lo c.bits c.bk c.nm c.ow c.vl ⟨rfl,hc.u1,hc.u2,hc.n1,hc.n2⟩]
   simp only[zos]
   rw[show mkB c.v c.hi c.lo c.bits c.bk c.nm c.ow c.vl=blkC c from rfl]
   cases he:((addF s.b (blkC c)).2 != 0)<;>rfl
  |false=>
  simp only[zcf]
  cases h2:(c.k==2)with
  |true=>
   simp only[zct]
   rw[qb44 s.b w.f.b (by have:=w.nb;omega) w.tb]
   simp only[zos]
   rw[qbgq];unfold qok
   cases he:((qce s.b c.v c.hi c.lo c.bits).2 != 0)with
   |true=>
    have:((qce s.b c.v c.hi c.lo c.bits).2==0)=false:=by simpa using he
    simp only[this,zcf,he,zct];rfl
   |false=>
    have:((qce s.b c.v c.hi c.lo c.bits).2==0)=true:=by simpa using he
    have h0:(qce s.b c.v c.hi c.lo c.bits).2=0:=by simpa using he
    simp only[this,zct,he,zcf]
    obtain⟨r1,_,_⟩:=qban w.f.b w.tb h0
    rw[qb9b (s:=⟨(qce s.b c.v c.hi c.lo c.bits).1,s.h,s.z⟩) r1 w.f.h]
    cases hl:lost (qce s.b c.v c.hi c.lo c.bits).1 s.h<;>rfl
  |false=>
  simp only[zcf]
  cases h3:(c.k==3)with
  |true=>
   simp only[zct]
   rw[qb1g s.b w.f.b w.tb w.nb ⟨c.v,c.hi,c.lo,c.bits⟩ c.nb c.po c.nm c.ow hc.n1 hc.n2]
   simp only[zos]
   cases he:((qnn s.b ⟨c.v,c.hi,c.lo,c.bits⟩ c.nb c.po c.nm c.ow).2.2 != 0)<;>rfl
  |false=>
  simp only[zcf]
  cases h4:(c.k==4)with
  |true=>
   simp only[zct,qb3n w c.hn c.hv c.hhi c.hlo c.ht hc.u3 hc.u4 hc.n3,zos,spf0,spf1,spf2,zhs]
   exact qb1n (qyo s c.hn c.hv c.hhi c.hlo c.ht) qb3p
  |false=>
  simp only[zcf]
  cases h5:(c.k==5)with
  |true=>
   simp only[zct,qbkl w c.hn c.hv c.hhi c.hlo c.ht hc.n3,zos,spf0,spf1,spf2,zhs]
   exact qb1n ((qpf s c.hn c.hv c.hhi c.hlo).1,(qpf s c.hn c.hv c.hhi c.hlo).2.2) qb3q
  |false=>
  have h6:(c.k==6)=true:=by
   unfold okC q7m at ho
   rw[h1,h2,h3,h4,h5]at ho
   cases h:(c.k==6)
   · rw[h]at ho;cases ho
   · rfl
  simp only[zcf,h6,zct,qb5s w c.hn c.hv c.hhi c.hlo c.ht c.tx hc.n3 hc.n4,zos,spf0,spf1,spf2,zhs]
  exact qb1n (q3c s c.hn c.hv c.hhi c.hlo c.tx) qb3r
def qb1o:Ty:=.st [.str,qbrg,.int .i64]
def qb1p:Ty:=.str
theorem hstsFit_of {l:LA}(h:l.length<=9223372036854775807/\∀y,y∈l->fitC qb1o.lts y.cells=true/\qb1o.good y.cells 0):qct l:=
 ⟨h.1,fun y hy=>by
  obtain⟨h1,h2⟩:=h.2 y hy
  simp only[qb1o,qbrg,Ty.good.goods,Ty.good,Ty.size,Ty.sizes,Nat.zero_add,Nat.reduceAdd,and_true,true_and]at h2
  exact⟨h1,h2.2.1.1,h2.2.1.2,h2.1⟩⟩
theorem zonsFit_of {l:LA}(h:l.length<=9223372036854775807/\∀y,y∈l->fitC qb1p.lts y.cells=true/\qb1p.good y.cells 0):qn7 l:=
 ⟨h.1,fun y hy=>by
  obtain⟨h1,h2⟩:=h.2 y hy
  simp only[qb1p,Ty.good]at h2
  exact⟨h1,h2⟩⟩
theorem wk0:Wk sp0:=⟨⟨⟨by decide,fun y hy=>by cases hy⟩,⟨by decide,fun y hy=>by cases hy⟩,⟨by decide,fun y hy=>by cases hy⟩⟩,by decide,fun j y h=>(by cases h),by decide,List.Pairwise.nil,by decide⟩
def exC1:Chg:=⟨1,false,0,167772160,8,1,[110,101,116],[],0,0,0,[],false,0,0,0,[]⟩
def exC2:Chg:=⟨2,false,0,167772160,8,0,[],[],0,0,0,[],false,0,0,0,[]⟩
theorem qb91:CFit exC1:=⟨⟨by decide,by decide⟩,⟨by decide,by decide⟩,⟨by decide,by decide⟩,⟨by decide,by decide⟩,by decide,by decide,by decide,by decide⟩
theorem qb92:CFit exC2:=⟨⟨by decide,by decide⟩,⟨by decide,by decide⟩,⟨by decide,by decide⟩,⟨by decide,by decide⟩,by decide,by decide,by decide,by decide⟩
theorem exA1:qc3 sp0 exC1=(⟨[blkC exC1],[],[]⟩,0):=by kernel_rfl
theorem exA2:qc3 sp0 exC2=(sp0,11):=by kernel_rfl
theorem exP1:qfq [] [] [] 1 false 0 167772160 8 1 [110,101,116] [] 0 0 0 [] false 0 0 0 []=some ((Sp.mk [blkC exC1] [] []).av,0):=by
 have:=qbs8 wk0 exC1 qb91
 rw[exA1]at this;exact this
theorem exP2:qfq [] [] [] 2 false 0 167772160 8 0 [] [] 0 0 0 [] false 0 0 0 []=some (sp0.av,11):=by
 have:=qbs8 wk0 exC2 qb92
 rw[exA2]at this;exact this
theorem exI1:qv2 [] [] [] 1 false 0 167772160 8 1 [110,101,116] [] 0 0 0 [] false 0 0 0 []=some (exC2.av,0):=by
 rw[qbl0];unfold qq8
 rw[exP1];rfl
theorem qb3s:qqe=some true:=by
 rw[qbl1];unfold qq9
 have ht:qzx 8=some (.agg [(.bool false),(.int .u64 0),(.int .u64 (167772160:Int)),(.int .i64 8)]):=by
  rw[qbo7];rfl
 rw[ht]
 simp only[zos]
 rw[show qfq [] [] [] 1 (gB (AV.agg [(.bool false),(.int .u64 0),(.int .u64 (167772160:Int)),(.int .i64 8)]).cells 0) (gI (AV.agg [(.bool false),(.int .u64 0),(.int .u64 (167772160:Int)),(.int .i64 8)]).cells 1) (gI (AV.agg [(.bool false),(.int .u64 0),(.int .u64 (167772160:Int)),(.int .i64 8)]).cells 2) (gI (AV.agg [(.bool false),(.int .u64 0),(.int .u64 (167772160:Int)),(.int .i64 8)]).cells 3) 1 [110,101,116] [] 0 0 0 [] false 0 0 0 []=some ((Sp.mk [blkC exC1] [] []).av,0)from exP1]
 rw[show qfq [] [] [] 2 (gB (AV.agg [(.bool false),(.int .u64 0),(.int .u64 (167772160:Int)),(.int .i64 8)]).cells 0) (gI (AV.agg [(.bool false),(.int .u64 0),(.int .u64 (167772160:Int)),(.int .i64 8)]).cells 1) (gI (AV.agg [(.bool false),(.int .u64 0),(.int .u64 (167772160:Int)),(.int .i64 8)]).cells 2) (gI (AV.agg [(.bool false),(.int .u64 0),(.int .u64 (167772160:Int)),(.int .i64 8)]).cells 3) 0 [] [] 0 0 0 [] false 0 0 0 []=some (sp0.av,11)from exP2]
 rw[show qv2 [] [] [] 1 (gB (AV.agg [(.bool false),(.int .u64 0),(.int .u64 (167772160:Int)),(.int .i64 8)]).cells 0) (gI (AV.agg [(.bool false),(.int .u64 0),(.int .u64 (167772160:Int)),(.int .i64 8)]).cells 1) (gI (AV.agg [(.bool false),(.int .u64 0),(.int .u64 (167772160:Int)),(.int .i64 8)]).cells 2) (gI (AV.agg [(.bool false),(.int .u64 0),(.int .u64 (167772160:Int)),(.int .i64 8)]).cells 3) 1 [110,101,116] [] 0 0 0 [] false 0 0 0 []=some (exC2.av,0)from exI1]
 rfl
def qb1q (b h z l:LA):Bool:=(((decide ((b.length:Int)>(40:Int)))||(decide ((h.length:Int)>(40:Int))))||(decide ((z.length:Int)>(40:Int))))||(decide ((l.length:Int)>(68:Int)))
theorem qb7u (b h z l:LA):qta b h z l=some (qb1q b h z l):=by rw[qbhk];rfl
theorem qb9c (l:LA)(hl:qn l)(a b c d:LA)(kx:Unit->Option Bool):qw2 (l.length:Int) l a b l c d kx FU 0=kx ():=by
 rw[qbd1,qfx l hl.1 (qj6 (l.length:Int) l a b l c d kx) (fun i nx=>qj5 (l.length:Int) i l a b l c d nx kx) (fun _ _=>rfl) (fun r=>kx ())]
 · intro nx;simp[qj5]
 · intro i y r nx h1 h2 h3 h4 h5
   have hy:=hl.2 y (zmg h2)
   have h6:(i:Int)<(l.length:Int):=by omega
   unfold qj5
   simp only[h6,zdt,zct,zin,h2,zos,hy.1,h4,h5,beq_self_eq_true,zas,znt,zcf]
theorem qb9d (l:LA)(hl:qct l)(a b c d:LA)(kx:Unit->Option Bool):qw3 (l.length:Int) a l b c l d kx FU 0=kx ():=by
 rw[qbd2,qfx l hl.1 (qj8 (l.length:Int) a l b c l d kx) (fun i nx=>qj7 (l.length:Int) i a l b c l d nx kx) (fun _ _=>rfl) (fun r=>kx ())]
 · intro nx;simp[qj7]
 · intro i y r nx h1 h2 h3 h4 h5
   have hy:=hl.2 y (zmg h2)
   have h6:(i:Int)<(l.length:Int):=by omega
   unfold qj7
   simp only[h6,zdt,zct,zin,h2,zos,hy.1,h4,h5,beq_self_eq_true,zas,znt,zcf]
theorem qbyf {l:LA}(hl:qct l)(hn:l.length<=100000){y:AV}(hy:qxw y):qct (insH y l):=⟨by rw[q7l];omega,fun z hz=>by
 rcases qr7.1 hz with rfl|h
 · exact hy
 · exact hl.2 z h⟩
theorem qb0c {l:LA}(hl:qn l)(hn:l.length<=100000){b:AV}(hb:qg7 b):qn (addF l b).1:=by
 rcases qb5f (l:=l) (b:=b)with h|h<;>rw[h]
 · exact⟨by simp,fun y hy=>by cases hy⟩
 · exact qbx2 hl hn hb
theorem qp9:Fits sp0:=wk0.f
theorem qb1r {s:Sp}(w:Wk s){c:Chg}(hc:CFit c):Fits (qc3 s c).1:=by
 unfold qc3
 cases okC c with
 |false=>exact qp9
 |true=>
 simp only[zct]
 unfold qbv5
 cases(c.k==1)with
 |true=>
  simp only[zct]
  cases((addF s.b (blkC c)).2 != 0)with
  |true=>exact qp9
  |false=>exact⟨qb0c w.f.b (by have:=w.nb;omega) ⟨rfl,hc.u1,hc.u2,hc.n1,hc.n2⟩,w.f.h,w.f.z⟩
 |false=>
 simp only[zcf]
 cases(c.k==2)with
 |true=>
  simp only[zct]
  cases he:((qce s.b c.v c.hi c.lo c.bits).2 != 0)with
  |true=>exact qp9
  |false=>
   have h0:(qce s.b c.v c.hi c.lo c.bits).2=0:=by simpa using he
   simp only[zcf]
   cases lost (qce s.b c.v c.hi c.lo c.bits).1 s.h with
   |true=>exact qp9
   |false=>exact⟨(qban w.f.b w.tb h0).1,w.f.h,w.f.z⟩
 |false=>
 simp only[zcf]
 cases(c.k==3)with
 |true=>
  simp only[zct]
  cases((qnn s.b ⟨c.v,c.hi,c.lo,c.bits⟩ c.nb c.po c.nm c.ow).2.2 != 0)with
  |true=>exact qp9
  |false=>
   refine⟨?_,w.f.h,w.f.z⟩
   show qn (qnn s.b ⟨c.v,c.hi,c.lo,c.bits⟩ c.nb c.po c.nm c.ow).1
   have nil:qn []:=qp9.b
   unfold qnn
   rcases q7k (qf4 w.f.b w.tb) ⟨c.v,c.hi,c.lo,c.bits⟩ c.nb c.po with⟨e,he,hne⟩|⟨q,hq,hch⟩
   · rw[he]
     have:(e != 0)=true:=by simpa using hne
     simp only[this,zct];exact nil
   · rw[hq]
     obtain⟨w0,w1,w2,w3⟩:=av_w q
     simp only[bne_self_eq_false,zcf,w0,w1,w2,w3]
     cases(addF s.b (mkB q.v q.hi q.lo q.bits 2 c.nm c.ow 0)).2 != 0 with
     |true=>exact nil
     |false=>exact qb0c w.f.b (by have:=w.nb;omega) (qbs2 hch.good hc.n1 hc.n2)
 |false=>
 simp only[zcf]
 cases(c.k==4)with
 |true=>
  simp only[zct]
  unfold qyo
  cases(qfg [mkH c.hn c.hv c.hhi c.hlo c.ht] != 0)
  case true=>exact qp9
  cases s.h.any (atH c.hn c.hv c.hhi c.hlo)
  case true=>exact qp9
  cases decide ((s.h.length:Int)>=256)
  case true=>exact qp9
  cases blkd s.b c.hv c.hhi c.hlo
  case false=>exact qp9
  cases qge s.z c.hn
  case false=>exact qp9
  exact⟨w.f.b,qbyf w.f.h (by have:=w.nh;omega) (qbs7 hc.u3 hc.u4 hc.n3),w.f.z⟩
 |false=>
 simp only[zcf]
 cases(c.k==5)with
 |true=>
  simp only[zct]
  unfold qpf
  cases idxO (atH c.hn c.hv c.hhi c.hlo) s.h with
  |none=>exact qp9
  |some k=>exact(w.out k).f
 |false=>
  simp only[zcf]
  unfold q3c
  cases idxO (atH c.hn c.hv c.hhi c.hlo) s.h with
  |none=>exact qp9
  |some k=>
   simp only
   cases qsn c.tx
   case true=>exact qp9
   cases s.h.any (atH c.tx c.hv c.hhi c.hlo)
   case true=>exact qp9
   cases qge s.z c.tx
   case false=>exact qp9
   have wo:=w.out k
   exact⟨w.f.b,qbyf wo.f.h (Nat.le_trans wo.nh (by decide)) (qbs7 hc.u3 hc.u4 hc.n4),w.f.z⟩
end Go.Proofs.YtoaaphlopbabeaaGreatDoor.Dn
