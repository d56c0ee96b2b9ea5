import Derived.Test.YtoaaphlopbabeaaGreatDoorCUDn51
import Derived.Test.YtoaaphlopbabeaaGreatDoorCULibD
set_option linter.all false
namespace Go.Proofs.YtoaaphlopbabeaaGreatDoor.Dn
open Go Go.Pev
set_option maxRecDepth 4000
def qhk (v6:Bool)(hi lo:Int):Bool:=v6||(hi==0&&decide (lo<4294967296))
def qk (v6:Bool):Int:=if v6 then 128 else 32
def qbnf (p:Int×Int):Int×Int:=(IntKind.u64.wrap (IntKind.u64.wrap (p.1*2)+IntKind.u64.wrap (p.2.tdiv 9223372036854775808)),IntKind.u64.wrap (IntKind.u64.wrap (p.2*2)+1))
def qhv:Nat->Int×Int
 |0=>(0,0)
 |n+1=>qbnf (qhv n)
def qef (v6:Bool)(hi lo bits:Int):Bool:=
 qhk v6 hi lo&&decide (0<=bits)&&decide (bits<=qk v6)&&(qbq .and .u64 hi (qhv (qk v6-bits).toNat).1==0)&&(qbq .and .u64 lo (qhv (qk v6-bits).toNat).2==0)
def uok (x:Int):Prop:=0<=x/\x<=18446744073709551615
theorem q8p (n:Nat)(h:n<18446744073709551616):IntKind.u64.wrap (n:Int)=n:=wu64 (by omega) (by omega)
theorem qtb {x:Int}(h:uok x):((BitVec.ofInt 64 x).toNat:Int)=x:=by
 obtain⟨h1,h2⟩:=h
 rw[BitVec.toNat_ofInt]
 omega
theorem q5d (x y:Int):qbq .and .u64 x y=((BitVec.ofInt 64 x&&& BitVec.ofInt 64 y).toNat:Int):=by
 have:=(BitVec.ofInt 64 x&&& BitVec.ofInt 64 y).isLt
 show IntKind.u64.wrap ((BitVec.ofInt 64 x&&& BitVec.ofInt 64 y).toNat:Int)=_
 exact q8p _ (by omega)
theorem qboo (x y:Int):qbq .or .u64 x y=((BitVec.ofInt 64 x|||BitVec.ofInt 64 y).toNat:Int):=by
 have:=(BitVec.ofInt 64 x|||BitVec.ofInt 64 y).isLt
 show IntKind.u64.wrap ((BitVec.ofInt 64 x|||BitVec.ofInt 64 y).toNat:Int)=_
 exact q8p _ (by omega)
theorem qx3 (x y:Int):qbq .andNot .u64 x y=((BitVec.ofInt 64 x&&& ~~~BitVec.ofInt 64 y).toNat:Int):=by
 have:=(BitVec.ofInt 64 x&&& ~~~BitVec.ofInt 64 y).isLt
 show IntKind.u64.wrap ((BitVec.ofInt 64 x&&& ~~~BitVec.ofInt 64 y).toNat:Int)=_
 exact q8p _ (by omega)
theorem qrw (a b:BitVec 64):(a&&& b).toNat+(a&&& ~~~b).toNat=a.toNat:=by
 have h1:(a&&& b)&&& (a&&& ~~~b)=0#64:=by
  ext i hi
  simp
  intro _ h _
  exact h
 have h2:(a&&& b)|||(a&&& ~~~b)=a:=by
  ext i hi
  simp
  cases a[i]<;>cases b[i]<;>rfl
 have h3:=BitVec.add_eq_or_of_and_eq_zero _ _ h1
 rw[h2]at h3
 have h4:=congrArg BitVec.toNat h3
 rw[BitVec.toNat_add]at h4
 have e1:(a&&& b).toNat<=a.toNat:=by rw[BitVec.toNat_and];exact Nat.and_le_left
 have e2:=(a&&& ~~~b).isLt
 have e3:=a.isLt
 omega
theorem qbl2 (a b:BitVec 64)(h:(a&&& b).toNat=0):a.toNat+b.toNat=(a|||b).toNat:=by
 have h1:a&&& b=0#64:=BitVec.eq_of_toNat_eq h
 have h2:=congrArg BitVec.toNat (BitVec.add_eq_or_of_and_eq_zero _ _ h1)
 rw[BitVec.toNat_add]at h2
 have h3:=qrw a b
 have h4:(a&&& ~~~b).toNat<=(~~~b).toNat:=by rw[BitVec.toNat_and];exact Nat.and_le_right
 rw[BitVec.toNat_not]at h4
 have e3:=b.isLt
 omega
theorem qbhb {x y:Int}(hx:uok x)(hy:uok y)(h:qbq .and .u64 x y=0):x+y=qbq .or .u64 x y:=by
 rw[q5d]at h
 rw[qboo]
 have e1:=qtb hx
 have e2:=qtb hy
 have:=qbl2 (BitVec.ofInt 64 x) (BitVec.ofInt 64 y) (by omega)
 omega
theorem qbl3 (x y:Int):uok (qbq .or .u64 x y):=by
 rw[qboo]
 have:=(BitVec.ofInt 64 x|||BitVec.ofInt 64 y).isLt
 exact⟨by omega,by omega⟩
theorem qbil {x:Int}(h:uok x):qbq .andNot .u64 x 0=x:=by
 rw[qx3]
 have:=qrw (BitVec.ofInt 64 x) (BitVec.ofInt 64 0)
 have h2:=qtb h
 have h3:(BitVec.ofInt 64 x&&& BitVec.ofInt 64 0).toNat=0:=by simp
 omega
theorem qhw (v6:Bool):qk v6<=128:=by unfold qk;split<;>omega
theorem qbqy:∀n:Fin 33,qko false (n.val:Int)=some (qhv (32-n.val)):=by decide+kernel
theorem qbqz:∀n:Fin 129,qko true (n.val:Int)=some (qhv (128-n.val)):=by decide+kernel
theorem qbja {v6:Bool}{bits:Int}(h1:0<=bits)(h2:bits<=qk v6):qq2 v6 bits=some (qhv (qk v6-bits).toNat):=by
 rw[q80]
 obtain⟨n,rfl⟩:=Int.eq_ofNat_of_zero_le h1
 cases v6 with
 |false=>
  have h3:n<=32:=by simp[qk]at h2;omega
  rw[qbqy ⟨n,by omega⟩]
  congr 2
  simp[qk]<;>omega
 |true=>
  have h3:n<=128:=by simp[qk]at h2;omega
  rw[qbqz ⟨n,by omega⟩]
  congr 2
  simp[qk]<;>omega
theorem q8q (v6:Bool)(hi lo:Int):qq1 v6 hi lo=some (qhk v6 hi lo):=by
 rw[qbev];unfold qq0 qhk
 have:decide (lo<=4294967295)=decide (lo<4294967296):=by apply decide_eq_decide.2;omega
 cases v6<;>cases(hi==0)<;>simp[this]
theorem qwn (v6:Bool)(hi lo:Int):qja v6 hi lo=some (qk v6):=by
 rw[q7n];unfold qml qk
 cases v6<;>rfl
theorem qwo (v6:Bool)(hi lo bits:Int):qg6 v6 hi lo bits=some (qef v6 hi lo bits):=by
 rw[q81];unfold qnz
 simp only[q3a,qj6,q8q,qwn,oB_s]
 unfold qef
 cases h1:qhk v6 hi lo
 · simp
 · by_cases h2:bits<0
   · have:¬0<=bits:=by omega
     simp[h2,this]
   · have h2':0<=bits:=by omega
     by_cases h3:qk v6<bits
     · have:¬bits<=qk v6:=by omega
       simp[h2,h3,this]
     · have h3':bits<=qk v6:=by omega
       simp[h2,h3,h2',h3',qbja h2' h3']
def qjz (v6:Bool)(hi lo bits:Int)(w6:Bool)(ahi alo:Int):Bool:=
 qef v6 hi lo bits&&(qhk w6 ahi alo&&((v6==w6)&&((qbq .andNot .u64 ahi (qhv (qk v6-bits).toNat).1==hi)&&(qbq .andNot .u64 alo (qhv (qk v6-bits).toNat).2==lo))))
theorem qeg {v6:Bool}{hi lo bits:Int}(h:qef v6 hi lo bits=true):0<=bits/\bits<=qk v6/\qhk v6 hi lo=true:=by
 simp[qef]at h
 exact⟨h.1.1.1.2,h.1.1.2,h.1.1.1.1⟩
theorem qbrw {w6:Bool}{ahi alo bits:Int}(h1:0<=bits)(h2:bits<=qk w6):q3d w6 ahi alo bits=some (bif qhk w6 ahi alo then(.agg [(.bool w6),(.int .u64 (qbq .andNot .u64 ahi (qhv (qk w6-bits).toNat).1)),(.int .u64 (qbq .andNot .u64 alo (qhv (qk w6-bits).toNat).2)),(.int .i64 bits)],true)else(.agg [(.bool false),(.int .u64 0),(.int .u64 0),(.int .i64 0)],false)):=by
 rw[qbfs];unfold qsz
 have a1:¬bits<0:=by omega
 have a2:¬qk w6<bits:=by omega
 simp only[q86,qn4,q8q,qwn,oB_s,qbja h1 h2]
 cases qhk w6 ahi alo<;>simp[a1,a2]
theorem q7i (v6:Bool)(hi lo bits:Int)(w6:Bool)(ahi alo:Int):qmn v6 hi lo bits w6 ahi alo=some (qjz v6 hi lo bits w6 ahi alo):=by
 rw[q3e];unfold qj7 qjz
 simp only[qwo,oB_s]
 cases h1:qef v6 hi lo bits
 · simp
 · obtain⟨h2,h3,_⟩:=qeg h1
   by_cases h4:v6=w6
   · subst h4
     rw[qbrw h2 h3]
     cases qhk v6 ahi alo<;>simp[gB,gI,gC,aB,aI,AV.cells]
   · have h6:(v6==w6)=false:=by simpa using h4
     simp[h6]
def ql6 (v6:Bool)(hi lo bits:Int)(w6:Bool)(whi wlo wbits:Int):Bool:=
 qef v6 hi lo bits&&(decide (bits>=wbits)&&qjz w6 whi wlo wbits v6 hi lo)
theorem q5e (v6:Bool)(hi lo bits:Int)(w6:Bool)(whi wlo wbits:Int):qjb v6 hi lo bits w6 whi wlo wbits=some (ql6 v6 hi lo bits w6 whi wlo wbits):=by
 rw[q7q];unfold qmo ql6
 simp only[qwo,q7i,oB_s]
 cases h1:qef v6 hi lo bits
 · simp
 · cases h2:qef w6 whi wlo wbits
   · simp[qjz,h2]
   · cases h3:decide (bits>=wbits)<;>simp
def qkx (y:AV):Prop:=fitC qc y.cells=true/\uok (gI y.cells 1)/\uok (gI y.cells 2)/\(gS y.cells 5).length<=9223372036854775807/\(gS y.cells 6).length<=9223372036854775807
def qbb (l:LA):Prop:=l.length<=9223372036854775807/\∀y,y∈l->qkx y
def q5f:Ty:=.st [.bool,.int .u64,.int .u64]
def qbhc:Ty:=.st [q5f,.int .i64]
def qba7:Ty:=.st [qbhc,.int .i64,.str,.str,.int .i64]
theorem blksFit_of {l:LA}(h:l.length<=9223372036854775807/\∀y,y∈l->fitC qba7.lts y.cells=true/\qba7.good y.cells 0):qbb l:=
 ⟨h.1,fun y hy=>by
  obtain⟨h1,h2⟩:=h.2 y hy
  simp only[qba7,qbhc,q5f,Ty.good.goods,Ty.good,Ty.size,Ty.sizes,Nat.zero_add,Nat.reduceAdd,and_true,true_and]at h2
  obtain⟨⟨⟨h3,h4⟩,h5⟩,h6,h7,h8,h9⟩:=h2
  exact⟨h1,h3,h4,h7,h8⟩⟩
def qrx (s:LU):Bool:=s.all fun c=>decide (33<=c.toNat)&&decide (c.toNat<=126)
def mayB (y:AV):Bool:=
 bif(bif decide (gI y.cells 4<1)then true else bif decide (gI y.cells 4>3)then true else bif gI y.cells 4==3 then gI y.cells 3 != qk (gB y.cells 0)else false)then false
 else bif(decide (((gS y.cells 5).length:Int)>=1)&&decide (((gS y.cells 5).length:Int)<=63))then(bif(qrx (gS y.cells 5)&&decide (((gS y.cells 6).length:Int)<=32))then((qrx (gS y.cells 6)&&decide (gI y.cells 7>=0))&&decide (gI y.cells 7<=4294967295))else false)else false
theorem q1e {α:Type}(p:Bool)(a b:α):(bif p then some a else some b)=some (bif p then a else b):=by cases p<;>rfl
def cmpA (v6:Bool)(hi lo:Int)(w6:Bool)(whi wlo:Int):Int:=
 bif(!((v6==w6)&&true))then(bif w6 then-1 else 1)else bif(hi != whi)then(bif decide (hi<whi)then-1 else 1)else bif decide (lo<wlo)then-1 else bif decide (lo>wlo)then 1 else 0
def cmpP (v6:Bool)(hi lo bits:Int)(w6:Bool)(whi wlo wbits:Int):Int:=
 bif(cmpA v6 hi lo w6 whi wlo != 0)then cmpA v6 hi lo w6 whi wlo else bif decide (bits<wbits)then-1 else bif decide (bits>wbits)then 1 else 0
def ltP (v6:Bool)(hi lo bits:Int)(w6:Bool)(whi wlo wbits:Int):Prop:=
 (v6=false/\w6=true)\/(v6=w6/\(hi<whi\/(hi=whi/\(lo<wlo\/(lo=wlo/\bits<wbits)))))
theorem qtu {a:Bool}{b c d:Int}{a':Bool}{b' c' d':Int}{a2:Bool}{b2 c2 d2:Int}(h1:ltP a b c d a' b' c' d')(h2:ltP a' b' c' d' a2 b2 c2 d2):ltP a b c d a2 b2 c2 d2:=by
 unfold ltP at*
 rcases h1 with⟨rfl,rfl⟩|⟨rfl,h1⟩
 · rcases h2 with⟨h,_⟩|⟨rfl,_⟩
   · cases h
   · exact .inl ⟨rfl,rfl⟩
 · rcases h2 with⟨rfl,rfl⟩|⟨rfl,h2⟩
   · exact .inl ⟨rfl,rfl⟩
   · exact .inr ⟨rfl,by omega⟩
theorem qe0 {a:Bool}{b c d:Int}:¬ltP a b c d a b c d:=by
 unfold ltP
 rintro(⟨rfl,h⟩|⟨_,h⟩)
 · cases h
 · omega
def atP (v6:Bool)(hi lo bits:Int)(y:AV):Bool:=(gB y.cells 0==v6)&&((gI y.cells 1==hi)&&((gI y.cells 2==lo)&&((gI y.cells 3==bits)&&true)))
theorem qit {v6:Bool}{hi lo bits:Int}{y:AV}:atP v6 hi lo bits y=true↔gB y.cells 0=v6/\gI y.cells 1=hi/\gI y.cells 2=lo/\gI y.cells 3=bits:=by simp[atP]
def ltY (y z:AV):Prop:=ltP (gB y.cells 0) (gI y.cells 1) (gI y.cells 2) (gI y.cells 3) (gB z.cells 0) (gI z.cells 1) (gI z.cells 2) (gI z.cells 3)
def qj0 (y:AV):Bool:=qef (gB y.cells 0) (gI y.cells 1) (gI y.cells 2) (gI y.cells 3)
def qzt (y z:AV):Bool:=ql6 (gB y.cells 0) (gI y.cells 1) (gI y.cells 2) (gI y.cells 3) (gB z.cells 0) (gI z.cells 1) (gI z.cells 2) (gI z.cells 3)
def qb4 (y z:AV):Bool:=bif(qzt y z&&decide (gI y.cells 3>gI z.cells 3))then(bif gI z.cells 4==3 then true else bif gI z.cells 4==2 then gI y.cells 4 != 3 else false)else false
structure Row (l:LA)(j:Nat)(y:AV):Prop where
 p:qj0 y=true
 may:mayB y=true
 lt:∀i z,j=i+1->l[i]?=some z->ltY z y
 bar:∀k z,k<j->l[k]?=some z->qb4 y z=false
def qct (l:LA):Prop:=∀j y,l[j]?=some y->Row l j y
def blkV (y:AV):AV:=.agg [(.bool (gB y.cells 0)),(.int .u64 (gI y.cells 1)),(.int .u64 (gI y.cells 2)),(.int .i64 (gI y.cells 3)),(.int .i64 (gI y.cells 4)),(.str (gS y.cells 5)),(.str (gS y.cells 6)),(.int .i64 (gI y.cells 7))]
def blk0:AV:=.agg [(.bool false),(.int .u64 0),(.int .u64 0),(.int .i64 0),(.int .i64 0),(.str []),(.str []),(.int .i64 0)]
def qx4 (l:LA)(v6:Bool)(hi lo bits:Int):AV×Bool:=match l.find? (atP v6 hi lo bits)with
 |some y=>(blkV y,true)
 |none=>(blk0,false)
def idxO (q:AV->Bool):List AV->Option Nat
 |[]=>none
 |y::r=>if q y then some 0 else(idxO q r).map (· +1)
theorem qio {q:AV->Bool}:∀(l:LA) (k:Nat),idxO q l=some k->∃y,l[k]?=some y/\l.find? q=some y
 |y::r,k,h=>by
  unfold idxO at h
  cases hq:q y with
  |true=>simp[hq]at h;subst h;exact⟨y,rfl,by simp[hq]⟩
  |false=>
   simp[hq]at h
   obtain⟨k',h1,rfl⟩:=h
   obtain⟨z,h2,h3⟩:=qio r k' h1
   exact⟨z,by simpa using h2,by simp[hq,h3]⟩
theorem qbd6 {q:AV->Bool}:∀(l:LA),idxO q l=none->l.find? q=none
 |[],_=>rfl
 |y::r,h=>by
  unfold idxO at h
  cases hq:q y with
  |true=>simp[hq]at h
  |false=>simp[hq]at h;simp[List.find?_cons,hq];simpa using qbd6 r h
def idxI (q:AV->Bool)(l:LA):Int:=match idxO q l with
 |some k=>(k:Int)
 |none=> -1
theorem q8r (l:LA)(hl:qbb l)(v6:Bool)(hi lo bits:Int):qni l v6 hi lo bits=some (idxI (atP v6 hi lo bits) l):=by
 rw[q84];unfold qn3
 rw[qgy];unfold qbr
 rw[qf4]
 have key:=qe6 l hl.1 (fun n i (s:Bool×Int×Int×Int)=>qz l (l.length:Int) (fun b0_0 b0_1 b0_2 b0_3=>some (-1:Int)) (fun v4q1 b0_0q2 b0_1q3 b0_2q4 b0_3q5=>some v4q1) n i s.1 s.2.1 s.2.2.1 s.2.2.2)
  (fun i s nx=>qy l (l.length:Int) i s.1 s.2.1 s.2.2.1 s.2.2.2 (fun a b c d e=>nx a (b,c,d,e)) (fun b0_0 b0_1 b0_2 b0_3=>some (-1:Int)) (fun v4q1 b0_0q2 b0_1q3 b0_2q4 b0_3q5=>some v4q1)) (fun _ _ _=>rfl)
  (fun i s=>s=(v6,hi,lo,bits)) (fun r s=>some (match idxO (atP v6 hi lo bits) r with|some k=>((l.length-r.length+k:Nat):Int)|none=> -1)) ?_ ?_ (v6,hi,lo,bits) FU rfl (qgo (by have:=hl.1;omega))
 · refine key.trans ?_
   unfold idxI
   cases idxO (atP v6 hi lo bits) l<;>simp
 · intro s nx hs
   simp[qy,idxO]
 · rintro i y r _ nx h1 h2 h3 h4 rfl h5
   have hy:=hl.2 y (List.mem_of_getElem? h2)
   have h6:(i:Int)<(l.length:Int):=by omega
   have hr:r.length=l.length-(i+1):=by
    have:=congrArg List.length h1
    simp at this
    omega
   unfold qy
   simp only[h6,decide_true,cond_t,ixB_nat,h2,oB_s,hy.1,q58,qk6,h4]
   rw[show((gB y.cells 0==v6)&&((gI y.cells 1==hi)&&((gI y.cells 2==lo)&&((gI y.cells 3==bits)&&true))))=atP v6 hi lo bits y from rfl]
   unfold idxO
   cases hq:atP v6 hi lo bits y with
   |true=>
    simp
    omega
   |false=>
    simp only[cond_f,Bool.false_eq_true,if_false]
    rw[h5 _ rfl]
    cases idxO (atP v6 hi lo bits) r with
    |none=>rfl
    |some k=>simp;omega
theorem q5y (l:LA)(hl:qbb l)(v6:Bool)(hi lo bits:Int):ql2 l v6 hi lo bits=some (qx4 l v6 hi lo bits):=by
 rw[qbb0];unfold qpe qx4
 simp only[q8r l hl,oB_s]
 unfold idxI
 cases hq:idxO (atP v6 hi lo bits) l with
 |none=>
  rw[qbd6 l hq]
  rfl
 |some k=>
  obtain⟨y,h1,h2⟩:=qio l k hq
  have hy:=hl.2 y (List.mem_of_getElem? h1)
  have h3:(k:Int)>=0:=by omega
  rw[h2]
  simp only[h3,decide_true,cond_t,ixB_nat,h1,oB_s,hy.1]
  rfl
theorem qbd7 {x:Int}(m:Int)(h:uok x):qbq .andNot .u64 x m<=x:=by
 rw[qx3]
 have:=qrw (BitVec.ofInt 64 x) (BitVec.ofInt 64 m)
 have h2:=qtb h
 omega
theorem q7j {x m:Int}(h:uok x)(h0:qbq .and .u64 x m=0):qbq .andNot .u64 x m=x:=by
 rw[q5d]at h0
 rw[qx3]
 have:=qrw (BitVec.ofInt 64 x) (BitVec.ofInt 64 m)
 have h2:=qtb h
 omega
theorem qct.sorted {l:LA}(h:qct l)(i:Nat)(y:AV)(hy:l[i]?=some y):∀j z,i<j->l[j]?=some z->ltY y z:=by
 intro j
 induction j with
 |zero=>intro z hj;omega
 |succ j ih=>
  intro z hj hz
  obtain⟨x,hx⟩:∃x,l[j]?=some x:=by
   have:=(List.getElem?_eq_some_iff.1 hz).1
   exact⟨l[j],by simp⟩
  have h1:=(h (j+1) z hz).lt j x rfl hx
  by_cases hij:i=j
  · subst hij
    rw[hy]at hx;cases hx
    exact h1
  · exact qtu (ih x (by omega) hx) h1
theorem qbfe {y z:AV}(hy:qkx y)(hw:qzt y z=true)(hne:atP (gB z.cells 0) (gI z.cells 1) (gI z.cells 2) (gI z.cells 3) y=false):ltY z y/\gI y.cells 3>gI z.cells 3:=by
 unfold qzt ql6 qjz at hw
 simp only[Bool.and_eq_true,beq_iff_eq,decide_eq_true_eq]at hw
 obtain⟨h1,h2,h3,h4,h5,h6,h7⟩:=hw
 have hp:=h1
 simp only[qef,Bool.and_eq_true,beq_iff_eq]at hp
 have hb:gI y.cells 3≠gI z.cells 3:=by
  intro hb
  rw[<-h5,hb]at hp
  rw[q7j hy.2.1 hp.1.2]at h6
  rw[q7j hy.2.2.1 hp.2]at h7
  have:atP (gB z.cells 0) (gI z.cells 1) (gI z.cells 2) (gI z.cells 3) y=true:=qit.2 ⟨h5.symm,h6,h7,hb⟩
  rw[this]at hne
  cases hne
 have a1:=qbd7 (qhv (qk (gB z.cells 0)-gI z.cells 3).toNat).1 hy.2.1
 have a2:=qbd7 (qhv (qk (gB z.cells 0)-gI z.cells 3).toNat).2 hy.2.2.1
 rw[h6]at a1
 rw[h7]at a2
 refine⟨.inr ⟨h5,?_⟩,by omega⟩
 omega
def numP (hi lo:Int):Nat:=hi.toNat*18446744073709551616+lo.toNat
def kOf (v6:Bool)(bits:Int):Nat:=(qk v6-bits).toNat
theorem q1f:(2:Nat)^64=18446744073709551616:=by decide
theorem qbhd (x j:Nat):x&&& (2^j-1)=x%2^j:=Nat.and_two_pow_sub_one_eq_mod x j
theorem qo8 {x:Int}(h:uok x)(j:Nat)(hj:j<=64):qbq .and .u64 x ((2^j-1:Nat):Int)=((x.toNat%2^j:Nat):Int):=by
 rw[q5d]
 congr 1
 have e1:=qtb h
 have hp:(2:Nat)^j<=2^64:=Nat.pow_le_pow_right (by decide) hj
 have h0:0<(2:Nat)^j:=Nat.two_pow_pos j
 have e2:=qtb (x:=((2^j-1:Nat):Int)) ⟨by omega,by rw[q1f]at hp;omega⟩
 rw[BitVec.toNat_and]
 have e3:(BitVec.ofInt 64 x).toNat=x.toNat:=by omega
 have e4:(BitVec.ofInt 64 ((2^j-1:Nat):Int)).toNat=2^j-1:=by omega
 rw[e3,e4]
 exact qbhd _ _
theorem qsu {x:Int}(h:uok x)(j:Nat)(hj:j<=64):qbq .andNot .u64 x ((2^j-1:Nat):Int)=((x.toNat-x.toNat%2^j:Nat):Int):=by
 have h1:=qo8 h j hj
 rw[q5d]at h1
 rw[qx3]
 have h2:=qrw (BitVec.ofInt 64 x) (BitVec.ofInt 64 ((2^j-1:Nat):Int))
 have h3:=qtb h
 have h4:x.toNat%2^j<=x.toNat:=Nat.mod_le _ _
 omega
theorem qbhe:∀n:Fin 65,qhv n=(0,((2^n.val-1:Nat):Int)):=by decide+kernel
theorem qbd8:∀n:Fin 65,qhv (n.val+64)=(((2^n.val-1:Nat):Int),((2^64-1:Nat):Int)):=by decide+kernel
theorem qtc {x:Int}(h:uok x):qbq .and .u64 x 0=0:=by
 have:=qo8 h 0 (by omega)
 simpa[Nat.mod_one]using this
theorem q5g (hi lo k:Nat)(hk:k<=64):(hi*18446744073709551616+lo)%2^k=lo%2^k:=by
 have:18446744073709551616=2^k*2^(64-k):=by rw[<-Nat.pow_add,<-q1f];congr 1;omega
 rw[this,show hi*(2^k*2^(64-k))+lo=lo+2^k*(hi*2^(64-k)) by rw[Nat.add_comm];congr 1;rw[Nat.mul_left_comm],Nat.add_mul_mod_self_left]
theorem qbcq (hi lo j:Nat)(hl:lo<18446744073709551616):(hi*18446744073709551616+lo)%2^(j+64)=hi%2^j*18446744073709551616+lo:=by
 have h0:0<(2:Nat)^j:=Nat.two_pow_pos j
 have h1:=Nat.div_add_mod hi (2^j)
 have h2:=Nat.mod_lt hi h0
 rw[Nat.pow_add,q1f]
 have e:hi*18446744073709551616+lo=(hi%2^j*18446744073709551616+lo)+2^j*18446744073709551616*(hi / 2^j):=by
  calc hi*18446744073709551616+lo=(2^j*(hi / 2^j)+hi%2^j)*18446744073709551616+lo:=by rw[h1]
   _=_:=by rw[Nat.add_mul];rw[show 2^j*(hi / 2^j)*18446744073709551616=2^j*18446744073709551616*(hi / 2^j) by rw[Nat.mul_right_comm]];omega
 rw[e,Nat.add_mul_mod_self_left]
 refine Nat.mod_eq_of_lt ?_
 have h3:(hi%2^j+1)*18446744073709551616<=2^j*18446744073709551616:=Nat.mul_le_mul_right _ h2
 rw[Nat.add_mul]at h3
 omega
theorem qbjb {hi lo:Int}(u1:uok hi)(u2:uok lo)(k:Nat)(hk:k<=128):
 uok (qbq .andNot .u64 hi (qhv k).1)/\uok (qbq .andNot .u64 lo (qhv k).2)/\numP (qbq .andNot .u64 hi (qhv k).1) (qbq .andNot .u64 lo (qhv k).2)=numP hi lo-numP hi lo%2^k:=by
 obtain⟨a1,a2⟩:=u1
 obtain⟨b1,b2⟩:=u2
 rcases Nat.lt_or_ge k 65 with h|h
 · have e:=qbhe ⟨k,h⟩
   simp only at e
   rw[e,qsu ⟨b1,b2⟩ k (by omega),qbil ⟨a1,a2⟩]
   have hm:=q5g hi.toNat lo.toNat k (by omega)
   have hle:=Nat.mod_le lo.toNat (2^k)
   refine⟨⟨a1,a2⟩,⟨by omega,by omega⟩,?_⟩
   unfold numP
   rw[hm]
   omega
 · obtain⟨j,rfl⟩:∃j,k=j+64:=⟨k-64,by omega⟩
   have e:=qbd8 ⟨j,by omega⟩
   simp only at e
   rw[e,qsu ⟨a1,a2⟩ j (by omega),qsu ⟨b1,b2⟩ 64 (by omega)]
   have hm:=qbcq hi.toNat lo.toNat j (by omega)
   have hle:=Nat.mod_le hi.toNat (2^j)
   have hlo:lo.toNat%2^64=lo.toNat:=Nat.mod_eq_of_lt (by rw[q1f];omega)
   refine⟨⟨by omega,by omega⟩,⟨by omega,by omega⟩,?_⟩
   unfold numP
   rw[hm,hlo]
   omega
theorem qbpq {hi lo:Int}(u1:uok hi)(u2:uok lo)(k:Nat)(hk:k<=128):
 (qbq .and .u64 hi (qhv k).1=0/\qbq .and .u64 lo (qhv k).2=0)↔numP hi lo%2^k=0:=by
 obtain⟨a1,a2⟩:=u1
 obtain⟨b1,b2⟩:=u2
 rcases Nat.lt_or_ge k 65 with h|h
 · have e:=qbhe ⟨k,h⟩
   simp only at e
   rw[e,qo8 ⟨b1,b2⟩ k (by omega),qtc ⟨a1,a2⟩]
   have hm:=q5g hi.toNat lo.toNat k (by omega)
   unfold numP
   rw[hm]
   generalize lo.toNat%2^k=q
   constructor
   · rintro⟨_,h⟩;omega
   · intro h;exact⟨rfl,by omega⟩
 · obtain⟨j,rfl⟩:∃j,k=j+64:=⟨k-64,by omega⟩
   have e:=qbd8 ⟨j,by omega⟩
   simp only at e
   rw[e,qo8 ⟨a1,a2⟩ j (by omega),qo8 ⟨b1,b2⟩ 64 (by omega)]
   have hm:=qbcq hi.toNat lo.toNat j (by omega)
   have hlo:lo.toNat%2^64=lo.toNat:=Nat.mod_eq_of_lt (by rw[q1f];omega)
   unfold numP
   rw[hm,hlo]
   constructor
   · rintro⟨h1,h2⟩
     have:hi.toNat%2^j=0:=by omega
     rw[this];omega
   · intro h1
     revert h1
     generalize hi.toNat%2^j=q
     intro h1
     have h4:q=0:=by omega
     have h5:lo.toNat=0:=by omega
     exact⟨by omega,by omega⟩
theorem qbhf {hi lo hi' lo':Int}(u1:uok hi)(u2:uok lo)(u3:uok hi')(u4:uok lo')(h:numP hi lo=numP hi' lo'):hi=hi'/\lo=lo':=by
 unfold numP at h
 unfold uok at*
 omega
theorem qry {v6:Bool}{hi lo bits:Int}(u1:uok hi)(u2:uok lo):qef v6 hi lo bits=true↔qhk v6 hi lo=true/\0<=bits/\bits<=qk v6/\numP hi lo%2^kOf v6 bits=0:=by
 by_cases h:0<=bits
 · have hl:=qhw v6
   have:=qbpq u1 u2 (kOf v6 bits) (by unfold kOf;omega)
   unfold qef
   simp only[Bool.and_eq_true,decide_eq_true_eq,beq_iff_eq]
   unfold kOf at*
   rw[<-this]
   constructor
   · rintro⟨⟨⟨⟨a,b⟩,c⟩,d⟩,e⟩;exact⟨a,b,c,d,e⟩
   · rintro⟨a,b,c,d,e⟩;exact⟨⟨⟨⟨a,b⟩,c⟩,d⟩,e⟩
 · unfold qef
   simp[h]
theorem qbd9 {v6:Bool}{hi lo bits:Int}{w6:Bool}{ahi alo:Int}(h1:uok hi)(h2:uok lo)(u1:uok ahi)(u2:uok alo):
 qjz v6 hi lo bits w6 ahi alo=true↔qef v6 hi lo bits=true/\qhk w6 ahi alo=true/\v6=w6/\numP hi lo=numP ahi alo-numP ahi alo%2^kOf v6 bits:=by
 unfold qjz
 simp only[Bool.and_eq_true,beq_iff_eq]
 constructor
 · rintro⟨a,b,c,d,e⟩
   refine⟨a,b,c,?_⟩
   obtain⟨r1,r2,_⟩:=qeg a
   have hl:=qhw v6
   obtain⟨_,_,h⟩:=qbjb u1 u2 (kOf v6 bits) (by unfold kOf;omega)
   unfold kOf at h
   rw[d,e]at h
   exact h
 · rintro⟨a,b,c,d⟩
   refine⟨a,b,c,?_⟩
   obtain⟨r1,r2,_⟩:=qeg a
   have hl:=qhw v6
   obtain⟨k1,k2,h⟩:=qbjb u1 u2 (kOf v6 bits) (by unfold kOf;omega)
   rw[<-d]at h
   obtain⟨e1,e2⟩:=qbhf k1 k2 h1 h2 h
   exact⟨e1,e2⟩
structure Np where
 v:Bool
 n:Nat
 k:Nat
def Np.ok (p:Np):Prop:=p.n%2^p.k=0
def Np.sub (p q:Np):Prop:=p.v=q.v/\p.k<=q.k/\p.n-p.n%2^q.k=q.n
theorem q5z {a b:Nat}(h:a<=b):2^a ∣ 2^b:=Nat.pow_dvd_pow 2 h
theorem qbjc {n a b:Nat}(h:a<=b):(n-n%2^a)-(n-n%2^a)%2^b=n-n%2^b:=by
 have h0:=Nat.two_pow_pos a
 have h1:=Nat.two_pow_pos b
 obtain⟨c,hc⟩:=q5z h
 have e1:n-n%2^a=2^a*(n / 2^a):=by have:=Nat.div_add_mod n (2^a);omega
 have e2:∀m,m-m%2^b=2^b*(m / 2^b):=fun m=>by have:=Nat.div_add_mod m (2^b);omega
 rw[e2,e2 n]
 congr 1
 rw[e1,hc,<-Nat.div_div_eq_div_mul,<-Nat.div_div_eq_div_mul,Nat.mul_div_cancel_left _ h0]
theorem Np.sub_refl {p:Np}(h:p.ok):p.sub p:=⟨rfl,Nat.le_refl _,by unfold Np.ok at h;rw[h];rfl⟩
theorem Np.sub_trans {p q r:Np}(h1:p.sub q)(h2:q.sub r):p.sub r:=by
 obtain⟨a1,a2,a3⟩:=h1
 obtain⟨b1,b2,b3⟩:=h2
 refine⟨a1.trans b1,Nat.le_trans a2 b2,?_⟩
 rw[<-b3,<-a3,qbjc b2]
theorem Np.sub_antisymm {p q:Np}(hp:p.ok)(h1:p.sub q)(h2:q.sub p):p=q:=by
 obtain⟨a1,a2,a3⟩:=h1
 obtain⟨b1,b2,b3⟩:=h2
 have hk:p.k=q.k:=Nat.le_antisymm a2 b2
 have hn:p.n=q.n:=by
  unfold Np.ok at hp
  rw[<-hk,hp]at a3
  exact a3
 cases p;cases q;simp only at*
 subst a1 hk hn
 rfl
theorem Np.nest {p q r:Np}(h1:p.sub q)(h2:p.sub r)(h:q.k<=r.k):q.sub r:=by
 obtain⟨a1,a2,a3⟩:=h1
 obtain⟨b1,b2,b3⟩:=h2
 exact⟨a1.symm.trans b1,h,by rw[<-a3,qbjc h];exact b3⟩
theorem qbcr (v6:Bool)(hi lo:Int)(w6:Bool)(whi wlo:Int):qnk v6 hi lo w6 whi wlo=some (cmpA v6 hi lo w6 whi wlo):=by
 rw[q88];unfold qn5 cmpA
 simp only[qbbz,qpd,q1e,oB_s]
 by_cases h1:v6=w6
 · subst h1
   by_cases h2:hi=whi
   · subst h2;simp
   · by_cases h3:hi<whi
     · simp[h2,h3]
     · have:hi>whi:=by omega
       simp[h2,h3,this]
 · cases v6<;>cases w6<;>simp at h1⊢
theorem qbl4 (v6:Bool)(hi lo bits:Int)(w6:Bool)(whi wlo wbits:Int):qn6 v6 hi lo bits w6 whi wlo wbits=some (cmpP v6 hi lo bits w6 whi wlo wbits):=by
 rw[q59];unfold qk7 cmpP
 simp only[qbcr,oB_s,q1e]
theorem qu4 (v6:Bool)(hi lo bits:Int)(w6:Bool)(whi wlo wbits:Int):
 (cmpP v6 hi lo bits w6 whi wlo wbits<0/\ltP v6 hi lo bits w6 whi wlo wbits)\/(cmpP v6 hi lo bits w6 whi wlo wbits=0/\v6=w6/\hi=whi/\lo=wlo/\bits=wbits)\/(cmpP v6 hi lo bits w6 whi wlo wbits>0/\ltP w6 whi wlo wbits v6 hi lo bits):=by
 unfold cmpP cmpA ltP
 by_cases h1:v6=w6
 · subst h1
   by_cases h2:hi=whi
   · subst h2
     by_cases h3:lo<wlo
     · left;simp[h3]
     · by_cases h4:lo>wlo
       · right;right;simp[h3,h4]
       · have:lo=wlo:=by omega
         subst this
         by_cases h5:bits<wbits
         · left;simp[h5]
         · by_cases h6:bits>wbits
           · right;right;simp[h5,h6]
           · right;left
             have:bits=wbits:=by omega
             subst this;simp
   · have h2':(hi != whi)=true:=by simpa using h2
     by_cases h3:hi<whi
     · left;simp[h2',h3]
     · have h4:whi<hi:=by omega
       right;right;simp[h2',h3,h4]
 · cases v6<;>cases w6<;>simp at h1⊢
def cmpY (y z:AV):Int:=cmpP (gB y.cells 0) (gI y.cells 1) (gI y.cells 2) (gI y.cells 3) (gB z.cells 0) (gI z.cells 1) (gI z.cells 2) (gI z.cells 3)
def samP (y z:AV):Bool:=(gB y.cells 0==gB z.cells 0)&&((gI y.cells 1==gI z.cells 1)&&((gI y.cells 2==gI z.cells 2)&&((gI y.cells 3==gI z.cells 3)&&true)))
theorem q1g {y z:AV}:samP y z=true↔gB y.cells 0=gB z.cells 0/\gI y.cells 1=gI z.cells 1/\gI y.cells 2=gI z.cells 2/\gI y.cells 3=gI z.cells 3:=by simp[samP]
theorem qsv {y z:AV}:samP y z=true↔cmpY y z=0:=by
 rw[q1g]
 unfold cmpY
 rcases qu4 (gB y.cells 0) (gI y.cells 1) (gI y.cells 2) (gI y.cells 3) (gB z.cells 0) (gI z.cells 1) (gI z.cells 2) (gI z.cells 3)with⟨h,h2⟩|⟨h,h2⟩|⟨h,h2⟩
 · constructor
   · rintro⟨a,b,c,d⟩;rw[a,b,c,d]at h2;exact absurd h2 qe0
   · intro h3;omega
 · exact⟨fun _=>h,fun _=>h2⟩
 · constructor
   · rintro⟨a,b,c,d⟩;rw[a,b,c,d]at h2;exact absurd h2 qe0
   · intro h3;omega
theorem qj1 (y z:AV):(cmpY y z>0↔cmpY z y<0)/\(cmpY y z=0↔cmpY z y=0)/\(cmpY y z<0↔ltY y z):=by
 unfold cmpY ltY
 have irr:∀{a:Bool} {b c d:Int} {a':Bool} {b' c' d':Int},ltP a b c d a' b' c' d'->¬ltP a' b' c' d' a b c d:=fun h1 h2=>qe0 (qtu h1 h2)
 rcases qu4 (gB y.cells 0) (gI y.cells 1) (gI y.cells 2) (gI y.cells 3) (gB z.cells 0) (gI z.cells 1) (gI z.cells 2) (gI z.cells 3)with⟨h,h2⟩|⟨h,a,b,c,d⟩|⟨h,h2⟩<;>
 rcases qu4 (gB z.cells 0) (gI z.cells 1) (gI z.cells 2) (gI z.cells 3) (gB y.cells 0) (gI y.cells 1) (gI y.cells 2) (gI y.cells 3)with⟨k,k2⟩|⟨k,a',b',c',d'⟩|⟨k,k2⟩
 · exact absurd k2 (irr h2)
 · rw[a',b',c',d']at h2;exact absurd h2 qe0
 · exact⟨by constructor<;>intro<;>omega,by constructor<;>intro<;>omega,⟨fun _=>h2,fun _=>h⟩⟩
 · rw[a,b,c,d]at k2;exact absurd k2 qe0
 · refine⟨by constructor<;>intro<;>omega,by constructor<;>intro<;>omega,⟨fun _=>by omega,fun h3=> ?_⟩⟩
   rw[a,b,c,d]at h3;exact absurd h3 qe0
 · rw[a,b,c,d]at k2;exact absurd k2 qe0
 · refine⟨by constructor<;>intro<;>omega,by constructor<;>intro<;>omega,⟨fun _=>by omega,fun h3=>absurd h3 (irr h2)⟩⟩
 · rw[a',b',c',d']at h2;exact absurd h2 qe0
 · exact absurd k2 (irr h2)
def qbfq (y z:AV):Bool:=decide (gI y.cells 3>gI z.cells 3)&&qzt y z
def qpv (v6:Bool)(hi lo bits:Int)(w6:Bool)(whi wlo wbits:Int):Bool:=decide (bits>wbits)&&ql6 v6 hi lo bits w6 whi wlo wbits
theorem qbhg (v6:Bool)(hi lo bits:Int)(w6:Bool)(whi wlo wbits:Int):qo2 v6 hi lo bits w6 whi wlo wbits=some (qpv v6 hi lo bits w6 whi wlo wbits):=by
 rw[qbby];unfold qpc qpv
 simp only[q5e,oB_s]
 cases decide (bits>wbits)<;>rfl
theorem qbea (s:LU)(lo hi:Int)(hs:s.length<=9223372036854775807):qn1 s lo hi=some (decide ((s.length:Int)>=lo)&&(decide ((s.length:Int)<=hi)&&qrx s)):=by
 rw[q56];unfold qk5
 have e:qng s (s.length:Int) (fun(_:Unit)=>some true) FU 0=some (qrx s):=by
  rw[qys,qnv s hs (qfj s (s.length:Int) fun _=>some true) (fun i nx=>qfi s (s.length:Int) i nx fun _=>some true) (fun _ _=>rfl) (fun r=>some (qrx r))]
  · intro nx;simp[qfi,qrx]
  · intro i y r nx h1 h2 h3 h4 h5
    have h6:(i:Int)<(s.length:Int):=by omega
    unfold qfi
    simp only[h6,decide_true,cond_t,ixB_nat,h2,oB_s,h4,h5,qrx,List.all_cons]
    by_cases a1:(y.toNat:Int)<33
    · have a2:¬33<=y.toNat:=by omega
      simp[a1,a2]
    · have a2:33<=y.toNat:=by omega
      by_cases b1:(y.toNat:Int)>126
      · have b2:¬y.toNat<=126:=by omega
        simp[a1,a2,b1,b2]
      · have b2:y.toNat<=126:=by omega
        simp[a1,a2,b1,b2]
 rw[e]
 by_cases h1:(s.length:Int)<lo
 · have:¬(s.length:Int)>=lo:=by omega
   simp[h1,this]
 · have h1':(s.length:Int)>=lo:=by omega
   by_cases h2:(s.length:Int)>hi
   · have:¬(s.length:Int)<=hi:=by omega
     simp[h1,h2,this]
   · have:(s.length:Int)<=hi:=by omega
     simp[h1,h2,this,h1']
def qrz (y:AV):Int:=bif !qj0 y then 3 else bif !mayB y then 1 else 0
theorem qbjd (y:AV)(hy:qkx y):qnh (gB y.cells 0) (gI y.cells 1) (gI y.cells 2) (gI y.cells 3) (gI y.cells 4) (gS y.cells 5) (gS y.cells 6) (gI y.cells 7)=some (qrz y):=by
 have hw:qvh (gB y.cells 0) (gI y.cells 1) (gI y.cells 2) (gI y.cells 3)=some (qk (gB y.cells 0)):=by
  rw[q82];unfold qn0 qk;cases gB y.cells 0<;>rfl
 rw[q83];unfold qn2 qrz qj0 mayB
 simp only[q16,qjd,qwo,qbea _ _ _ hy.2.2.2.1,qbea _ _ _ hy.2.2.2.2,hw,oB_s]
 have e1:decide (((gS y.cells 6).length:Int)>=0)=true:=by simp
 rw[e1]
 cases qef (gB y.cells 0) (gI y.cells 1) (gI y.cells 2) (gI y.cells 3)
 · rfl
 · have e2:decide (gI y.cells 7<0)= !decide (gI y.cells 7>=0):=by rw[Bool.eq_iff_iff];simp
   have e3:decide (gI y.cells 7>4294967295)= !decide (gI y.cells 7<=4294967295):=by rw[Bool.eq_iff_iff];simp
   rw[e2,e3]
   cases decide (gI y.cells 4<1)<;>cases decide (gI y.cells 4>3)<;>cases(gI y.cells 4==3)<;>cases(gI y.cells 3 != qk (gB y.cells 0))<;>simp only[cond_t,cond_f,Bool.not_true,Bool.not_false]<;>
    cases decide (((gS y.cells 5).length:Int)>=1)<;>cases decide (((gS y.cells 5).length:Int)<=63)<;>cases qrx (gS y.cells 5)<;>cases decide (((gS y.cells 6).length:Int)<=32)<;>cases qrx (gS y.cells 6)<;>cases decide (gI y.cells 7>=0)<;>cases decide (gI y.cells 7<=4294967295)<;>rfl
def admF (ko kb:Int):Bool:=bif ko==1 then true else bif ko==2 then kb==3 else false
theorem qbng (y z:AV):qt2 (gB z.cells 0) (gI z.cells 1) (gI z.cells 2) (gI z.cells 3) (gI z.cells 4) (gS z.cells 5) (gS z.cells 6) (gI z.cells 7) (gB y.cells 0) (gI y.cells 1) (gI y.cells 2) (gI y.cells 3) (gI y.cells 4) (gS y.cells 5) (gS y.cells 6) (gI y.cells 7)=some (admF (gI z.cells 4) (gI y.cells 4)):=by
 rw[q7r];unfold qmp admF
 simp only[q1e]
def misY (y z:AV):Bool:=qbfq y z&& !admF (gI z.cells 4) (gI y.cells 4)
theorem qbje {y z:AV}(hz:mayB z=true):misY y z=qb4 y z:=by
 have hk:1<=gI z.cells 4/\gI z.cells 4<=3:=by
  unfold mayB at hz
  by_cases h1:gI z.cells 4<1
  · simp[h1]at hz
  · by_cases h2:gI z.cells 4>3
    · simp[h1,h2]at hz
    · omega
 unfold misY qb4 qbfq admF
 have h3:gI z.cells 4=1\/gI z.cells 4=2\/gI z.cells 4=3:=by omega
 rcases h3 with h|h|h<;>rw[h]<;>cases qzt y z<;>cases decide (gI y.cells 3>gI z.cells 3)<;>cases hh:gI y.cells 4==3<;>simp[hh,bne]
theorem qsw (q:AV->Bool)(l:LA):decide (idxI q l>=0)=l.any q:=by
 unfold idxI
 have:(idxO q l).isSome=l.any q:=by
  induction l with
  |nil=>rfl
  |cons y r ih=>unfold idxO;cases hq:q y<;>simp[hq,ih]
 cases h:idxO q l with
 |none=>rw[h]at this;simp at this⊢;simpa using this
 |some k=>rw[h]at this;simp at this⊢;simpa using this
theorem q1h {R:Type}(l:LA)(hl:qbb l)(a0:Bool)(a1:Int)(a2:Int)(a3:Int)(a4:Int)(a5:LU)(a6:LU)(a7:Int)(kr:Int->Bool->Int->Int->Int->Int->List UInt8->List UInt8->Int->Option R)(q:AV->Bool)(hq:∀y,qkx y->∀kr:Bool->Bool->Int->Int->Int->Int->List UInt8->List UInt8->Int->Option R,qnj (gB y.cells 0) (gI y.cells 1) (gI y.cells 2) (gI y.cells 3) (gI y.cells 4) (gS y.cells 5) (gS y.cells 6) (gI y.cells 7) a0 a1 a2 a3 a4 a5 a6 a7 kr=kr (q y) a0 a1 a2 a3 a4 a5 a6 a7):
 qb2 l a0 a1 a2 a3 a4 a5 a6 a7 kr=kr (idxI q l) a0 a1 a2 a3 a4 a5 a6 a7:=by
 rw[qfv];unfold qbh
 rw[qe9]
 have key:=qe6 l hl.1 (fun n i (s:Bool×Int×Int×Int×Int×(List UInt8)×(List UInt8)×Int)=>qt l (l.length:Int) (fun c0 c1 c2 c3 c4 c5 c6 c7=>kr (-1:Int) c0 c1 c2 c3 c4 c5 c6 c7) kr n i s.1 s.2.1 s.2.2.1 s.2.2.2.1 s.2.2.2.2.1 s.2.2.2.2.2.1 s.2.2.2.2.2.2.1 s.2.2.2.2.2.2.2)
  (fun i s nx=>qr l (l.length:Int) i s.1 s.2.1 s.2.2.1 s.2.2.2.1 s.2.2.2.2.1 s.2.2.2.2.2.1 s.2.2.2.2.2.2.1 s.2.2.2.2.2.2.2 (fun i c0 c1 c2 c3 c4 c5 c6 c7=>nx i (c0,c1,c2,c3,c4,c5,c6,c7)) (fun c0 c1 c2 c3 c4 c5 c6 c7=>kr (-1:Int) c0 c1 c2 c3 c4 c5 c6 c7) kr) (fun _ _ _=>rfl)
  (fun i s=>s=(a0,a1,a2,a3,a4,a5,a6,a7)) (fun r s=>kr (match idxO q r with|some k=>((l.length-r.length+k:Nat):Int)|none=> -1) a0 a1 a2 a3 a4 a5 a6 a7) ?_ ?_ (a0,a1,a2,a3,a4,a5,a6,a7) FU rfl (qgo (by have:=hl.1;omega))
 · refine key.trans ?_
   unfold idxI
   cases idxO q l<;>simp
 · intro s nx hs
   subst hs
   simp[qr,idxO]
 · rintro i y r _ nx h1 h2 h3 h4 rfl h5
   have hy:=hl.2 y (List.mem_of_getElem? h2)
   have h6:(i:Int)<(l.length:Int):=by omega
   have hr:r.length=l.length-(i+1):=by
    have:=congrArg List.length h1
    simp at this
    omega
   unfold qr
   simp only[h6,decide_true,cond_t,ixB_nat,h2,oB_s,hy.1,hq y hy,h4]
   unfold idxO
   cases hqq:q y with
   |true=>
    simp only[cond_t,if_true]
    congr 1
    simp
    omega
   |false=>
    simp only[cond_f,Bool.false_eq_true,if_false]
    rw[h5 _ rfl]
    cases idxO q r with
    |none=>rfl
    |some k=>
     simp
     congr 1
     omega
theorem q7k (l:LA)(hl:qbb l)(y:AV):qiv l (gB y.cells 0) (gI y.cells 1) (gI y.cells 2) (gI y.cells 3) (gI y.cells 4) (gS y.cells 5) (gS y.cells 6) (gI y.cells 7)=some (l.any (misY y)):=by
 rw[q17];unfold qjf
 rw[qfb];unfold qbe
 rw[q1h l hl _ _ _ _ _ _ _ _ _ (misY y),qsw]
 intro z hz kr
 rw[qyw];unfold qid
 simp only[qbhg,qbng,oB_s]
 have e:qpv (gB y.cells 0) (gI y.cells 1) (gI y.cells 2) (gI y.cells 3) (gB z.cells 0) (gI z.cells 1) (gI z.cells 2) (gI z.cells 3)=qbfq y z:=rfl
 rw[e]
 unfold misY
 cases qbfq y z<;>simp
theorem qbl5 {α:Type}(l:List α)(i:Nat)(h:i<=l.length):cutI l none (some (i:Int))=some (l.take i):=by
 unfold cutI
 simp only[Option.getD_none,Option.getD_some,Int.toNat_natCast]
 rw[if_pos ⟨by omega,by omega,by omega⟩]
 simp
def qln (pre:LA)(q:AV->Bool):Bool:=match pre.getLast? with
 |some x=>q x
 |none=>false
def qtd (pre:LA)(y:AV):Int:=
 bif !qj0 y then 3 else bif !mayB y then 1 else bif qln pre (fun x=>decide (cmpY x y>0))then 7 else bif qln pre (fun x=>samP x y)then 12 else bif pre.any (qb4 y)then 24 else 0
def chkR:List AV->List AV->Int
 |_,[]=>0
 |pre,y::r=>bif qtd pre y != 0 then qtd pre y else chkR (pre++[y]) r
def qnx (l:LA):Int:=bif decide ((l.length:Int)>512)then 9 else chkR [] l
theorem qba8 {pre:LA}{y:AV}:qtd pre y=0↔qj0 y=true/\mayB y=true/\qln pre (fun x=>decide (cmpY x y>0))=false/\qln pre (fun x=>samP x y)=false/\pre.any (qb4 y)=false:=by
 unfold qtd
 cases qj0 y<;>cases mayB y<;>cases qln pre (fun x=>decide (cmpY x y>0))<;>cases qln pre (fun x=>samP x y)<;>cases pre.any (qb4 y)<;>simp
theorem qx5 {α:Type}{l:List α}{i:Nat}(h:i+1<=l.length):(l.take (i+1)).getLast? =l[i]?:=by
 rw[List.getLast?_eq_getElem?]
 have:(l.take (i+1)).length=i+1:=by simp;omega
 rw[this,List.getElem?_take]
 simp
theorem qbnh {α:Type}{l r:List α}{a:α}{i:Nat}(h:l.drop i=a::r):l.length-(a::r).length=i/\l.length-r.length=i+1:=by
 have h1:=congrArg List.length h
 have h2:i<l.length:=by
  rcases Nat.lt_or_ge i l.length with h3|h3
  · exact h3
  · rw[List.drop_of_length_le h3]at h;cases h
 simp at h1⊢
 omega
theorem qbeb {α:Type}{l:List α}{i:Nat}{a:α}(h:l[i]?=some a):l.take (i+1)=l.take i++[a]:=by
 rw[List.take_add_one,h];rfl
theorem qbni (l:LA)(hl:qbb l):qv0 l=some (qnx l):=by
 rw[q9o];unfold qoe qnx
 by_cases hlen:(l.length:Int)>512
 · simp[hlen]
 · simp only[hlen,decide_false,cond_f]
   rw[q2y]
   have key:=qe6 (σ:=Unit) l hl.1 (fun n i _=>qhf l l (l.length:Int) (fun _=>some 0) n i) (fun i _ nx=>qhe l l (l.length:Int) i (fun j=>nx j ()) fun _=>some 0) (fun _ _ _=>rfl)
    (fun i _=>∀z,z∈l.take i->mayB z=true) (fun r _=>some (chkR (l.take (l.length-r.length)) r)) ?_ ?_ () FU (by simp) (qgo (by have:=hl.1;omega))
   · simpa using key
   · intro _ nx _;simp[qhe,chkR]
   · rintro i y r _ nx h1 h2 h3 h4 hJ h5
     have hy:=hl.2 y (List.mem_of_getElem? h2)
     have h6:(i:Int)<(l.length:Int):=by omega
     obtain⟨e1,e2⟩:=qbnh h1
     have hti:qbb (l.take i):=⟨by have:=hl.1;simp;omega,fun z hz=>hl.2 z (List.mem_of_mem_take hz)⟩
     have hmis:(l.take i).any (misY y)=(l.take i).any (qb4 y):=by
      rw[Bool.eq_iff_iff,List.any_eq_true,List.any_eq_true]
      constructor<;>(rintro⟨z,hz,hb⟩;refine⟨z,hz,?_⟩;simpa[qbje (hJ z hz)]using hb)
     rw[e1]
     unfold qhe chkR
     simp only[h6,decide_true,cond_t,ixB_nat,h2,oB_s,hy.1,qbjd y hy,h4,qbl5 l i (by omega),q7k _ hti,hmis]
     rw[show l.take i++[y]=l.take (l.length-r.length) by rw[e2];exact(qbeb h2).symm]
     by_cases hf:qrz y=0
     · have hf2:(qrz y != 0)=false:=by simpa using hf
       have hpm:qj0 y=true/\mayB y=true:=by
        unfold qrz at hf
        cases hp:qj0 y<;>cases hm:mayB y<;>simp[hp,hm]at hf⊢
       have hnx:nx ((i+1:Nat):Int) ()=some (chkR (l.take (l.length-r.length)) r):=by
        refine h5 () fun z hz=> ?_
        rw[qbeb h2]at hz
        rcases List.mem_append.1 hz with hz|hz
        · exact hJ z hz
        · simp at hz;subst hz;exact hpm.2
       simp only[hf2,cond_f,hnx]
       have fin:(bif(l.take i).any (qb4 y)then some (24:Int)else some (chkR (l.take (l.length-r.length)) r))=some (bif((bif(l.take i).any (qb4 y)then(24:Int)else 0) != 0)then(bif(l.take i).any (qb4 y)then(24:Int)else 0)else chkR (l.take (l.length-r.length)) r):=by
        cases(l.take i).any (qb4 y)<;>simp
       rw[q2x];unfold qjr qtd
       simp only[hpm.1,hpm.2,Bool.not_true,cond_f]
       cases i with
       |zero=>
        have e0:∀q,qln (l.take 0) q=false:=fun q=>by simp[qln]
        simp only[e0,cond_f,Int.natCast_zero,Int.lt_irrefl,gt_iff_lt,decide_false]
        exact fin
       |succ i=>
        have hpos:((i+1:Nat):Int)>0:=by omega
        have hw:IntKind.i64.wrap (((i+1:Nat):Int)-1)=(i:Int):=by rw[w64 (by omega) (by have:=hl.1;omega)];omega
        obtain⟨x,hx⟩:∃x,l[i]?=some x:=⟨l[i],by simp⟩
        have hxf:=hl.2 x (List.mem_of_getElem? hx)
        have e0:∀q,qln (l.take (i+1)) q=q x:=fun q=>by unfold qln;rw[qx5 (by omega),hx]
        simp only[hpos,decide_true,cond_t,hw,ixB_nat,hx,oB_s,hxf.1,qbl4,e0]
        obtain⟨s1,s2,s3⟩:=qj1 x y
        rw[show cmpP (gB y.cells 0) (gI y.cells 1) (gI y.cells 2) (gI y.cells 3) (gB x.cells 0) (gI x.cells 1) (gI x.cells 2) (gI x.cells 3)=cmpY y x from rfl]
        by_cases hc:cmpY y x<0
        · have hc2:=s1.2 hc
          simp[hc,hc2]
        · have hc2:¬cmpY x y>0:=fun h=>hc (s1.1 h)
          simp only[hc,hc2,decide_false,cond_f]
          by_cases hq:cmpY y x=0
          · have hs:samP x y=true:=qsv.2 (s2.2 hq)
            simp[hq,hs]
          · have hs:samP x y=false:=by
             rw[Bool.eq_false_iff];exact fun h=>hq (s2.1 (qsv.1 h))
            have hq2:(cmpY y x==0)=false:=by simpa using hq
            simp only[hq2,hs,cond_f]
            exact fin
     · have hf2:(qrz y != 0)=true:=by simpa using hf
       simp only[hf2,cond_t]
       unfold qtd
       unfold qrz at hf⊢
       cases hp:qj0 y<;>cases hm:mayB y<;>simp[hp,hm]at hf⊢
theorem qbec:∀(r pre:LA),chkR pre r=0↔∀(i:Nat) (y:AV),r[i]?=some y->qtd (pre++r.take i) y=0
 |[],pre=>by simp[chkR]
 |y::r,pre=>by
  unfold chkR
  by_cases he:qtd pre y=0
  · have he2:(qtd pre y != 0)=false:=by simpa using he
    rw[he2,cond_f,qbec r (pre++[y])]
    constructor
    · intro h i z hz
      cases i with
      |zero=>simp at hz;subst hz;simpa using he
      |succ i=>
       have:=h i z (by simpa using hz)
       simpa using this
    · intro h i z hz
      have:=h (i+1) z (by simpa using hz)
      simpa using this
  · have he2:(qtd pre y != 0)=true:=by simpa using he
    rw[he2,cond_t]
    constructor
    · intro h;exact absurd h he
    · intro h;exact absurd (by simpa using h 0 y rfl) he
theorem qbed {l:LA}(hlen:l.length<=512):qnx l=0↔qct l:=by
 unfold qnx
 have h0:¬(l.length:Int)>512:=by omega
 simp only[h0,decide_false,cond_f]
 rw[qbec]
 simp only[List.nil_append]
 have hs:∀x y:AV,(cmpY x y>0\/samP x y=true)↔¬ltY x y:=fun x y=>by
  obtain⟨_,_,s3⟩:=qj1 x y
  rw[qsv,<-s3]
  omega
 constructor
 · intro h j y hy
   obtain⟨h1,h2,h3,h4,h5⟩:=qba8.1 (h j y hy)
   have hjl:j<l.length:=(List.getElem?_eq_some_iff.1 hy).1
   refine⟨h1,h2,fun i z hj hz=> ?_,fun k z hk hz=> ?_⟩
   · subst hj
     unfold qln at h3 h4
     rw[qx5 (by omega),hz]at h3 h4
     simp only[decide_eq_false_iff_not]at h3
     apply Classical.byContradiction
     intro hn
     rcases(hs z y).2 hn with h|h
     · exact h3 h
     · have h4':samP z y=false:=h4
       rw[h]at h4';cases h4'
   · rw[List.any_eq_false]at h5
     have:=h5 z (List.mem_of_getElem? (i:=k) (by rw[List.getElem?_take,if_pos hk];exact hz))
     simpa using this
 · intro h j y hy
   have hr:=h j y hy
   have hjl:j<l.length:=(List.getElem?_eq_some_iff.1 hy).1
   refine qba8.2 ⟨hr.p,hr.may,?_,?_,?_⟩
   · cases j with
     |zero=>simp[qln]
     |succ i=>
      obtain⟨x,hx⟩:∃x,l[i]?=some x:=⟨l[i],by simp⟩
      unfold qln
      rw[qx5 (by omega),hx]
      simp only[decide_eq_false_iff_not]
      exact fun hc=>(hs x y).1 (.inl hc) (hr.lt i x rfl hx)
   · cases j with
     |zero=>simp[qln]
     |succ i=>
      obtain⟨x,hx⟩:∃x,l[i]?=some x:=⟨l[i],by simp⟩
      unfold qln
      rw[qx5 (by omega),hx]
      simp only
      rw[Bool.eq_false_iff]
      exact fun hc=>(hs x y).1 (.inr hc) (hr.lt i x rfl hx)
   · rw[List.any_eq_false]
     intro z hz
     obtain⟨k,hk⟩:=List.getElem?_of_mem hz
     rw[List.getElem?_take]at hk
     split at hk
     · rename_i hkj
       have:=hr.bar k z hkj hk
       simp[this]
     · cases hk
def mkB (b0:Bool)(b1 b2 b3 b4:Int)(b5 b6:LU)(b7:Int):AV:=.agg [(.bool b0),(.int .u64 b1),(.int .u64 b2),(.int .i64 b3),(.int .i64 b4),(.str b5),(.str b6),(.int .i64 b7)]
def mkP (b0:Bool)(b1 b2 b3:Int):AV:=.agg [(.bool b0),(.int .u64 b1),(.int .u64 b2),(.int .i64 b3)]
theorem qbrx {cs:LA}(h:fitC qc cs=true):cs=(mkB (gB cs 0) (gI cs 1) (gI cs 2) (gI cs 3) (gI cs 4) (gS cs 5) (gS cs 6) (gI cs 7)).cells:=by
 have:=qol (ls:=qc) (by decide) h
 exact this.symm
theorem qsx {y:AV}(h:fitC qc y.cells=true):mkB (gB y.cells 0) (gI y.cells 1) (gI y.cells 2) (gI y.cells 3) (gI y.cells 4) (gS y.cells 5) (gS y.cells 6) (gI y.cells 7)=y:=by
 have h1:=qbrx h
 cases y with
 |agg cs=>
  simp only[AV.cells]at h1⊢
  unfold mkB at h1⊢
  simp only[AV.cells]at h1
  rw[<-h1]
 |_=>
  have h2:=congrArg List.length h1
  simp[AV.cells,mkB]at h2
theorem qbee {y:AV}(h:fitC qc y.cells=true):blkV y=y:=qsx h
def occF (l:LA)(v:Bool)(hi lo bits:Int):Bool:=l.any fun y=>qpv (gB y.cells 0) (gI y.cells 1) (gI y.cells 2) (gI y.cells 3) v hi lo bits
theorem q27 {R:Type}(l:LA)(hl:qbb l)(a0:Bool)(a1:Int)(a2:Int)(a3:Int)(kr:Int->Bool->Int->Int->Int->Option R)(q:AV->Bool)(hq:∀y,qkx y->∀kr:Bool->Bool->Int->Int->Int->Option R,qos (gB y.cells 0) (gI y.cells 1) (gI y.cells 2) (gI y.cells 3) (gI y.cells 4) (gS y.cells 5) (gS y.cells 6) (gI y.cells 7) a0 a1 a2 a3 kr=kr (q y) a0 a1 a2 a3):
 qcc l a0 a1 a2 a3 kr=kr (idxI q l) a0 a1 a2 a3:=by
 rw[qf7];unfold qbk
 rw[qfe]
 have key:=qe6 l hl.1 (fun n i (s:Bool×Int×Int×Int)=>qv l (l.length:Int) (fun c0 c1 c2 c3=>kr (-1:Int) c0 c1 c2 c3) kr n i s.1 s.2.1 s.2.2.1 s.2.2.2)
  (fun i s nx=>qu l (l.length:Int) i s.1 s.2.1 s.2.2.1 s.2.2.2 (fun i c0 c1 c2 c3=>nx i (c0,c1,c2,c3)) (fun c0 c1 c2 c3=>kr (-1:Int) c0 c1 c2 c3) kr) (fun _ _ _=>rfl)
  (fun i s=>s=(a0,a1,a2,a3)) (fun r s=>kr (match idxO q r with|some k=>((l.length-r.length+k:Nat):Int)|none=> -1) a0 a1 a2 a3) ?_ ?_ (a0,a1,a2,a3) FU rfl (qgo (by have:=hl.1;omega))
 · refine key.trans ?_
   unfold idxI
   cases idxO q l<;>simp
 · intro s nx hs
   subst hs
   simp[qu,idxO]
 · rintro i y r _ nx h1 h2 h3 h4 rfl h5
   have hy:=hl.2 y (List.mem_of_getElem? h2)
   have h6:(i:Int)<(l.length:Int):=by omega
   have hr:r.length=l.length-(i+1):=by
    have:=congrArg List.length h1
    simp at this
    omega
   unfold qu
   simp only[h6,decide_true,cond_t,ixB_nat,h2,oB_s,hy.1,hq y hy,h4]
   unfold idxO
   cases hqq:q y with
   |true=>
    simp only[cond_t,if_true]
    congr 1
    simp
    omega
   |false=>
    simp only[cond_f,Bool.false_eq_true,if_false]
    rw[h5 _ rfl]
    cases idxO q r with
    |none=>rfl
    |some k=>
     simp
     congr 1
     omega
theorem qba9 (l:LA)(hl:qbb l)(v:Bool)(hi lo bits:Int):qmq l v hi lo bits=some (occF l v hi lo bits):=by
 rw[q3f];unfold qj8
 rw[qfg];unfold qbf
 rw[q27 l hl _ _ _ _ _ (fun y=>qpv (gB y.cells 0) (gI y.cells 1) (gI y.cells 2) (gI y.cells 3) v hi lo bits),qsw]
 · rfl
 · intro z hz kr
   rw[qz4];unfold qiy
   simp only[qbhg,oB_s]
def insF (b:AV):List AV->List AV
 |[]=>[b]
 |y::r=>bif decide (cmpY y b>0)then b::y::r else y::insF b r
theorem qx6 (b y:AV)(r:LA):insF b (y::r)=bif decide (cmpY y b>0)then b::y::r else y::insF b r:=rfl
theorem q1i (b:AV):∀l,(insF b l).length=l.length+1
 |[]=>rfl
 |y::r=>by unfold insF;cases decide (cmpY y b>0)<;>simp[q1i b r]
theorem qlo {b y:AV}:∀{l:LA},y∈insF b l↔y=b\/y∈l
 |[]=>by simp[insF]
 |z::r=>by
  unfold insF
  cases decide (cmpY z b>0)
  · simp only[cond_f,List.mem_cons,qlo (l:=r)]
    constructor
    · rintro(h|h|h)
      · exact .inr (.inl h)
      · exact .inl h
      · exact .inr (.inr h)
    · rintro(h|h|h)
      · exact .inr (.inl h)
      · exact .inl h
      · exact .inr (.inr h)
  · simp
theorem qbhh (b:AV):∀l,insF b l=l.take ((idxO (fun y=>decide (cmpY y b>0)) l).getD l.length)++[b]++l.drop ((idxO (fun y=>decide (cmpY y b>0)) l).getD l.length)
 |[]=>rfl
 |y::r=>by
  unfold insF idxO
  have ih:=qbhh b r
  cases h:decide (cmpY y b>0)with
  |true=>simp
  |false=>
   simp only[cond_f,Bool.false_eq_true,if_false]
   rw[ih]
   cases idxO (fun y=>decide (cmpY y b>0)) r<;>simp
theorem q61 {R:Type}(l:LA)(hl:qbb l)(a0:Bool)(a1:Int)(a2:Int)(a3:Int)(a4:Int)(a5:LU)(a6:LU)(a7:Int)(kr:Int->Bool->Int->Int->Int->Int->List UInt8->List UInt8->Int->Option R)(q:AV->Bool)(hq:∀y,qkx y->∀kr:Bool->Bool->Int->Int->Int->Int->List UInt8->List UInt8->Int->Option R,qq3 (gB y.cells 0) (gI y.cells 1) (gI y.cells 2) (gI y.cells 3) (gI y.cells 4) (gS y.cells 5) (gS y.cells 6) (gI y.cells 7) a0 a1 a2 a3 a4 a5 a6 a7 kr=kr (q y) a0 a1 a2 a3 a4 a5 a6 a7):
 qce l a0 a1 a2 a3 a4 a5 a6 a7 kr=kr (idxI q l) a0 a1 a2 a3 a4 a5 a6 a7:=by
 rw[qgq];unfold qbo
 rw[qfw]
 have key:=qe6 l hl.1 (fun n i (s:Bool×Int×Int×Int×Int×(List UInt8)×(List UInt8)×Int)=>qx l (l.length:Int) (fun c0 c1 c2 c3 c4 c5 c6 c7=>kr (-1:Int) c0 c1 c2 c3 c4 c5 c6 c7) kr n i s.1 s.2.1 s.2.2.1 s.2.2.2.1 s.2.2.2.2.1 s.2.2.2.2.2.1 s.2.2.2.2.2.2.1 s.2.2.2.2.2.2.2)
  (fun i s nx=>qw l (l.length:Int) i s.1 s.2.1 s.2.2.1 s.2.2.2.1 s.2.2.2.2.1 s.2.2.2.2.2.1 s.2.2.2.2.2.2.1 s.2.2.2.2.2.2.2 (fun i c0 c1 c2 c3 c4 c5 c6 c7=>nx i (c0,c1,c2,c3,c4,c5,c6,c7)) (fun c0 c1 c2 c3 c4 c5 c6 c7=>kr (-1:Int) c0 c1 c2 c3 c4 c5 c6 c7) kr) (fun _ _ _=>rfl)
  (fun i s=>s=(a0,a1,a2,a3,a4,a5,a6,a7)) (fun r s=>kr (match idxO q r with|some k=>((l.length-r.length+k:Nat):Int)|none=> -1) a0 a1 a2 a3 a4 a5 a6 a7) ?_ ?_ (a0,a1,a2,a3,a4,a5,a6,a7) FU rfl (qgo (by have:=hl.1;omega))
 · refine key.trans ?_
   unfold idxI
   cases idxO q l<;>simp
 · intro s nx hs
   subst hs
   simp[qw,idxO]
 · rintro i y r _ nx h1 h2 h3 h4 rfl h5
   have hy:=hl.2 y (List.mem_of_getElem? h2)
   have h6:(i:Int)<(l.length:Int):=by omega
   have hr:r.length=l.length-(i+1):=by
    have:=congrArg List.length h1
    simp at this
    omega
   unfold qw
   simp only[h6,decide_true,cond_t,ixB_nat,h2,oB_s,hy.1,hq y hy,h4]
   unfold idxO
   cases hqq:q y with
   |true=>
    simp only[cond_t,if_true]
    congr 1
    simp
    omega
   |false=>
    simp only[cond_f,Bool.false_eq_true,if_false]
    rw[h5 _ rfl]
    cases idxO q r with
    |none=>rfl
    |some k=>
     simp
     congr 1
     omega
theorem qbnj (l:LA)(hl:qbb l)(hn:l.length<=100000)(b0:Bool)(b1 b2 b3 b4:Int)(b5 b6:LU)(b7:Int):qt3 l b0 b1 b2 b3 b4 b5 b6 b7=some (insF (mkB b0 b1 b2 b3 b4 b5 b6 b7) l):=by
 rw[q7s];unfold qmr
 rw[q61 l hl _ _ _ _ _ _ _ _ _ (fun y=>decide (cmpY y (mkB b0 b1 b2 b3 b4 b5 b6 b7)>0))]
 · have hc:qq l=some l:=by
    unfold qq qtr
    have:l.length*80<=140737488355328:=by omega
    simp[this]
   rw[q2a];unfold qjg
   have fin:∀k:Nat,k<=l.length->qkw 80 l (k:Int) [mkB b0 b1 b2 b3 b4 b5 b6 b7]=some (l.take k++[mkB b0 b1 b2 b3 b4 b5 b6 b7]++l.drop k):=fun k hk=>by
    unfold qkw
    have:(l.length+1)*80<=140737488355328:=by omega
    simp[hk,this]
   show(bif decide (idxI (fun y=>decide (cmpY y (mkB b0 b1 b2 b3 b4 b5 b6 b7)>0)) l<0)then(oB (qq l) fun r11=>(bif hd r11 r11.length then(bif hd [mkB b0 b1 b2 b3 b4 b5 b6 b7] ([mkB b0 b1 b2 b3 b4 b5 b6 b7].length)then(oB (qkw 80 r11 (l.length:Int) [mkB b0 b1 b2 b3 b4 b5 b6 b7]) fun r12=>(bif hd r12 r12.length then(some r12)else none))else none)else none))else(oB (qq l) fun r11=>(bif hd r11 r11.length then(bif hd [mkB b0 b1 b2 b3 b4 b5 b6 b7] ([mkB b0 b1 b2 b3 b4 b5 b6 b7].length)then(oB (qkw 80 r11 (idxI (fun y=>decide (cmpY y (mkB b0 b1 b2 b3 b4 b5 b6 b7)>0)) l) [mkB b0 b1 b2 b3 b4 b5 b6 b7]) fun r12=>(bif hd r12 r12.length then(some r12)else none))else none)else none)))=_
   rw[qbhh,hc]
   unfold idxI
   cases hq:idxO (fun y=>decide (cmpY y (mkB b0 b1 b2 b3 b4 b5 b6 b7)>0)) l with
   |none=>
    simp only[oB_s,hd_self,cond_t,Option.getD_none]
    rw[fin l.length (Nat.le_refl _)]
    simp
   |some k=>
    obtain⟨y,hy,_⟩:=qio l k hq
    have hk:=(List.getElem?_eq_some_iff.1 hy).1
    have h0:¬((k:Int)<0):=by omega
    simp only[oB_s,hd_self,cond_t,h0,decide_false,cond_f,Option.getD_some]
    rw[fin k (by omega)]
    simp
 · intro z hz kr
   rw[q3h];unfold qj9
   simp only[qbl4,oB_s]
   rfl
theorem qbl6 {R:Type}{a:LA}(x:AV)(h:(a.length+1)*80<=140737488355328)(k:Option R):(bif decide ((a.length+([x]:List AV).length)*80<=140737488355328)then k else none)=k:=by
 rw[show([x]:List AV).length=1 from rfl,decide_eq_true h];rfl
def remF (l:LA)(v:Bool)(hi lo bits:Int):List AV:=l.filter fun y=> !atP v hi lo bits y
theorem qbba {q:AV->Bool}:∀(l:LA) (k:Nat),idxO q l=some k->(∀(j:Nat) (y:AV),k<j->l[j]?=some y->q y=false)->l.take k++l.drop (k+1)=l.filter fun y=> !q y
 |[],k,h,_=>by simp[idxO]at h
 |y::r,k,h,hu=>by
  unfold idxO at h
  cases hq:q y with
  |true=>
   simp[hq]at h
   subst h
   simp only[List.take_zero,List.drop_succ_cons,List.drop_zero,List.nil_append]
   rw[List.filter_cons,hq]
   simp only[Bool.not_true,Bool.false_eq_true,if_false]
   refine(List.filter_eq_self.2 fun z hz=> ?_).symm
   obtain⟨j,hj⟩:=List.getElem?_of_mem hz
   rw[hu (j+1) z (by omega) (by simpa using hj)];rfl
  |false=>
   simp[hq]at h
   obtain⟨k',h1,rfl⟩:=h
   have ih:=qbba r k' h1 (fun j z hj hz=>hu (j+1) z (by omega) (by simpa using hz))
   rw[List.filter_cons,hq]
   simp only[Bool.not_false,if_true,List.take_succ_cons,List.drop_succ_cons,List.cons_append]
   rw[ih]
theorem qct.uniq {l:LA}(h:qct l){v:Bool}{hi lo bits:Int}{i j:Nat}{y z:AV}(hy:l[i]?=some y)(hz:l[j]?=some z)(h1:atP v hi lo bits y=true)(h2:atP v hi lo bits z=true):i=j:=by
 have key:∀{i j:Nat} {y z:AV},l[i]?=some y->l[j]?=some z->atP v hi lo bits y=true->atP v hi lo bits z=true->¬i<j:=fun hy hz h1 h2 hij=>by
  have:=h.sorted _ _ hy _ _ hij hz
  obtain⟨a,b,c,d⟩:=qit.1 h1
  obtain⟨a',b',c',d'⟩:=qit.1 h2
  unfold ltY at this
  rw[a,b,c,d,a',b',c',d']at this
  exact qe0 this
 have a:=key hy hz h1 h2
 have b:=key hz hy h2 h1
 omega
theorem qbl7 (l:LA)(hn:l.length<=100000)(k:Nat)(hk:k<l.length):qn7 l (k:Int)=some (l.take k++l.drop (k+1)):=by
 rw[q6d];unfold qk9
 have hc:qq l=some l:=by
  unfold qq qtr
  have:l.length*80<=140737488355328:=by omega
  simp[this]
 have hw:IntKind.i64.wrap ((k:Int)+1)=((k+1:Nat):Int):=w64 (by omega) (by omega)
 have hd':qqr l (k:Int) ((k+1:Nat):Int)=some (l.take k++l.drop (k+1)):=by
  unfold qqr
  have:((0:Int)<=(k:Int)/\(k:Int)<((k+1:Nat):Int)/\((k+1:Nat):Int)<=(l.length:Int)/\l.length<=9223372036854775807):=⟨by omega,by omega,by omega,by omega⟩
  simp only[this,and_self,decide_true,cond_t,Int.toNat_natCast]
 simp only[hc,oB_s,hd_self,cond_t,hw,hd']
theorem qbkf (l:LA)(hn:l.length<=100000)(ht:qct l){v:Bool}{hi lo bits:Int}{k:Nat}(hk:idxO (atP v hi lo bits) l=some k):qn7 l (k:Int)=some (remF l v hi lo bits):=by
 obtain⟨y,hy,hf⟩:=qio l k hk
 rw[qbl7 l hn k (List.getElem?_eq_some_iff.1 hy).1]
 congr 1
 have hq:=List.find?_some hf
 refine qbba l k hk fun j z hj hz=> ?_
 rw[Bool.eq_false_iff]
 intro h2
 have:=ht.uniq hy hz hq h2
 omega
def qbj (l:LA)(v:Bool)(hi lo bits:Int):List AV×Int:=
 bif !(l.any (atP v hi lo bits))then([],11)else bif occF l v hi lo bits then([],25)else(remF l v hi lo bits,0)
theorem qbpr (q:AV->Bool)(l:LA):decide (idxI q l<0)= !(l.any q):=by
 rw[<-qsw,Bool.eq_iff_iff]
 simp
theorem qbps {q:AV->Bool}{l:LA}(h:l.any q=true):∃k,idxO q l=some k/\idxI q l=(k:Int):=by
 rw[<-qsw]at h
 unfold idxI at*
 cases hq:idxO q l with
 |none=>rw[hq]at h;simp at h
 |some k=>exact⟨k,rfl,rfl⟩
theorem qbnk (l:LA)(hl:qbb l)(hn:l.length<=100000)(ht:qct l)(v:Bool)(hi lo bits:Int):qt4 l v hi lo bits=some (qbj l v hi lo bits):=by
 rw[q7v];unfold qms qbj
 simp only[q8r l hl,oB_s,qba9 l hl,qbpr]
 cases ha:l.any (atP v hi lo bits)with
 |false=>rfl
 |true=>
  obtain⟨k,h1,h2⟩:=qbps ha
  simp only[Bool.not_true,cond_f]
  cases occF l v hi lo bits with
  |true=>rfl
  |false=>
   simp only[cond_f,h2,qbkf l hn ht h1,oB_s]
def addF (l:LA)(b:AV):List AV×Int:=
 bif !qj0 b then([],3)else bif !mayB b then([],1)else bif l.any (atP (gB b.cells 0) (gI b.cells 1) (gI b.cells 2) (gI b.cells 3))then([],12)else
 bif l.any (qb4 b)||occF l (gB b.cells 0) (gI b.cells 1) (gI b.cells 2) (gI b.cells 3)then([],24)else bif decide ((l.length:Int)>=512)then([],9)else(insF b l,0)
theorem qct.may {l:LA}(ht:qct l){y:AV}(hy:y∈l):mayB y=true:=by
 obtain⟨j,hj⟩:=List.getElem?_of_mem hy
 exact(ht j y hj).may
theorem qct.mis {l:LA}(ht:qct l)(b:AV):l.any (misY b)=l.any (qb4 b):=by
 rw[Bool.eq_iff_iff,List.any_eq_true,List.any_eq_true]
 constructor<;>(rintro⟨z,hz,hb⟩;refine⟨z,hz,?_⟩;simpa[qbje (ht.may hz)]using hb)
theorem qbop (l:LA)(hl:qbb l)(hn:l.length<=100000)(ht:qct l)(b0:Bool)(b1 b2 b3 b4:Int)(b5 b6:LU)(b7:Int)(hb:qkx (mkB b0 b1 b2 b3 b4 b5 b6 b7)):quu l b0 b1 b2 b3 b4 b5 b6 b7=some (addF l (mkB b0 b1 b2 b3 b4 b5 b6 b7)):=by
 have h1:qnh b0 b1 b2 b3 b4 b5 b6 b7=some (qrz (mkB b0 b1 b2 b3 b4 b5 b6 b7)):=qbjd (mkB b0 b1 b2 b3 b4 b5 b6 b7) hb
 have h2:qiv l b0 b1 b2 b3 b4 b5 b6 b7=some (l.any (misY (mkB b0 b1 b2 b3 b4 b5 b6 b7))):=q7k l hl (mkB b0 b1 b2 b3 b4 b5 b6 b7)
 rw[qbey];unfold qq4 addF
 simp only[h1,oB_s,q6c,qk8,h2,q8r l hl,qsw,qba9 l hl,qbnj l hl hn,ht.mis]
 rw[show(gB (mkB b0 b1 b2 b3 b4 b5 b6 b7).cells 0)=b0 from rfl,show(gI (mkB b0 b1 b2 b3 b4 b5 b6 b7).cells 1)=b1 from rfl,show(gI (mkB b0 b1 b2 b3 b4 b5 b6 b7).cells 2)=b2 from rfl,show(gI (mkB b0 b1 b2 b3 b4 b5 b6 b7).cells 3)=b3 from rfl]
 unfold qrz
 cases qj0 (mkB b0 b1 b2 b3 b4 b5 b6 b7)with
 |false=>rfl
 |true=>
  cases mayB (mkB b0 b1 b2 b3 b4 b5 b6 b7)with
  |false=>rfl
  |true=>
   simp only[Bool.not_true,cond_f,bne_self_eq_false]
   cases l.any (atP b0 b1 b2 b3)<;>cases l.any (qb4 (mkB b0 b1 b2 b3 b4 b5 b6 b7))<;>cases occF l b0 b1 b2 b3<;>cases decide ((l.length:Int)>=512)<;>rfl
theorem qbhi {x:Int}(h:uok x):qbq .or .u64 x 0=x:=by
 have:=qbhb h (y:=0) ⟨by omega,by omega⟩ (qtc h)
 omega
def shl1 (p:Int×Int):Int×Int:=(IntKind.u64.wrap (IntKind.u64.wrap (p.1*2)+IntKind.u64.wrap (p.2.tdiv 9223372036854775808)),IntKind.u64.wrap (p.2*2))
def shlN:Nat->Int×Int->Int×Int
 |0,p=>p
 |n+1,p=>shlN n (shl1 p)
theorem qbcs:∀n:Fin 64,shlN n (0,1)=(0,((2^n.val:Nat):Int)):=by decide+kernel
theorem q8s:∀n:Fin 64,shlN (n.val+64) (0,1)=(((2^n.val:Nat):Int),0):=by decide+kernel
theorem qbpt:∀n:Fin 128,(0<=(shlN n (0,1)).1/\(shlN n (0,1)).1<=18446744073709551615)/\(0<=(shlN n (0,1)).2/\(shlN n (0,1)).2<=18446744073709551615):=by decide+kernel
theorem qbpu {n:Nat}(h:n<128):numP (shlN n (0,1)).1 (shlN n (0,1)).2=2^n:=by
 unfold numP
 rcases Nat.lt_or_ge n 64 with h1|h1
 · rw[qbcs ⟨n,h1⟩]
   show(0:Int).toNat*18446744073709551616+(((2^n:Nat):Int)).toNat=2^n
   rw[Int.toNat_natCast]
   simp
 · obtain⟨j,rfl⟩:∃j,n=j+64:=⟨n-64,by omega⟩
   rw[q8s ⟨j,by omega⟩,Nat.pow_add,q1f]
   show(((2^j:Nat):Int)).toNat*18446744073709551616+(0:Int).toNat=_
   rw[Int.toNat_natCast]
   simp
def qpw:AV:=mkP false 0 0 0
def qo9 (v:Bool)(hi lo bits n:Int):Bool:=qef v hi lo bits&&(decide (bits<=n)&&decide (n<=qk v))
theorem qbl8 {v:Bool}{hi lo bits n:Int}(h:qo9 v hi lo bits n=true):qef v hi lo bits=true/\0<=bits/\bits<=n/\n<=qk v/\n<=128:=by
 unfold qo9 at h
 simp only[Bool.and_eq_true,decide_eq_true_eq]at h
 have h1:=qeg h.1
 have:=qhw v
 exact⟨h.1,h1.1,h.2.1,h.2.2,by omega⟩
theorem qbhj {v:Bool}{hi lo bits n i:Int}(c0:Bool)(c1 c2 c3:Int)(kn:Bool->Option (AV×Bool)):qsa n i v hi lo bits c0 c1 c2 c3 kn=kn (!qo9 v hi lo bits n):=by
 rw[q6m];unfold qlc qo9
 simp only[qwo,qwn,oB_s]
 have e1:decide (n<bits)= !decide (bits<=n):=by rw[Bool.eq_iff_iff];simp
 have e2:decide (n>qk v)= !decide (n<=qk v):=by rw[Bool.eq_iff_iff];simp
 rw[e1,e2]
 cases qef v hi lo bits<;>cases decide (bits<=n)<;>rfl
theorem q1j {v:Bool}{hi lo bits n:Int}(u1:uok hi)(u2:uok lo):qdx v hi lo bits n 0=some (bif qo9 v hi lo bits n then(mkP v hi lo n,true)else(qpw,false)):=by
 rw[qy0];unfold qlr
 rw[qbhj]
 cases hp:qo9 v hi lo bits n with
 |false=>rfl
 |true=>
  obtain⟨h1,h2,h3,h4,h5⟩:=qbl8 hp
  have hw:IntKind.i64.wrap (n-bits)=n-bits:=w64 (by omega) (by omega)
  have hw2:IntKind.i64.wrap (qk v-n)=qk v-n:=w64 (by have:=qhw v;omega) (by have:=qhw v;omega)
  have hu:IntKind.u64.wrap (n-bits)=n-bits:=wu64 (by omega) (by omega)
  have hu2:IntKind.u64.wrap (qk v-n)=qk v-n:=wu64 (by omega) (by have:=qhw v;omega)
  have a0:¬n-bits<0:=by omega
  simp only[Bool.not_true,cond_f,cond_t,hw,qti,qh1,hu,a0,decide_false,Int.zero_fdiv,bne_self_eq_false,qwn,oB_s,hw2,hu2]
  have fin:(bif decide (n-bits<64)then qji n 0 (qk v-n) 0 0 v hi lo bits false 0 0 0 (fun a b=>some (mkP v (qbq .or .u64 hi a) (qbq .or .u64 lo b) n,true))else qji n 0 (qk v-n) 0 0 v hi lo bits false 0 0 0 (fun a b=>some (mkP v (qbq .or .u64 hi a) (qbq .or .u64 lo b) n,true)))=some (mkP v hi lo n,true):=by
   have e:qji n 0 (qk v-n) 0 0 v hi lo bits false 0 0 0 (fun a b=>some (mkP v (qbq .or .u64 hi a) (qbq .or .u64 lo b) n,true))=some (mkP v hi lo n,true):=by
    rw[qtj];unfold qh2
    have q0:IntKind.u64.wrap 0=0:=by decide
    have hnn:∀x,¬IntKind.u64.wrap x<0:=fun x=>by
     have:0<=IntKind.u64.wrap x:=by simp[IntKind.wrap,IntKind.signed];omega
     omega
    have a1:¬qk v-n<0:=by omega
    simp only[Int.zero_mul,Int.zero_fdiv,q0,hnn,a1,decide_false,cond_f,qbhi u1,qbhi u2]
    cases decide (qk v-n>=64)<;>cases decide (qk v-n>0)<;>rfl
   rw[e];cases decide (n-bits<64)<;>rfl
  exact fin
def qky (v:Bool)(hi lo bits:Int):Bool:=qef v hi lo bits&&decide (bits<qk v)
def bitP (v:Bool)(bits:Int):Int×Int:=shlN (qk v-bits-1).toNat (0,1)
def lowP (v:Bool)(hi lo bits:Int):AV:=mkP v hi lo (bits+1)
def q1k (v:Bool)(hi lo bits:Int):AV:=mkP v (qbq .or .u64 hi (bitP v bits).1) (qbq .or .u64 lo (bitP v bits).2) (bits+1)
def qzu (v:Bool)(hi lo bits:Int):AV×AV×Bool:=bif qky v hi lo bits then(lowP v hi lo bits,q1k v hi lo bits,true)else(qpw,qpw,false)
theorem qx7 {v:Bool}{hi lo bits:Int}(h:qky v hi lo bits=true):qef v hi lo bits=true/\0<=bits/\bits<qk v/\bits<128:=by
 unfold qky at h
 simp only[Bool.and_eq_true,decide_eq_true_eq]at h
 have:=qhw v
 exact⟨h.1,(qeg h.1).1,h.2,by omega⟩
theorem qbnl {v:Bool}{bits:Int}(h0:0<=bits)(h:bits<qk v):uok (bitP v bits).1/\uok (bitP v bits).2:=by
 have:=qhw v
 exact qbpt ⟨(qk v-bits-1).toNat,by omega⟩
theorem qbef {v:Bool}{hi lo bits:Int}:qo9 v hi lo bits (IntKind.i64.wrap (bits+1))=qky v hi lo bits:=by
 unfold qo9 qky
 cases hp:qef v hi lo bits with
 |false=>rfl
 |true=>
  obtain⟨h1,h2,_⟩:=qeg hp
  have:=qhw v
  rw[w64 (by omega) (by omega)]
  simp only[Bool.true_and]
  have:bits<=bits+1:=by omega
  simp[this]
  omega
theorem qbnm {v:Bool}{hi lo bits:Int}(h:qky v hi lo bits=true)(u1:uok hi)(u2:uok lo):qbq .and .u64 hi (bitP v bits).1=0/\qbq .and .u64 lo (bitP v bits).2=0:=by
 obtain⟨h1,h2,h3,h4⟩:=qx7 h
 obtain⟨_,_,_,h5⟩:=(qry u1 u2).1 h1
 have hl:=qhw v
 obtain⟨k,hk⟩:∃k,kOf v bits=k+1:=⟨(qk v-bits-1).toNat,by unfold kOf;omega⟩
 have hk2:(qk v-bits-1).toNat=k:=by unfold kOf at hk;omega
 have hk3:k<128:=by omega
 unfold bitP
 rw[hk2]
 rw[hk]at h5
 obtain⟨a1,a2⟩:=u1
 obtain⟨b1,b2⟩:=u2
 have mask:∀{x:Int} (j:Nat),uok x->j<64->x.toNat%2^(j+1)=0->qbq .and .u64 x ((2^j:Nat):Int)=0:=by
  intro x j hx hj hm
  have hp:(2:Nat)^j<2^64:=Nat.pow_lt_pow_right (by decide) hj
  have h0:0<(2:Nat)^j:=Nat.two_pow_pos j
  rw[q5d]
  have e1:=qtb hx
  have e2:=qtb (x:=((2^j:Nat):Int)) ⟨by omega,by rw[q1f]at hp;omega⟩
  rw[BitVec.toNat_and]
  have e3:(BitVec.ofInt 64 x).toNat=x.toNat:=by omega
  have e4:(BitVec.ofInt 64 ((2^j:Nat):Int)).toNat=2^j:=by omega
  rw[e3,e4]
  have:x.toNat.testBit j=false:=by
   rw[Nat.testBit_eq_decide_div_mod_eq]
   have h6:x.toNat / 2^j%2=0:=by
    rw[Nat.pow_succ,]at hm
    have:=Nat.mod_mul_right_div_self x.toNat (2^j) 2
    rw[hm]at this
    simpa using this.symm
   simp[h6]
  have h7:x.toNat&&& 2^j=0:=by
   refine Nat.eq_of_testBit_eq fun i=> ?_
   rw[Nat.testBit_and,Nat.testBit_two_pow]
   by_cases hij:j=i
   · subst hij;simp[this]
   · simp[hij]
  rw[h7];rfl
 rcases Nat.lt_or_ge k 64 with h6|h6
 · rw[qbcs ⟨k,h6⟩]
   refine⟨qtc ⟨a1,a2⟩,mask k ⟨b1,b2⟩ h6 ?_⟩
   have:=q5g hi.toNat lo.toNat (k+1) (by omega)
   unfold numP at h5
   omega
 · obtain⟨j,rfl⟩:∃j,k=j+64:=⟨k-64,by omega⟩
   rw[q8s ⟨j,by omega⟩]
   refine⟨mask j ⟨a1,a2⟩ (by omega) ?_,qtc ⟨b1,b2⟩⟩
   have:=qbcq hi.toNat lo.toNat (j+1) (by omega)
   unfold numP at h5
   rw[show j+64+1=j+1+64 by omega,this]at h5
   revert h5
   generalize hi.toNat%2^(j+1)=q
   omega
theorem qbnn {v:Bool}{hi lo bits:Int}(h:qky v hi lo bits=true):qdx v hi lo bits (bits+1) 1=some (q1k v hi lo bits,true):=by
 obtain⟨h1,h2,h3,h4⟩:=qx7 h
 have hw0:IntKind.i64.wrap (bits+1)=bits+1:=w64 (by omega) (by omega)
 have hp:=qbef (v:=v) (hi:=hi) (lo:=lo) (bits:=bits)
 rw[hw0,h]at hp
 rw[qy0];unfold qlr
 rw[qbhj,hp]
 have hl:=qhw v
 have e1:IntKind.i64.wrap (bits+1-bits)=1:=by rw[w64 (by omega) (by omega)];omega
 have e2:IntKind.i64.wrap (qk v-(bits+1))=qk v-bits-1:=by rw[w64 (by omega) (by omega)];omega
 have e3:IntKind.u64.wrap (qk v-bits-1)=qk v-bits-1:=wu64 (by omega) (by omega)
 simp only[Bool.not_true,cond_f,e1,qti,qh1,qwn,oB_s,e2,e3]
 rw[show decide ((1:Int)<64)=true by decide,show decide (IntKind.u64.wrap 1<0)=false by decide,show((1:Int).fdiv (2^min (IntKind.u64.wrap 1).toNat IntKind.u64.bits) != 0)=false by decide]
 simp only[cond_t,cond_f]
 rw[qtj];unfold qh2
 obtain⟨k,hk⟩:∃k:Nat,qk v-bits-1=k:=⟨(qk v-bits-1).toNat,by omega⟩
 have hk3:k<128:=by omega
 unfold q1k bitP
 rw[hk,Int.toNat_natCast]
 rcases Nat.lt_or_ge k 64 with h6|h6
 · have a1:¬(k:Int)>=64:=by omega
   rw[qbcs ⟨k,h6⟩]
   simp only[a1,decide_false,cond_f]
   by_cases hk0:k=0
   · subst hk0;rfl
   · have a2:(k:Int)>0:=by omega
     have a3:¬(k:Int)<0:=by omega
     have fin:∀j:Fin 64,j.val≠0->¬IntKind.u64.wrap (64-(j.val:Int))<0/\(1:Int).fdiv (2^min (IntKind.u64.wrap (64-(j.val:Int))).toNat IntKind.u64.bits)=0/\IntKind.u64.wrap (1*2^min j.val IntKind.u64.bits)=((2^j.val:Nat):Int):=by decide+kernel
     obtain⟨f1,f2,f3⟩:=fin ⟨k,h6⟩ hk0
     simp only at f1 f2 f3
     simp only[a2,decide_true,cond_t,a3,decide_false,cond_f,f1,f2,f3]
     rfl
 · obtain⟨j,rfl⟩:∃j,k=j+64:=⟨k-64,by omega⟩
   have a1:((j+64:Nat):Int)>=64:=by omega
   rw[q8s ⟨j,by omega⟩]
   have fin:∀j:Fin 64,¬IntKind.u64.wrap (((j.val+64:Nat):Int)-64)<0/\IntKind.u64.wrap (1*2^min (IntKind.u64.wrap (((j.val+64:Nat):Int)-64)).toNat IntKind.u64.bits)=((2^j.val:Nat):Int):=by decide+kernel
   obtain⟨f1,f2⟩:=fin ⟨j,by omega⟩
   simp only at f1 f2
   simp only[a1,decide_true,cond_t,f1,f2,decide_false,cond_f]
   rfl
theorem qbeg (v:Bool)(hi lo bits:Int)(u1:uok hi)(u2:uok lo):qhz v hi lo bits=some (qzu v hi lo bits):=by
 rw[q7z];unfold qmv qzu
 rw[q1j u1 u2,qbef]
 simp only[q2c,qjj,qwo,oB_s]
 cases hh:qky v hi lo bits with
 |false=>rfl
 |true=>
  obtain⟨h1,h2,h3,h4⟩:=qx7 hh
  have hw:IntKind.i64.wrap (bits+1)=bits+1:=w64 (by omega) (by omega)
  simp only[cond_t,Bool.not_true,cond_f,h1,hw,qbnn hh,oB_s]
  rfl
theorem qbno {v:Bool}{hi lo bits:Int}(h:qky v hi lo bits=true)(u1:uok hi)(u2:uok lo):
 numP (qbq .or .u64 hi (bitP v bits).1) (qbq .or .u64 lo (bitP v bits).2)=numP hi lo+2^kOf v (bits+1):=by
 obtain⟨h1,h2,h3,h4⟩:=qx7 h
 obtain⟨o1,o2⟩:=qbnl h2 h3
 obtain⟨f1,f2⟩:=qbnm h u1 u2
 have hl:=qhw v
 have hk:kOf v (bits+1)=(qk v-bits-1).toNat:=by unfold kOf;congr 1;omega
 rw[<-qbhb u1 o1 f1,<-qbhb u2 o2 f2,hk,<-qbpu (n:=(qk v-bits-1).toNat) (by omega)]
 unfold bitP at o1 o2⊢
 unfold numP
 obtain⟨a1,a2⟩:=u1
 obtain⟨b1,b2⟩:=u2
 obtain⟨c1,c2⟩:=o1
 obtain⟨d1,d2⟩:=o2
 rw[Int.toNat_add a1 c1,Int.toNat_add b1 d1]
 omega
def mkA (b0:Bool)(b1 b2:Int):AV:=.agg [(.bool b0),(.int .u64 b1),(.int .u64 b2)]
def qoo (q:AV->Bool):Option AV->List AV->Option AV
 |b,[]=>b
 |b,y::r=>qoo q (bif q y&&(match b with|none=>true|some x=>decide (gI y.cells 3>gI x.cells 3))then some y else b) r
def outC:Option AV->AV×Bool
 |some y=>(y,true)
 |none=>(blk0,false)
def qwp (q:AV->Bool)(l:LA):AV×Bool:=outC (qoo q none l)
theorem qbnp (l:LA)(hl:qbb l)(v:Bool)(ahi alo:Int):qt5 l v ahi alo=some (qwp (fun y=>qjz (gB y.cells 0) (gI y.cells 1) (gI y.cells 2) (gI y.cells 3) v ahi alo) l):=by
 rw[q7w];unfold qmt
 rw[qou];unfold qdo
 rw[qmb]
 have key:∀kx:Bool->Bool->Int->Int->Int->Int->List UInt8->List UInt8->Int->Bool->Int->Int->Bool->Int->Int->Int->Int->List UInt8->List UInt8->Int->Bool->Int->Int->Int->Int->List UInt8->List UInt8->Int->Option (AV×Bool),(∀(e:Bool) (a0:Bool) (a1 a2 a3 a4:Int) (a5 a6:LU) (a7:Int) (b0:Bool) (b1 b2:Int) (c0:Bool) (c1 c2 c3 c4:Int) (c5 c6:LU) (c7:Int) (d0:Bool) (d1 d2 d3 d4:Int) (d5 d6:LU) (d7:Int),kx e a0 a1 a2 a3 a4 a5 a6 a7 b0 b1 b2 c0 c1 c2 c3 c4 c5 c6 c7 d0 d1 d2 d3 d4 d5 d6 d7=some (mkB d0 d1 d2 d3 d4 d5 d6 d7,e))->
  qbv l (l.length:Int) kx FU false 0 false 0 0 0 0 [] [] 0 v ahi alo false 0 0 0 0 [] [] 0 false 0 0 0 0 [] [] 0=some (qwp (fun y=>qjz (gB y.cells 0) (gI y.cells 1) (gI y.cells 2) (gI y.cells 3) v ahi alo) l):=by
  intro kx hkx
  have key:=qe6 (σ:=Bool×AV×AV×AV×AV) l hl.1 (fun n i s=>qbv l (l.length:Int) kx n s.1 i (gB s.2.1.cells 0) (gI s.2.1.cells 1) (gI s.2.1.cells 2) (gI s.2.1.cells 3) (gI s.2.1.cells 4) (gS s.2.1.cells 5) (gS s.2.1.cells 6) (gI s.2.1.cells 7) (gB s.2.2.1.cells 0) (gI s.2.2.1.cells 1) (gI s.2.2.1.cells 2) (gB s.2.2.2.1.cells 0) (gI s.2.2.2.1.cells 1) (gI s.2.2.2.1.cells 2) (gI s.2.2.2.1.cells 3) (gI s.2.2.2.1.cells 4) (gS s.2.2.2.1.cells 5) (gS s.2.2.2.1.cells 6) (gI s.2.2.2.1.cells 7) (gB s.2.2.2.2.cells 0) (gI s.2.2.2.2.cells 1) (gI s.2.2.2.2.cells 2) (gI s.2.2.2.2.cells 3) (gI s.2.2.2.2.cells 4) (gS s.2.2.2.2.cells 5) (gS s.2.2.2.2.cells 6) (gI s.2.2.2.2.cells 7)) (fun i s nx=>qb5 s.1 l (l.length:Int) i (gB s.2.1.cells 0) (gI s.2.1.cells 1) (gI s.2.1.cells 2) (gI s.2.1.cells 3) (gI s.2.1.cells 4) (gS s.2.1.cells 5) (gS s.2.1.cells 6) (gI s.2.1.cells 7) (gB s.2.2.1.cells 0) (gI s.2.2.1.cells 1) (gI s.2.2.1.cells 2) (gB s.2.2.2.1.cells 0) (gI s.2.2.2.1.cells 1) (gI s.2.2.2.1.cells 2) (gI s.2.2.2.1.cells 3) (gI s.2.2.2.1.cells 4) (gS s.2.2.2.1.cells 5) (gS s.2.2.2.1.cells 6) (gI s.2.2.2.1.cells 7) (gB s.2.2.2.2.cells 0) (gI s.2.2.2.2.cells 1) (gI s.2.2.2.2.cells 2) (gI s.2.2.2.2.cells 3) (gI s.2.2.2.2.cells 4) (gS s.2.2.2.2.cells 5) (gS s.2.2.2.2.cells 6) (gI s.2.2.2.2.cells 7) (fun e i a0 a1 a2 a3 a4 a5 a6 a7 b0 b1 b2 c0 c1 c2 c3 c4 c5 c6 c7 d0 d1 d2 d3 d4 d5 d6 d7=>nx i (e,mkB a0 a1 a2 a3 a4 a5 a6 a7,mkA b0 b1 b2,mkB c0 c1 c2 c3 c4 c5 c6 c7,mkB d0 d1 d2 d3 d4 d5 d6 d7)) kx) (fun _ _ _=>rfl)
   (fun i s=>s.2.1=blk0/\s.2.2.1=mkA v ahi alo/\s.2.2.2.1=blk0/\(s.1=false->s.2.2.2.2=blk0)/\(s.1=true->fitC qc s.2.2.2.2.cells=true)) (fun r s=>some (outC (qoo (fun y=>qjz (gB y.cells 0) (gI y.cells 1) (gI y.cells 2) (gI y.cells 3) v ahi alo) (bif s.1 then some s.2.2.2.2 else none) r))) ?_ ?_ (false,blk0,mkA v ahi alo,blk0,blk0) FU ⟨rfl,rfl,rfl,fun _=>rfl,fun h=>by cases h⟩ (qgo (by have:=hl.1;omega))
  · exact key
  · rintro⟨e,s1,s2,s3,s4⟩ nx ⟨h1,h2,h3,h4,h5⟩
    simp only at h1 h2 h3 h4 h5
    subst h1 h2 h3
    unfold qb5
    simp only[Int.lt_irrefl,decide_false,cond_f,hkx]
    cases e with
    |false=>rw[h4 rfl];rfl
    |true=>rw[qsx (h5 rfl)];rfl
  · rintro i y r ⟨e,s1,s2,s3,s4⟩ nx g1 g2 g3 g4 ⟨h1,h2,h3,h4,h5⟩ hn
    simp only at h1 h2 h3 h4 h5
    subst h1 h2 h3
    have hy:=hl.2 y (List.mem_of_getElem? g2)
    have h6:(i:Int)<(l.length:Int):=by omega
    unfold qb5
    simp only[h6,decide_true,cond_t,ixB_nat,g2,oB_s,hy.1,g4,qma,qcy,q3l,qka,q7i]
    rw[qsx hy.1]
    have n1:=hn (true,blk0,mkA v ahi alo,blk0,y) ⟨rfl,rfl,rfl,fun h=>(by cases h),fun _=>hy.1⟩
    have n2:=hn (e,blk0,mkA v ahi alo,blk0,s4) ⟨rfl,rfl,rfl,h4,h5⟩
    have hs:mkB (gB s4.cells 0) (gI s4.cells 1) (gI s4.cells 2) (gI s4.cells 3) (gI s4.cells 4) (gS s4.cells 5) (gS s4.cells 6) (gI s4.cells 7)=s4:=by
     cases e with
     |false=>rw[h4 rfl];rfl
     |true=>exact qsx (h5 rfl)
    rw[hs]
    unfold qoo
    show(bif qjz (gB y.cells 0) (gI y.cells 1) (gI y.cells 2) (gI y.cells 3) v ahi alo then _ else _)=_
    cases hq:qjz (gB y.cells 0) (gI y.cells 1) (gI y.cells 2) (gI y.cells 3) v ahi alo with
    |false=>exact n2
    |true=>
     cases e with
     |false=>exact n1
     |true=>
      simp only[cond_t,Bool.not_true,cond_f,Bool.true_and]
      cases hc:decide (gI y.cells 3>gI s4.cells 3)with
      |true=>exact n1
      |false=>exact n2
 exact key _ (fun _ _ _ _ _ _ _ _ _ _ _ _ _ _ _ _ _ _ _ _ _ _ _ _ _ _ _ _=>rfl)
theorem Np.sub_range {p q:Np}(hp:p.ok)(hq:q.ok):p.sub q↔p.v=q.v/\p.k<=q.k/\q.n<=p.n/\p.n<q.n+2^q.k:=by
 unfold Np.sub
 have h0:=Nat.two_pow_pos q.k
 have h1:=Nat.mod_lt p.n h0
 have h2:=Nat.mod_le p.n (2^q.k)
 constructor
 · rintro⟨a,b,c⟩;exact⟨a,b,by omega,by omega⟩
 · rintro⟨a,b,c,d⟩
   refine⟨a,b,?_⟩
   obtain⟨u,hu⟩:=Nat.dvd_of_mod_eq_zero hq
   have:p.n / 2^q.k=u:=by
    rw[Nat.div_eq_iff h0]
    rw[hu]at c d
    constructor
    · rw[Nat.mul_comm];omega
    · rw[Nat.mul_comm];omega
   have h3:=Nat.div_add_mod p.n (2^q.k)
   rw[this]at h3
   omega
def Np.low (p:Np):Np:=⟨p.v,p.n,p.k-1⟩
def Np.high (p:Np):Np:=⟨p.v,p.n+2^(p.k-1),p.k-1⟩
theorem q8t {k:Nat}(h:0<k):2^k=2^(k-1)+2^(k-1):=by
 obtain⟨j,rfl⟩:∃j,k=j+1:=⟨k-1,by omega⟩
 rw[Nat.pow_succ];simp;omega
theorem Np.low_ok {p:Np}(hp:p.ok)(hk:0<p.k):p.low.ok:=by
 unfold Np.ok Np.low at*
 simp only
 have:2^(p.k-1) ∣ 2^p.k:=q5z (by omega)
 exact Nat.mod_eq_zero_of_dvd (Nat.dvd_trans this (Nat.dvd_of_mod_eq_zero hp))
theorem Np.high_ok {p:Np}(hp:p.ok)(hk:0<p.k):p.high.ok:=by
 have h1:=Np.low_ok hp hk
 unfold Np.ok Np.high Np.low at*
 simp only at*
 rw[Nat.add_mod_right];exact h1
theorem Np.low_sub {p:Np}(hp:p.ok)(hk:0<p.k):p.low.sub p:=by
 refine(Np.sub_range (Np.low_ok hp hk) hp).2 ⟨rfl,Nat.sub_le _ _,Nat.le_refl _,?_⟩
 have:=Nat.two_pow_pos p.k
 show p.n<_
 omega
theorem Np.high_sub {p:Np}(hp:p.ok)(hk:0<p.k):p.high.sub p:=by
 refine(Np.sub_range (Np.high_ok hp hk) hp).2 ⟨rfl,Nat.sub_le _ _,Nat.le_add_right _ _,?_⟩
 have:=q8t hk
 have h0:=Nat.two_pow_pos (p.k-1)
 show p.n+2^(p.k-1)<_
 omega
theorem Np.not_both {p q:Np}(hp:p.ok)(hq:q.ok)(hp0:0<p.k)(h1:q.sub p.low)(h2:q.sub p.high):False:=by
 obtain⟨_,_,c,d⟩:=(Np.sub_range hq (Np.low_ok hp hp0)).1 h1
 obtain⟨_,_,c',d'⟩:=(Np.sub_range hq (Np.high_ok hp hp0)).1 h2
 simp only[Np.low,Np.high]at*
 omega
theorem Np.both {p q:Np}(hp:p.ok)(hq:q.ok)(hp0:0<p.k)(h1:p.low.sub q)(h2:p.high.sub q):p.sub q:=by
 have e:=q8t hp0
 have hle:p.k-1<=q.k:=h1.2.1
 rcases Nat.lt_or_ge q.k p.k with hk|hk
 · exfalso
   have hqk:q.k=p.k-1:=by have:=h1.2.1;simp only[Np.low]at this;omega
   obtain⟨_,_,c,d⟩:=(Np.sub_range (Np.low_ok hp hp0) hq).1 h1
   obtain⟨_,_,c',d'⟩:=(Np.sub_range (Np.high_ok hp hp0) hq).1 h2
   simp only[Np.low,Np.high]at*
   rw[hqk]at d d'
   omega
 · exact Np.nest (Np.low_sub hp hp0) h1 hk
structure Pq where
 v:Bool
 hi:Int
 lo:Int
 bits:Int
def Pq.good (p:Pq):Prop:=qef p.v p.hi p.lo p.bits=true/\uok p.hi/\uok p.lo
def Pq.np (p:Pq):Np:=⟨p.v,numP p.hi p.lo,kOf p.v p.bits⟩
def Pq.av (p:Pq):AV:=mkP p.v p.hi p.lo p.bits
def pqY (y:AV):Pq:=⟨gB y.cells 0,gI y.cells 1,gI y.cells 2,gI y.cells 3⟩
def winP (p q:Pq):Bool:=ql6 p.v p.hi p.lo p.bits q.v q.hi q.lo q.bits
def ovP (p q:Pq):Bool:=winP p q||winP q p
theorem Pq.good.np_ok {p:Pq}(h:p.good):p.np.ok:=((qry h.2.1 h.2.2).1 h.1).2.2.2
theorem Pq.good.range {p:Pq}(h:p.good):0<=p.bits/\p.bits<=qk p.v/\(p.np.k:Int)=qk p.v-p.bits/\p.np.k<=128:=by
 obtain⟨h1,h2,_⟩:=qeg h.1
 have:=qhw p.v
 refine⟨h1,h2,?_,?_⟩
 · show((kOf p.v p.bits:Nat):Int)=_
   unfold kOf;omega
 · show kOf p.v p.bits<=128
   unfold kOf;omega
theorem qkz {p q:Pq}(hp:p.good)(hq:q.good):winP p q=true↔p.np.sub q.np:=by
 unfold winP ql6 Np.sub
 rw[hp.1]
 simp only[Bool.true_and,Bool.and_eq_true,decide_eq_true_eq]
 rw[qbd9 hq.2.1 hq.2.2 hp.2.1 hp.2.2]
 obtain⟨a1,a2,a3,_⟩:=hp.range
 obtain⟨b1,b2,b3,_⟩:=hq.range
 have ha:=(qeg hp.1).2.2
 constructor
 · rintro⟨h1,h2,h3,h4,h5⟩
   refine⟨h4.symm,?_,h5.symm⟩
   rw[h4]at b3;omega
 · rintro⟨h1,h2,h3⟩
   refine⟨?_,hq.1,ha,h1.symm,h3.symm⟩
   have h1':p.v=q.v:=h1
   rw[h1']at a3;omega
theorem qbq0 {p q:Pq}(hp:p.good)(hq:q.good)(h:p.np=q.np):p=q:=by
 obtain⟨a1,a2,a3,_⟩:=hp.range
 obtain⟨b1,b2,b3,_⟩:=hq.range
 have h1:p.v=q.v:=congrArg Np.v h
 have h2:numP p.hi p.lo=numP q.hi q.lo:=congrArg Np.n h
 obtain⟨h3,h4⟩:=qbhf hp.2.1 hp.2.2 hq.2.1 hq.2.2 h2
 have h5:p.bits=q.bits:=by rw[h,h1]at a3;omega
 cases p;cases q;simp only at*
 subst h1 h3 h4 h5;rfl
def Pq.low (p:Pq):Pq:=⟨p.v,p.hi,p.lo,p.bits+1⟩
def Pq.high (p:Pq):Pq:=⟨p.v,qbq .or .u64 p.hi (bitP p.v p.bits).1,qbq .or .u64 p.lo (bitP p.v p.bits).2,p.bits+1⟩
def Pq.half (p:Pq):Bool:=qky p.v p.hi p.lo p.bits
theorem Pq.half_iff {p:Pq}(hp:p.good):p.half=true↔0<p.np.k:=by
 obtain⟨a1,a2,a3,_⟩:=hp.range
 unfold Pq.half qky
 rw[hp.1]
 simp only[Bool.true_and,decide_eq_true_eq]
 omega
theorem Pq.low_np {p:Pq}(hp:p.good)(h:p.half=true):p.low.np=p.np.low:=by
 obtain⟨a1,a2,a3,_⟩:=hp.range
 have hk:=(Pq.half_iff hp).1 h
 have:kOf p.v (p.bits+1)=kOf p.v p.bits-1:=by unfold kOf;omega
 unfold Pq.np Pq.low Np.low
 simp only[this]
theorem Pq.high_np {p:Pq}(hp:p.good)(h:p.half=true):p.high.np=p.np.high:=by
 obtain⟨a1,a2,a3,_⟩:=hp.range
 have hk:=(Pq.half_iff hp).1 h
 have:kOf p.v (p.bits+1)=kOf p.v p.bits-1:=by unfold kOf;omega
 unfold Pq.np Pq.high Np.high
 simp only
 rw[qbno h hp.2.1 hp.2.2,this]
theorem qbbb {v:Bool}{hi lo:Int}(u1:uok hi)(u2:uok lo):qhk v hi lo=true↔(v=true\/numP hi lo<2^32):=by
 unfold qhk numP
 obtain⟨a1,a2⟩:=u1
 obtain⟨b1,b2⟩:=u2
 cases v with
 |true=>simp
 |false=>
  have e:(2:Nat)^32=4294967296:=by decide
  rw[e]
  simp only[Bool.false_or,Bool.and_eq_true,beq_iff_eq,decide_eq_true_eq,Bool.false_eq_true,false_or]
  omega
theorem Pq.low_good {p:Pq}(hp:p.good)(h:p.half=true):p.low.good:=by
 have hk:=(Pq.half_iff hp).1 h
 obtain⟨a1,a2,a3,_⟩:=hp.range
 refine⟨(qry hp.2.1 hp.2.2).2 ⟨(qeg hp.1).2.2,by show 0<=p.bits+1;omega,by show p.bits+1<=qk p.v;omega,?_⟩,hp.2⟩
 have:=Np.low_ok hp.np_ok hk
 rw[<-Pq.low_np hp h]at this
 exact this
theorem Pq.high_good {p:Pq}(hp:p.good)(h:p.half=true):p.high.good:=by
 have hk:=(Pq.half_iff hp).1 h
 obtain⟨a1,a2,a3,a4⟩:=hp.range
 have u1:uok p.high.hi:=qbl3 _ _
 have u2:uok p.high.lo:=qbl3 _ _
 have hn:=Pq.high_np hp h
 refine⟨(qry u1 u2).2 ⟨(qbbb u1 u2).2 ?_,by show 0<=p.bits+1;omega,by show p.bits+1<=qk p.v;omega,?_⟩,u1,u2⟩
 · rcases(qbbb hp.2.1 hp.2.2).1 (qeg hp.1).2.2 with h1|h1
   · exact .inl h1
   · cases hv:p.v with
     |true=>exact .inl hv
     |false=>
      right
      have e:numP p.high.hi p.high.lo=p.np.n+2^(p.np.k-1):=congrArg Np.n hn
      rw[e]
      have hk32:p.np.k<=32:=by rw[hv]at a3;simp[qk]at a3;omega
      have hpo:=hp.np_ok
      have hlt:p.np.n<2^32:=h1
      obtain⟨u,hu⟩:=Nat.dvd_of_mod_eq_zero hpo
      obtain⟨c,hc⟩:=q5z hk32
      have hlt2:u<c:=by
       rw[hu,hc]at hlt
       exact Nat.lt_of_mul_lt_mul_left hlt
      have:2^p.np.k*(u+1)<=2^p.np.k*c:=Nat.mul_le_mul_left _ hlt2
      rw[Nat.mul_add,<-hu,<-hc,q8t hk]at this
      have h0:=Nat.two_pow_pos (p.np.k-1)
      omega
 · have:=Np.high_ok hp.np_ok hk
   rw[<-hn]at this
   exact this
def qe8 (l:LA):Nat->Pq->List Pq
 |0,_=>[]
 |n+1,p=>bif l.any (fun b=>winP p (pqY b))then[]else bif !(l.any fun b=>ovP (pqY b) p)then[p]else bif p.half then qe8 l n p.low++qe8 l n p.high else[]
def qhx (l:LA):Prop:=∀y,y∈l->(pqY y).good
theorem q5h {p q b:Pq}(hp:p.good)(hq:q.good)(hb:b.good)(h:q.np.sub p.np)(ho:ovP b q=true):ovP b p=true:=by
 unfold ovP at*
 rw[Bool.or_eq_true,qkz hb hq,qkz hq hb]at ho
 rw[Bool.or_eq_true,qkz hb hp,qkz hp hb]
 rcases ho with ho|ho
 · exact .inl (Np.sub_trans ho h)
 · rcases Nat.lt_or_ge b.np.k p.np.k with hk|hk
   · exact .inl (Np.nest ho h (by omega))
   · exact .inr (Np.nest h ho hk)
theorem qyn {l l':LA}(hl:qhx l)(hl':qhx l'){c:Pq}(hc:c.good)
 (hW:∀q:Pq,q.good->q.np.sub c.np->(l.any fun b=>winP q (pqY b))=l'.any fun b=>winP q (pqY b)) (hO:∀q:Pq,q.good->q.np.sub c.np->(l.any fun b=>ovP (pqY b) q)=l'.any fun b=>ovP (pqY b) q):
 ∀(n:Nat) (p:Pq),p.good->p.np.sub c.np->qe8 l n p=qe8 l' n p
 |0,p,_,_=>rfl
 |n+1,p,hp,hs=>by
  unfold qe8
  rw[hW p hp hs,hO p hp hs]
  cases hh:p.half with
  |false=>rfl
  |true=>
   have hk:=(Pq.half_iff hp).1 hh
   have h1:p.low.np.sub p.np:=by rw[Pq.low_np hp hh];exact Np.low_sub hp.np_ok hk
   have h2:p.high.np.sub p.np:=by rw[Pq.high_np hp hh];exact Np.high_sub hp.np_ok hk
   rw[qyn hl hl' hc hW hO n p.low (Pq.low_good hp hh) (Np.sub_trans h1 hs),qyn hl hl' hc hW hO n p.high (Pq.high_good hp hh) (Np.sub_trans h2 hs)]
theorem q5i {l:LA}(hl:qhx l){c:Pq}(hc:c.good)(n:Nat)(p:Pq)(hp:p.good)(hs:p.np.sub c.np):qe8 (l.filter fun b=>ovP (pqY b) c) n p=qe8 l n p:=by
 refine qyn (fun y hy=>hl y ((List.mem_filter.1 hy).1)) hl hc (fun q hq hqc=> ?_) (fun q hq hqc=> ?_) n p hp hs
 · rw[Bool.eq_iff_iff,List.any_eq_true,List.any_eq_true]
   constructor
   · rintro⟨b,hb,h⟩;exact⟨b,(List.mem_filter.1 hb).1,h⟩
   · rintro⟨b,hb,h⟩
     refine⟨b,List.mem_filter.2 ⟨hb,q5h hc hq (hl b hb) hqc ?_⟩,h⟩
     unfold ovP;rw[h,Bool.or_true]
 · rw[Bool.eq_iff_iff,List.any_eq_true,List.any_eq_true]
   constructor
   · rintro⟨b,hb,h⟩;exact⟨b,(List.mem_filter.1 hb).1,h⟩
   · rintro⟨b,hb,h⟩
     exact⟨b,List.mem_filter.2 ⟨hb,q5h hc hq (hl b hb) hqc h⟩,h⟩
theorem qbeh {α:Type}{A B C:α->Bool}:∀(l:List α),(∀b,b∈l->A b=true->C b=true)->(∀b,b∈l->B b=true->C b=true)->(∀b,b∈l->A b=true->B b=true->False)->(l.filter A).length+(l.filter B).length<=(l.filter C).length
 |[],_,_,_=>by simp
 |b::r,h1,h2,h3=>by
  have ih:=qbeh r (fun x hx=>h1 x (List.mem_cons_of_mem _ hx)) (fun x hx=>h2 x (List.mem_cons_of_mem _ hx)) (fun x hx=>h3 x (List.mem_cons_of_mem _ hx))
  have k1:=h1 b List.mem_cons_self
  have k2:=h2 b List.mem_cons_self
  have k3:=h3 b List.mem_cons_self
  rw[List.filter_cons,List.filter_cons,List.filter_cons]
  cases hA:A b<;>cases hB:B b
  · cases C b<;>simp<;>omega
  · rw[k2 hB];simp;omega
  · rw[k1 hA];simp;omega
  · exact(k3 hA hB).elim
theorem q5j {l:LA}(hl:qhx l):∀(n:Nat) (p:Pq),p.good->(qe8 l n p).length<=(l.filter fun b=>ovP (pqY b) p).length*n+1
 |0,p,_=>by simp[qe8]
 |n+1,p,hp=>by
  unfold qe8
  cases hW:l.any fun b=>winP p (pqY b)with
  |true=>simp
  |false=>
   cases hO:l.any fun b=>ovP (pqY b) p with
   |false=>simp
   |true=>
    cases hh:p.half with
    |false=>simp
    |true=>
     have hk:=(Pq.half_iff hp).1 hh
     have hlg:=Pq.low_good hp hh
     have hhg:=Pq.high_good hp hh
     have h1:p.low.np.sub p.np:=by rw[Pq.low_np hp hh];exact Np.low_sub hp.np_ok hk
     have h2:p.high.np.sub p.np:=by rw[Pq.high_np hp hh];exact Np.high_sub hp.np_ok hk
     have i1:=q5j hl n p.low hlg
     have i2:=q5j hl n p.high hhg
     have hc:=qbeh (A:=fun b=>ovP (pqY b) p.low) (B:=fun b=>ovP (pqY b) p.high) (C:=fun b=>ovP (pqY b) p) l (fun b hb h=>q5h hp hlg (hl b hb) h1 h) (fun b hb h=>q5h hp hhg (hl b hb) h2 h) (fun b hb ha hb'=>by
      have hbg:=hl b hb
      have hnw:winP p (pqY b)=false:=by
       rw[List.any_eq_false]at hW
       simpa using hW b hb
      have hns:¬p.np.sub (pqY b).np:=fun h=>by rw[(qkz hp hbg).2 h]at hnw;cases hnw
      unfold ovP at ha hb'
      rw[Bool.or_eq_true,qkz hbg hlg,qkz hlg hbg,Pq.low_np hp hh]at ha
      rw[Bool.or_eq_true,qkz hbg hhg,qkz hhg hbg,Pq.high_np hp hh]at hb'
      have hlo:=Np.low_ok hp.np_ok hk
      have hho:=Np.high_ok hp.np_ok hk
      rcases ha with ha|ha<;>rcases hb' with hb'|hb'
      · exact Np.not_both hp.np_ok hbg.np_ok hk ha hb'
      · exact Np.not_both hp.np_ok hho hk (Np.sub_trans hb' ha) (Np.sub_refl hho)
      · exact Np.not_both hp.np_ok hlo hk (Np.sub_refl hlo) (Np.sub_trans ha hb')
      · exact hns (Np.both hp.np_ok hbg.np_ok hk ha hb'))
     have hpos:0<(l.filter fun b=>ovP (pqY b) p).length:=by
      obtain⟨b,hb,h⟩:=List.any_eq_true.1 hO
      exact List.length_pos_of_mem (List.mem_filter.2 ⟨hb,h⟩)
     simp only[Bool.not_true,cond_f,cond_t,List.length_append]
     generalize (l.filter fun b=>ovP (pqY b) p).length=c at*
     generalize (l.filter fun b=>ovP (pqY b) p.low).length=c1 at*
     generalize (l.filter fun b=>ovP (pqY b) p.high).length=c2 at*
     have e1:(c1+c2)*n<=c*n:=Nat.mul_le_mul_right _ hc
     rw[Nat.add_mul]at e1
     rw[Nat.mul_add]
     omega
theorem qbhk {l:LA}(hl:qhx l)(hn:l.length<=1000){n:Nat}(hn2:n<=200){p:Pq}(hp:p.good):(qe8 l n p).length<=200001:=by
 have h1:=q5j hl n p hp
 have h2:(l.filter fun b=>ovP (pqY b) p).length<=1000:=Nat.le_trans (List.length_filter_le _ _) hn
 have h3:(l.filter fun b=>ovP (pqY b) p).length*n<=1000*200:=Nat.mul_le_mul h2 hn2
 omega
theorem qbkg (v6:Bool)(hi lo bits:Int)(w6:Bool)(whi wlo wbits:Int):qr9 v6 hi lo bits w6 whi wlo wbits=some (ovP ⟨v6,hi,lo,bits⟩ ⟨w6,whi,wlo,wbits⟩):=by
 rw[q6k];unfold qlb ovP winP
 simp only[q5e,oB_s]
 cases ql6 v6 hi lo bits w6 whi wlo wbits<;>simp
theorem qbpv {R:Type}{a:LA}(x:AV)(h:(a.length+1)*32<=140737488355328)(k:Option R):(bif decide ((a.length+([x]:List AV).length)*32<=140737488355328)then k else none)=k:=by
 rw[show([x]:List AV).length=1 from rfl,decide_eq_true h];rfl
theorem qbl9 (rec:List AV->List AV->Bool->Int->Int->Int->Option (List AV))(l:LA)(hl:qbb l)(hn:l.length<=1000)(a:LA)(p:Pq)(kx:List AV->Option (List AV)):
 qkp rec l (l.length:Int) a p.v p.hi p.lo p.bits kx FU 0 []=bif l.any (fun b=>winP p (pqY b))then some a else kx (l.filter fun b=>ovP (pqY b) p):=by
 rw[qui]
 have key:=qe6 (σ:=List AV) l hl.1 (fun n i s=>qld rec l (l.length:Int) a p.v p.hi p.lo p.bits kx n i s) (fun i s nx=>qgu rec l (l.length:Int) i a p.v p.hi p.lo p.bits s nx kx) (fun _ _ _=>rfl)
  (fun i s=>s.length<=i) (fun r s=>bif r.any (fun b=>winP p (pqY b))then some a else kx (s++r.filter fun b=>ovP (pqY b) p)) ?_ ?_ [] FU (by simp) (qgo (by have:=hl.1;omega))
 · exact key
 · intro s nx _;simp[qgu]
 · intro i y r s nx g1 g2 g3 g4 h2 h5
   have hy:=hl.2 y (List.mem_of_getElem? g2)
   have h6:(i:Int)<(l.length:Int):=by omega
   have hyy:=qsx hy.1
   unfold mkB at hyy
   have n1:=h5 (s++[y]) (by simp;omega)
   have n2:=h5 s (by omega)
   unfold qgu
   simp only[h6,decide_true,cond_t,ixB_nat,g2,oB_s,hy.1,g4,q5e,qbkg,hyy,hd_self]
   rw[qbl6 y (a:=s) (by omega),n1,n2,List.any_cons,List.filter_cons]
   rw[show ql6 p.v p.hi p.lo p.bits (gB y.cells 0) (gI y.cells 1) (gI y.cells 2) (gI y.cells 3)=winP p (pqY y)from rfl]
   rw[show ovP ⟨gB y.cells 0,gI y.cells 1,gI y.cells 2,gI y.cells 3⟩ ⟨p.v,p.hi,p.lo,p.bits⟩=ovP (pqY y) p from rfl]
   cases winP p (pqY y)<;>cases ovP (pqY y) p<;>simp
theorem qbnq {α:Type}(l:List α)(q:α->Bool):(((l.filter q).length:Int)==0)= !(l.any q):=by
 rw[Bool.eq_iff_iff]
 simp only[beq_iff_eq,Bool.not_eq_true',List.any_eq_false]
 constructor
 · intro h x hx
   have:l.filter q=[]:=List.eq_nil_of_length_eq_zero (by omega)
   simpa using List.filter_eq_nil_iff.1 this x hx
 · intro h
   have:l.filter q=[]:=List.filter_eq_nil_iff.2 h
   rw[this];rfl
theorem qbhl:∀(n:Nat) (p:Pq),p.good->p.np.k+1=n->∀(m:Nat),n<=m->∀(a l:LA),qbb l->qhx l->l.length<=1000->a.length+(qe8 l n p).length<=1000000000->
 qdu m a l p.v p.hi p.lo p.bits=some (a++(qe8 l n p).map Pq.av)
 |0,p,hp,hk,_,_,_,_,_,_,_,_=>by omega
 |n+1,p,hp,hk,m,hm,a,l,hl,hg,hn,hsz=>by
  obtain⟨m,rfl⟩:∃j,m=j+1:=⟨m-1,by omega⟩
  show qpg (qdu m) a l p.v p.hi p.lo p.bits=_
  unfold qpg
  simp only[hd_self,qwy,List.length_nil,Bool.and_self,cond_t]
  rw[qbl9 _ l hl hn,qbnq]
  unfold qe8 at hsz⊢
  cases hW:l.any fun b=>winP p (pqY b)with
  |true=>simp
  |false=>
   simp only[hW,cond_f]at hsz⊢
   cases hO:l.any fun b=>ovP (pqY b) p with
   |false=>
    have hsz':a.length+1<=1000000000:=by simpa[hO]using hsz
    simp only[hO,Bool.not_false,cond_t,hd_self]
    rw[qbpv _ (by omega)]
    rfl
   |true=>
    simp only[hO,Bool.not_true,cond_f]at hsz⊢
    rw[qbeg p.v p.hi p.lo p.bits hp.2.1 hp.2.2]
    simp only[oB_s]
    unfold qzu
    cases hh:qky p.v p.hi p.lo p.bits with
    |false=>
     have hh':p.half=false:=hh
     simp only[hh',cond_f,Bool.not_false,cond_t]
     simp
    |true=>
     have hh':p.half=true:=hh
     have hkk:=(Pq.half_iff hp).1 hh'
     have hlg:=Pq.low_good hp hh'
     have hhg:=Pq.high_good hp hh'
     have h1:p.low.np.sub p.np:=by rw[Pq.low_np hp hh'];exact Np.low_sub hp.np_ok hkk
     have h2:p.high.np.sub p.np:=by rw[Pq.high_np hp hh'];exact Np.high_sub hp.np_ok hkk
     have k1:p.low.np.k+1=n:=by rw[Pq.low_np hp hh'];show p.np.k-1+1=n;omega
     have k2:p.high.np.k+1=n:=by rw[Pq.high_np hp hh'];show p.np.k-1+1=n;omega
     have f1:=q5i hg hp n p.low hlg h1
     have f2:=q5i hg hp n p.high hhg h2
     have hf:qbb (l.filter fun b=>ovP (pqY b) p):=⟨Nat.le_trans (List.length_filter_le _ _) hl.1,fun y hy=>hl.2 y (List.mem_filter.1 hy).1⟩
     have hfg:qhx (l.filter fun b=>ovP (pqY b) p):=fun y hy=>hg y (List.mem_filter.1 hy).1
     have hfn:(l.filter fun b=>ovP (pqY b) p).length<=1000:=Nat.le_trans (List.length_filter_le _ _) hn
     simp only[hh',cond_t,List.length_append]at hsz⊢
     have r1:=qbhl n p.low hlg k1 m (by omega) a _ hf hfg hfn (by rw[f1];omega)
     have r2:=qbhl n p.high hhg k2 m (by omega) (a++(qe8 l n p.low).map Pq.av) _ hf hfg hfn (by rw[f2];simp only[List.length_append,List.length_map];omega)
     rw[f1]at r1
     rw[f2]at r2
     simp only[Bool.not_true,cond_f,hd_self,cond_t,Bool.and_self]
     rw[show qdu m a (l.filter fun b=>ovP (pqY b) p) (gB (lowP p.v p.hi p.lo p.bits).cells 0) (gI (lowP p.v p.hi p.lo p.bits).cells 1) (gI (lowP p.v p.hi p.lo p.bits).cells 2) (gI (lowP p.v p.hi p.lo p.bits).cells 3)=some (a++(qe8 l n p.low).map Pq.av)from r1]
     simp only[oB_s,hd_self,cond_t]
     rw[show qdu m (a++(qe8 l n p.low).map Pq.av) (l.filter fun b=>ovP (pqY b) p) (gB (q1k p.v p.hi p.lo p.bits).cells 0) (gI (q1k p.v p.hi p.lo p.bits).cells 1) (gI (q1k p.v p.hi p.lo p.bits).cells 2) (gI (q1k p.v p.hi p.lo p.bits).cells 3)=some (a++(qe8 l n p.low).map Pq.av++(qe8 l n p.high).map Pq.av)from r2]
     simp
theorem qij {l:LA}(hl:qbb l)(ht:qct l):qhx l:=fun y hy=>by
 obtain⟨j,hj⟩:=List.getElem?_of_mem hy
 exact⟨(ht j y hj).p,(hl.2 y hy).2.1,(hl.2 y hy).2.2.1⟩
theorem q1l {p q:Pq}(hp:p.good)(hq:q.good):qpv p.v p.hi p.lo p.bits q.v q.hi q.lo q.bits=true↔p.np.sub q.np/\p.np.k<q.np.k:=by
 unfold qpv
 rw[Bool.and_eq_true,decide_eq_true_eq,show ql6 p.v p.hi p.lo p.bits q.v q.hi q.lo q.bits=winP p q from rfl,qkz hp hq]
 obtain⟨a1,a2,a3,_⟩:=hp.range
 obtain⟨b1,b2,b3,_⟩:=hq.range
 constructor
 · rintro⟨h1,h2⟩
   refine⟨h2,?_⟩
   have:p.v=q.v:=h2.1
   rw[this]at a3;omega
 · rintro⟨h1,h2⟩
   refine⟨?_,h1⟩
   have:p.v=q.v:=h1.1
   rw[this]at a3;omega
def qpx (l:LA)(p:Pq):List AV:=l.filter fun y=>qpv (gB y.cells 0) (gI y.cells 1) (gI y.cells 2) (gI y.cells 3) p.v p.hi p.lo p.bits
def qbkh (l:LA)(p:Pq):List AV:=
 bif(match l.find? (atP p.v p.hi p.lo p.bits)with|some y=>gI y.cells 4==1|none=>false)then(qe8 (qpx l p) (p.np.k+1) p).map Pq.av else[]
theorem q5k {l:LA}(hg:qhx l){p:Pq}{y:AV}(hy:l.find? (atP p.v p.hi p.lo p.bits)=some y):p.good/\pqY y=p:=by
 have h1:=List.find?_some hy
 obtain⟨a,b,c,d⟩:=qit.1 h1
 have e:pqY y=p:=by unfold pqY;rw[a,b,c,d]
 have:=hg y (List.mem_of_find?_eq_some hy)
 rw[e]at this
 exact⟨this,e⟩
theorem qbry {n:Nat}(h:n<=1000):n<=FU:=by rw[qboj];omega
theorem qbma (y:AV):gI (blkV y).cells 4=gI y.cells 4:=rfl
theorem qbq1 (l:LA)(hl:qbb l)(hg:qhx l)(hn:l.length<=1000)(p:Pq):qs0 l p.v p.hi p.lo p.bits=some (qbkh l p):=by
 rw[qbb2];unfold qph qbkh
 rw[q5y l hl]
 simp only[oB_s]
 unfold qx4
 cases hf:l.find? (atP p.v p.hi p.lo p.bits)with
 |none=>rfl
 |some y=>
  obtain⟨hp,_⟩:=q5k hg hf
  simp only[qbma,Bool.not_true,Bool.false_or]
  cases hk:gI y.cells 4==1 with
  |false=>
   have:(gI y.cells 4 != 1)=true:=by unfold bne;rw[hk];rfl
   rw[this];rfl
  |true=>
   have:(gI y.cells 4 != 1)=false:=by unfold bne;rw[hk];rfl
   rw[this]
   simp only[cond_f,qwy,List.length_nil,Bool.and_self,cond_t]
   have lp:∀kx:List AV->Option (List AV),qq8 l (l.length:Int) p.v p.hi p.lo p.bits kx FU 0 []=kx (qpx l p):=by
    intro kx
    rw[q3t]
    have key:=qe6 (σ:=List AV) l hl.1 (fun n i s=>qh4 l (l.length:Int) p.v p.hi p.lo p.bits kx n i s) (fun i s nx=>qh3 l (l.length:Int) i p.v p.hi p.lo p.bits s nx kx) (fun _ _ _=>rfl)
     (fun i s=>s.length<=i) (fun r s=>kx (s++qpx r p)) ?_ ?_ [] FU (by simp) (qgo (by have:=hl.1;omega))
    · exact key
    · intro s nx _;simp[qh3,qpx]
    · intro i y r s nx g1 g2 g3 g4 h2 h5
      have hy:=hl.2 y (List.mem_of_getElem? g2)
      have h6:(i:Int)<(l.length:Int):=by omega
      have hyy:=qsx hy.1
      unfold mkB at hyy
      have n1:=h5 (s++[y]) (by simp;omega)
      have n2:=h5 s (by omega)
      unfold qh3
      simp only[h6,decide_true,cond_t,ixB_nat,g2,oB_s,hy.1,g4,qbhg,hyy,hd_self]
      rw[qbl6 y (a:=s) (by omega),n1,n2]
      unfold qpx
      rw[List.filter_cons]
      cases qpv (gB y.cells 0) (gI y.cells 1) (gI y.cells 2) (gI y.cells 3) p.v p.hi p.lo p.bits<;>simp
   rw[lp]
   simp only[hd_self,cond_t]
   have hf2:qbb (qpx l p):=⟨Nat.le_trans (List.length_filter_le _ _) hl.1,fun y hy=>hl.2 y (List.mem_filter.1 hy).1⟩
   have hfg:qhx (qpx l p):=fun y hy=>hg y (List.mem_filter.1 hy).1
   have hfn:(qpx l p).length<=1000:=Nat.le_trans (List.length_filter_le _ _) hn
   have hk2:=hp.range.2.2.2
   have:=qbhl (p.np.k+1) p hp rfl FU (qbry (by omega)) [] (qpx l p) hf2 hfg hfn (by have:=qbhk hfg hfn (n:=p.np.k+1) (by omega) hp;simp;omega)
   rw[qy1,this]
   simp
theorem qu5 {l:LA}:qct l↔(∀y,y∈l->qj0 y=true/\mayB y=true)/\l.Pairwise fun x y=>ltY x y/\qb4 y x=false:=by
 constructor
 · intro h
   refine⟨fun y hy=> ?_,List.pairwise_iff_getElem.2 fun i j hi hj hij=> ?_⟩
   · obtain⟨j,hj⟩:=List.getElem?_of_mem hy
     exact⟨(h j y hj).p,(h j y hj).may⟩
   · have h1:l[i]?=some l[i]:=by simp
     have h2:l[j]?=some l[j]:=by simp
     exact⟨h.sorted i _ h1 j _ hij h2,(h j _ h2).bar i _ hij h1⟩
 · rintro⟨h1,h2⟩ j y hy
   rw[List.pairwise_iff_getElem]at h2
   obtain⟨hj,rfl⟩:=List.getElem?_eq_some_iff.1 hy
   refine⟨(h1 _ (List.getElem_mem hj)).1,(h1 _ (List.getElem_mem hj)).2,fun i z hji hz=> ?_,fun k z hk hz=> ?_⟩
   · obtain⟨hi,rfl⟩:=List.getElem?_eq_some_iff.1 hz
     exact(h2 i j hi hj (by omega)).1
   · obtain⟨hi,rfl⟩:=List.getElem?_eq_some_iff.1 hz
     exact(h2 k j hi hj hk).2
theorem qct.rem {l:LA}(ht:qct l)(v:Bool)(hi lo bits:Int):qct (remF l v hi lo bits):=by
 rw[qu5]at ht⊢
 exact⟨fun y hy=>ht.1 y (List.mem_filter.1 hy).1,ht.2.filter _⟩
theorem qbnr {l:LA}(hl:qbb l)(v:Bool)(hi lo bits:Int):qbb (remF l v hi lo bits):=⟨Nat.le_trans (List.length_filter_le _ _) hl.1,fun y hy=>hl.2 y (List.mem_filter.1 hy).1⟩
theorem q8u {l:LA}(hl:qbb l)(hn:l.length<=100000){b:AV}(hb:qkx b):qbb (insF b l):=⟨by rw[q1i];omega,fun y hy=>by
 rcases qlo.1 hy with rfl|h
 · exact hb
 · exact hl.2 y h⟩
theorem q1m {l:LA}(hl:qbb l){v:Bool}{hi lo bits:Int}{y:AV}(h:l.find? (atP v hi lo bits)=some y):qx4 l v hi lo bits=(y,true):=by
 unfold qx4;rw[h];simp only
 rw[qbee (hl.2 y (List.mem_of_find?_eq_some h)).1]
theorem qbki {l:LA}{v:Bool}{hi lo bits:Int}(h:l.find? (atP v hi lo bits)=none):qx4 l v hi lo bits=(blk0,false):=by
 unfold qx4;rw[h]
theorem pick {l:LA}{n:Int}(hn:0<=n/\n<=255)(h0:0<l.length)(hl:l.length<=1000):
 ∃y,ixB l ((IntKind.i64.wrap n).tmod (l.length:Int))=some y/\y∈l:=by
 obtain⟨m,rfl⟩:=Int.eq_ofNat_of_zero_le hn.1
 rw[w64 (by omega) (by omega),<-Int.ofNat_tmod,ixB_nat]
 have hlt:=Nat.mod_lt m h0
 refine⟨l[m%l.length],?_,List.getElem_mem _⟩
 simp[hlt]
def atY (b y:AV):Bool:=atP (gB b.cells 0) (gI b.cells 1) (gI b.cells 2) (gI b.cells 3) y
theorem q50 {b y:AV}:atY b y=true↔pqY y=pqY b:=by
 unfold atY;rw[qit];unfold pqY
 constructor
 · rintro⟨h1,h2,h3,h4⟩;rw[h1,h2,h3,h4]
 · intro h;injection h with h1 h2 h3 h4;exact⟨h1,h2,h3,h4⟩
theorem qbq2 {y b:AV}(h:cmpY y b>0):ltY b y:=(qj1 b y).2.2.1 ((qj1 y b).1.1 h)
theorem qbq3 {y b:AV}(h:¬cmpY y b>0)(hne:atY b y=false):ltY y b:=by
 refine(qj1 y b).2.2.1 ?_
 have:cmpY y b≠0:=fun h0=>by
  have:=q1g.1 (qsv.2 h0)
  rw[show atY b y=true from qit.2 this]at hne;cases hne
 omega
theorem qbq4 {y b:AV}(h:ltY y b):¬cmpY y b>0:=by
 have:=(qj1 y b).2.2.2 h
 omega
theorem qbct {y b:AV}(h:ltY b y):cmpY y b>0:=(qj1 y b).1.2 ((qj1 b y).2.2.2 h)
theorem qbei {b:AV}:∀{l:LA},l.Pairwise (fun x y=>ltY x y/\qb4 y x=false)->(∀z,z∈l->atY b z=false/\qb4 b z=false/\qb4 z b=false)->(insF b l).Pairwise fun x y=>ltY x y/\qb4 y x=false
 |[],_,_=>by simp[insF]
 |y::r,hp,h=>by
  rw[List.pairwise_cons]at hp
  rw[qx6]
  by_cases hc:cmpY y b>0
  · simp only[hc,decide_true,cond_t]
    have hby:=qbq2 hc
    refine List.pairwise_cons.2 ⟨fun z hz=> ?_,List.pairwise_cons.2 hp⟩
    refine⟨?_,(h z hz).2.2⟩
    rcases List.mem_cons.1 hz with rfl|hz'
    · exact hby
    · exact qtu hby (hp.1 z hz').1
  · simp only[hc,decide_false,cond_f]
    have h0:=h y (by simp)
    refine List.pairwise_cons.2 ⟨fun z hz=> ?_,qbei hp.2 fun z hz=>h z (List.mem_cons_of_mem _ hz)⟩
    rcases qlo.1 hz with rfl|hz'
    · exact⟨qbq3 hc h0.1,h0.2.1⟩
    · exact hp.1 z hz'
theorem qct.ins {l:LA}(ht:qct l){b:AV}(h1:qj0 b=true)(h2:mayB b=true)(h:∀z,z∈l->atY b z=false/\qb4 b z=false/\qb4 z b=false):qct (insF b l):=by
 obtain⟨a1,a2⟩:=qu5.1 ht
 refine qu5.2 ⟨fun y hy=> ?_,qbei a2 h⟩
 rcases qlo.1 hy with rfl|hy'
 · exact⟨h1,h2⟩
 · exact a1 y hy'
theorem qbhm {q:AV->Bool}{b:AV}(hb:q b=false):∀l:List AV,(insF b l).filter q=l.filter q
 |[]=>by simp[insF,hb]
 |y::r=>by
  rw[qx6]
  cases decide (cmpY y b>0)with
  |true=>simp only[cond_t];rw[List.filter_cons];simp[hb]
  |false=>simp only[cond_f];rw[List.filter_cons,List.filter_cons,qbhm hb r]
theorem qbbc {q:AV->Bool}{l:LA}(h:∀z,z∈l->q z=true):l.filter q=l:=List.filter_eq_self.2 h
theorem qbcu {y:AV}:∀{l:LA},l.Pairwise ltY->y∈l->insF y (l.filter fun z=> !atY y z)=l
 |[],_,h=>by simp at h
 |x::r,hp,hm=>by
  rw[List.pairwise_cons]at hp
  have hyy:atY y y=true:=q50.2 rfl
  have nat:∀a b:AV,ltY a b->atY b a=false/\atY a b=false:=fun a b hab=>by
   constructor
   · cases hq:atY b a with
     |false=>rfl
     |true=>
      have:=qbct hab
      have h0:=qsv.1 (q1g.2 (qit.1 hq))
      have h1:=(qj1 a b).2.2.2 hab
      omega
   · cases hq:atY a b with
     |false=>rfl
     |true=>
      have h0:=qsv.1 (q1g.2 (qit.1 hq))
      have:=qbct hab
      omega
  rcases List.mem_cons.1 hm with rfl|hm'
  · have e:(r.filter fun z=> !atY y z)=r:=qbbc fun z hz=>by rw[(nat y z (hp.1 z hz)).2];rfl
    rw[List.filter_cons,hyy]
    simp only[Bool.not_true,Bool.false_eq_true,if_false,e]
    cases r with
    |nil=>rfl
    |cons z r=>rw[qx6];simp only[qbct (hp.1 z (by simp)),decide_true,cond_t]
  · have hxy:=hp.1 y hm'
    rw[List.filter_cons,(nat x y hxy).1]
    simp only[Bool.not_false,if_true]
    rw[qx6]
    simp only[qbq4 hxy,decide_false,cond_f]
    rw[qbcu hp.2 hm']
theorem qbjf {l:LA}(ht:qct l):l.Pairwise ltY:=(qu5.1 ht).2.imp fun h=>h.1
theorem qbhn {l:LA}(ht:qct l){y:AV}(hy:y∈l):(remF l (pqY y).v (pqY y).hi (pqY y).lo (pqY y).bits).length+1=l.length:=by
 have:=congrArg List.length (qbcu (qbjf ht) hy)
 rw[q1i]at this
 exact this
def barK (ky kz:Int):Bool:=bif kz==3 then true else bif kz==2 then ky != 3 else false
theorem q51 {y z:AV}(hy:(pqY y).good)(hz:(pqY z).good):qb4 y z=false↔((pqY y).np.sub (pqY z).np->(pqY y).np.k<(pqY z).np.k->barK (gI y.cells 4) (gI z.cells 4)=false):=by
 have e:qb4 y z=bif qpv (pqY y).v (pqY y).hi (pqY y).lo (pqY y).bits (pqY z).v (pqY z).hi (pqY z).lo (pqY z).bits then barK (gI y.cells 4) (gI z.cells 4)else false:=by
  unfold qb4 qpv
  rw[Bool.and_comm];rfl
 rw[e]
 cases hl:qpv (pqY y).v (pqY y).hi (pqY y).lo (pqY y).bits (pqY z).v (pqY z).hi (pqY z).lo (pqY z).bits with
 |true=>obtain⟨h1,h2⟩:=(q1l hy hz).1 hl;simp[h1,h2]
 |false=>
  simp only[cond_f,true_iff]
  intro h1 h2
  rw[(q1l hy hz).2 ⟨h1,h2⟩]at hl;cases hl
theorem qct.bars {l:LA}(hl:qbb l)(ht:qct l){y z:AV}(hy:y∈l)(hz:z∈l):qb4 y z=false:=by
 have hg:=qij hl ht
 refine(q51 (hg y hy) (hg z hz)).2 fun h1 h2=> ?_
 have hw:winP (pqY y) (pqY z)=true:=(qkz (hg y hy) (hg z hz)).2 h1
 obtain⟨j,hj⟩:=List.getElem?_of_mem hy
 obtain⟨i,hi⟩:=List.getElem?_of_mem hz
 have hne:atP (gB z.cells 0) (gI z.cells 1) (gI z.cells 2) (gI z.cells 3) y=false:=by
  cases hq:atP (gB z.cells 0) (gI z.cells 1) (gI z.cells 2) (gI z.cells 3) y with
  |false=>rfl
  |true=>rw[q50.1 hq]at h2;omega
 obtain⟨h3,_⟩:=qbfe (hl.2 y hy) hw hne
 have hij:i<j:=by
  rcases Nat.lt_trichotomy i j with h|h|h
  · exact h
  · subst h;rw[hi]at hj;cases hj;exact absurd h3 qe0
  · exact absurd (qtu h3 (ht.sorted j y hj i z h hi)) qe0
 exact(q51 (hg y hy) (hg z hz)).1 ((ht j y hj).bar i z hij hi) h1 h2
theorem qbjg {l:LA}(hg:qhx l){p:Pq}(hp:p.good):occF l p.v p.hi p.lo p.bits=false↔∀y,y∈l->¬((pqY y).np.sub p.np/\(pqY y).np.k<p.np.k):=by
 unfold occF
 rw[List.any_eq_false]
 constructor
 · intro h y hy h2;exact h y hy ((q1l (p:=pqY y) (hg y hy) hp).2 h2)
 · intro h y hy h2;exact h y hy ((q1l (p:=pqY y) (hg y hy) hp).1 h2)
theorem qbjh {l:LA}{b:AV}:l.any (atP (gB b.cells 0) (gI b.cells 1) (gI b.cells 2) (gI b.cells 3))=false↔∀z,z∈l->atY b z=false:=by
 rw[List.any_eq_false]
 constructor
 · intro h z hz;have:=h z hz;unfold atY;simpa using this
 · intro h z hz;have:=h z hz;unfold atY at this;rw[this];simp
theorem q1n {l:LA}(hl:qbb l)(ht:qct l){b:AV}(hb:qkx b)(h:(addF l b).2=0):
 (addF l b).1=insF b l/\qct (insF b l)/\qbj (insF b l) (gB b.cells 0) (gI b.cells 1) (gI b.cells 2) (gI b.cells 3)=(l,0):=by
 have hg:=qij hl ht
 unfold addF at*
 cases hp:qj0 b with
 |false=>simp[hp]at h
 |true=>
 cases hm:mayB b with
 |false=>simp[hp,hm]at h
 |true=>
 cases ha:l.any (atP (gB b.cells 0) (gI b.cells 1) (gI b.cells 2) (gI b.cells 3))with
 |true=>simp[hp,hm,ha]at h
 |false=>
 cases hbr:(l.any (qb4 b)||occF l (gB b.cells 0) (gI b.cells 1) (gI b.cells 2) (gI b.cells 3))with
 |true=>simp only[hp,hm,ha,hbr,Bool.not_true,cond_f,cond_t]at h;cases h
 |false=>
 rw[hp,hm,ha,hbr]at h
 simp only[Bool.not_true,cond_f]at*
 cases h512:decide ((l.length:Int)>=512)with
 |true=>rw[h512]at h;simp at h
 |false=>
 simp only[cond_f]
 rw[Bool.or_eq_false_iff]at hbr
 have hbg:(pqY b).good:=⟨hp,hb.2.1,hb.2.2.1⟩
 have ho:=(qbjg (p:=pqY b) hg hbg).1 hbr.2
 have hat:=qbjh.1 ha
 have key:∀z,z∈l->atY b z=false/\qb4 b z=false/\qb4 z b=false:=fun z hz=>by
  refine⟨hat z hz,?_,?_⟩
  · have:=List.any_eq_false.1 hbr.1 z hz;simpa using this
  · exact(q51 (hg z hz) hbg).2 fun h1 h2=>absurd ⟨h1,h2⟩ (ho z hz)
 have hT:=ht.ins hp hm key
 refine⟨trivial,hT,?_⟩
 unfold qbj
 have e1:(insF b l).any (atP (gB b.cells 0) (gI b.cells 1) (gI b.cells 2) (gI b.cells 3))=true:=List.any_eq_true.2 ⟨b,qlo.2 (.inl rfl),qit.2 ⟨rfl,rfl,rfl,rfl⟩⟩
 have e2:occF (insF b l) (gB b.cells 0) (gI b.cells 1) (gI b.cells 2) (gI b.cells 3)=false:=by
  refine(qbjg (p:=pqY b) (l:=insF b l) (fun y hy=> ?_) hbg).2 fun y hy=> ?_
  · rcases qlo.1 hy with rfl|hy'
    · exact hbg
    · exact hg y hy'
  · rcases qlo.1 hy with rfl|hy'
    · intro h;omega
    · exact ho y hy'
 have e3:remF (insF b l) (gB b.cells 0) (gI b.cells 1) (gI b.cells 2) (gI b.cells 3)=l:=by
  unfold remF
  rw[qbhm (b:=b) (by simp[atP]) l]
  exact qbbc fun z hz=>by have:=hat z hz;unfold atY at this;rw[this];rfl
 rw[e1,e2,e3];rfl
theorem qbho {p:Pq}(hp:p.good)(h:p.half=true):p.low.np.sub p.np/\p.high.np.sub p.np/\p.low.np.k+1=p.np.k/\p.high.np.k+1=p.np.k:=by
 have hk:=(Pq.half_iff hp).1 h
 rw[Pq.low_np hp h,Pq.high_np hp h]
 refine⟨Np.low_sub hp.np_ok hk,Np.high_sub hp.np_ok hk,?_,?_⟩
 · show p.np.k-1+1=p.np.k;omega
 · show p.np.k-1+1=p.np.k;omega
theorem qbmb {l:LA}{q:AV->Bool}{y:AV}(hy:y∈l)(hq:q y=true)(h:∀z,z∈l->q z=true->z=y):l.find? q=some y:=by
 cases hf:l.find? q with
 |none=>have:=List.find?_eq_none.1 hf y hy;rw[hq]at this;simp at this
 |some z=>rw[h z (List.mem_of_find?_eq_some hf) (List.find?_some hf)]
theorem qyo {l:LA}(hl:qbb l)(ht:qct l){v:Bool}{hi lo bits:Int}(h:(qbj l v hi lo bits).2=0):
 qbb (qbj l v hi lo bits).1/\qct (qbj l v hi lo bits).1/\(qbj l v hi lo bits).1.length+1=l.length:=by
 unfold qbj at*
 cases h1:l.any (atP v hi lo bits)with
 |false=>rw[h1]at h;cases h
 |true=>
 cases h2:occF l v hi lo bits with
 |true=>rw[h1,h2]at h;cases h
 |false=>
 simp only[Bool.not_true,cond_f]
 obtain⟨y,hy,ha⟩:=List.any_eq_true.1 h1
 obtain⟨a,b,c,d⟩:=qit.1 ha
 have:=qbhn ht hy
 unfold pqY at this
 simp only[a,b,c,d]at this
 exact⟨qbnr hl v hi lo bits,ht.rem v hi lo bits,this⟩
def betR (b0:Option AV)(y:AV):Bool:=match b0 with
 |none=>true
 |some x=>decide (gI y.cells 3>gI x.cells 3)
theorem qbbd (q:AV->Bool)(b0:Option AV)(y:AV)(r:LA):qoo q b0 (y::r)=qoo q (bif q y&&betR b0 y then some y else b0) r:=by cases b0<;>rfl
theorem q1o {q:AV->Bool}{b:AV}:∀{l:LA} {b0:Option AV},qoo q b0 l=some b->(b0=some b\/b∈l/\q b=true)/\(∀z,z∈l->q z=true->gI z.cells 3<=gI b.cells 3)/\∀x,b0=some x->gI x.cells 3<=gI b.cells 3
 |[],b0,h=>by
  unfold qoo at h;subst h
  exact⟨.inl rfl,fun z hz=>by simp at hz,fun x hx=>by cases hx;exact Int.le_refl _⟩
 |y::r,b0,h=>by
  rw[qbbd]at h
  cases hc:(q y&&betR b0 y)with
  |true=>
   rw[hc]at h
   simp only[cond_t]at h
   obtain⟨h1,h2,h3⟩:=q1o h
   rw[Bool.and_eq_true]at hc
   have hy:=h3 y rfl
   refine⟨?_,?_,?_⟩
   · rcases h1 with h1|⟨h1,h1'⟩
     · cases h1;exact .inr ⟨by simp,hc.1⟩
     · exact .inr ⟨List.mem_cons_of_mem _ h1,h1'⟩
   · intro z hz hq
     rcases List.mem_cons.1 hz with rfl|hz
     · exact hy
     · exact h2 z hz hq
   · intro x hx
     subst hx
     have:=hc.2
     simp only[betR,decide_eq_true_eq]at this
     omega
  |false=>
   rw[hc]at h
   simp only[cond_f]at h
   obtain⟨h1,h2,h3⟩:=q1o h
   refine⟨?_,?_,h3⟩
   · rcases h1 with h1|⟨h1,h1'⟩
     · exact .inl h1
     · exact .inr ⟨List.mem_cons_of_mem _ h1,h1'⟩
   · intro z hz hq
     rcases List.mem_cons.1 hz with rfl|hz
     · rw[hq]at hc
       cases b0 with
       |none=>simp[betR]at hc
       |some x=>
        have:=h3 x rfl
        simp only[betR,Bool.true_and,decide_eq_false_iff_not]at hc
        omega
     · exact h2 z hz hq
theorem qbbe {q:AV->Bool}:∀{l:LA} {b0:Option AV},qoo q b0 l=none->b0=none/\∀z,z∈l->q z=false
 |[],b0,h=>by unfold qoo at h;exact⟨h,fun z hz=>by simp at hz⟩
 |y::r,b0,h=>by
  rw[qbbd]at h
  obtain⟨h1,h2⟩:=qbbe h
  cases hq:q y with
  |true=>
   rw[hq]at h1
   cases b0 with
   |none=>simp[betR]at h1
   |some x=>cases hd:betR (some x) y<;>simp[hd]at h1
  |false=>
   rw[hq]at h1
   simp only[Bool.false_and,cond_f]at h1
   refine⟨h1,fun z hz=> ?_⟩
   rcases List.mem_cons.1 hz with rfl|hz
   · exact hq
   · exact h2 z hz
theorem qbbf {l:LA}(ht:qct l){y z:AV}(hy:y∈l)(hz:z∈l)(h:pqY z=pqY y):z=y:=by
 obtain⟨i,hi⟩:=List.getElem?_of_mem hy
 obtain⟨j,hj⟩:=List.getElem?_of_mem hz
 have h1:atP (gB y.cells 0) (gI y.cells 1) (gI y.cells 2) (gI y.cells 3) z=true:=q50.2 h
 have:=qct.uniq ht hi hj (qit.2 ⟨rfl,rfl,rfl,rfl⟩) h1
 subst this
 rw[hi]at hj;cases hj;rfl
theorem qbhp {z:AV}(hz:(pqY z).good){w:Bool}{ahi alo:Int}(u3:uok ahi)(u4:uok alo):qjz (gB z.cells 0) (gI z.cells 1) (gI z.cells 2) (gI z.cells 3) w ahi alo=true↔qhk w ahi alo=true/\(⟨w,numP ahi alo,0⟩:Np).sub (pqY z).np:=by
 refine(qbd9 (v6:=gB z.cells 0) (hi:=gI z.cells 1) (lo:=gI z.cells 2) (bits:=gI z.cells 3) hz.2.1 hz.2.2 u3 u4).trans ?_
 unfold Np.sub
 constructor
 · rintro⟨_,h2,h3,h4⟩;exact⟨h2,h3.symm,Nat.zero_le _,h4.symm⟩
 · rintro⟨h1,h2,_,h4⟩;exact⟨hz.1,h1,h2.symm,h4.symm⟩
def hasA (w:Bool)(ahi alo:Int)(z:AV):Bool:=qjz (gB z.cells 0) (gI z.cells 1) (gI z.cells 2) (gI z.cells 3) w ahi alo
theorem q1p {C:LA}(hC:qhx C):∀(n:Nat) (p:Pq),p.good->∀q,q∈qe8 C n p->q.good/\q.np.sub p.np/\∀c,c∈C->ovP (pqY c) q=false
 |0,p,hp,q,hq=>by simp[qe8]at hq
 |n+1,p,hp,q,hq=>by
  unfold qe8 at hq
  cases hW:C.any fun b=>winP p (pqY b)with
  |true=>simp[hW]at hq
  |false=>
   cases hO:C.any fun b=>ovP (pqY b) p with
   |false=>
    simp[hW,hO]at hq
    subst hq
    exact⟨hp,Np.sub_refl hp.np_ok,fun c hc=>by have:=List.any_eq_false.1 hO c hc;simpa using this⟩
   |true=>
    cases hh:p.half with
    |false=>simp[hW,hO,hh]at hq
    |true=>
     rw[hW,hO,hh]at hq
     simp only[cond_f,Bool.not_true,cond_t,List.mem_append]at hq
     obtain⟨s1,s2,_,_⟩:=qbho hp hh
     rcases hq with hq|hq
     · obtain⟨a,b,c⟩:=q1p hC n p.low (Pq.low_good hp hh) q hq
       exact⟨a,Np.sub_trans b s1,c⟩
     · obtain⟨a,b,c⟩:=q1p hC n p.high (Pq.high_good hp hh) q hq
       exact⟨a,Np.sub_trans b s2,c⟩
theorem qbhq (q:Pq):fitC qe q.av.cells=true:=rfl
theorem av_w (q:Pq):gB q.av.cells 0=q.v/\gI q.av.cells 1=q.hi/\gI q.av.cells 2=q.lo/\gI q.av.cells 3=q.bits:=⟨rfl,rfl,rfl,rfl⟩
def betQ (better:Int->Int->Bool)(b:Option Pq)(x:Pq):Bool:=match b with
 |none=>true
 |some q=>better x.bits q.bits
def qix (better:Int->Int->Bool)(bits:Int):Option Pq->List Pq->Option Pq
 |b,[]=>b
 |b,x::r=>qix better bits (bif decide (x.bits<=bits)&&betQ better b x then some x else b) r
theorem qte (better:Int->Int->Bool)(bits:Int)(b:Option Pq)(x:Pq)(r:List Pq):qix better bits b (x::r)=qix better bits (bif decide (x.bits<=bits)&&betQ better b x then some x else b) r:=rfl
def pq0:Pq:=⟨false,0,0,0⟩
def outQ:Option Pq->AV×Bool
 |some q=>(q.av,true)
 |none=>(qpw,false)
theorem q5l {better:Int->Int->Bool}{bits:Int}{q:Pq}:∀{F:List Pq} {b:Option Pq},qix better bits b F=some q->(b=some q\/(q∈F/\q.bits<=bits))
 |[],b,h=>.inl h
 |x::r,b,h=>by
  rw[qte]at h
  rcases q5l h with h1|⟨h1,h2⟩
  · cases hc:decide (x.bits<=bits)&&betQ better b x with
    |true=>
     rw[hc]at h1
     simp only[cond_t]at h1
     cases h1
     rw[Bool.and_eq_true,decide_eq_true_eq]at hc
     exact .inr ⟨by simp,hc.1⟩
    |false=>rw[hc]at h1;exact .inl h1
  · exact .inr ⟨List.mem_cons_of_mem _ h1,h2⟩
theorem qwq (F:List Pq)(hF:F.length<=1000000000)(bits:Int):qe3 (F.map Pq.av) bits=some (outQ (qix (fun _ _=>false) bits none F)):=by
 rw[qoa];unfold qdh
 rw[qmh]
 have hlen:(F.map Pq.av).length=F.length:=List.length_map _
 have key:=qe6 (σ:=Bool×Pq) F (by omega) (fun n i s=>qcb bits (F.map Pq.av) ((F.map Pq.av).length:Int) false 0 0 0 (fun v b0 b1 b2 b3=>some ((.agg [(.bool b0),(.int .u64 b1),(.int .u64 b2),(.int .i64 b3)]),v)) n s.1 i s.2.v s.2.hi s.2.lo s.2.bits)
  (fun i s nx=>qca bits s.1 (F.map Pq.av) ((F.map Pq.av).length:Int) i false 0 0 0 s.2.v s.2.hi s.2.lo s.2.bits (fun e i v hi lo b=>nx i (e,⟨v,hi,lo,b⟩)) (fun v b0 b1 b2 b3=>some ((.agg [(.bool b0),(.int .u64 b1),(.int .u64 b2),(.int .i64 b3)]),v))) (fun _ _ _=>rfl)
  (fun _ s=>s.1=false->s.2=pq0) (fun r s=>some (outQ (qix (fun _ _=>false) bits (bif s.1 then some s.2 else none) r))) ?_ ?_ (false,pq0) FU (fun _=>rfl) (qgo (by omega))
 · exact key
 · rintro⟨e,q⟩ nx h
   rw[<-hlen]
   unfold qca
   simp only[Int.lt_irrefl,decide_false,cond_f]
   cases e with
   |false=>rw[show q=pq0 from h rfl];rfl
   |true=>rfl
 · rintro i x r ⟨e,q⟩ nx g1 g2 g3 g4 h h5
   have ga:(F.map Pq.av)[i]?=some x.av:=by rw[List.getElem?_map,g2];rfl
   have h6:(i:Int)<((F.map Pq.av).length:Int):=by omega
   obtain⟨w0,w1,w2,w3⟩:=av_w x
   unfold qca
   simp only[h6,decide_true,cond_t,ixB_nat,ga,oB_s,qbhq,w0,w1,w2,w3,g4]
   rw[qly];unfold qcs
   rw[qz7];unfold qi1
   rw[qte]
   cases hb:decide (x.bits<=bits)with
   |false=>simp only[cond_f,Bool.false_and];exact h5 (e,q) h
   |true=>
    cases e with
    |false=>simp only[Bool.not_false,cond_t,cond_f,Bool.true_and,betQ];exact h5 (true,x) (fun h=>by cases h)
    |true=>
     simp only[Bool.not_true,cond_t,cond_f,Bool.true_and,betQ,oB_s]
     exact h5 (true,q) (fun h=>by cases h)
theorem qwr (F:List Pq)(hF:F.length<=1000000000)(bits:Int):qe2 (F.map Pq.av) bits=some (outQ (qix (fun a b=>decide (a>b)) bits none F)):=by
 rw[qn9];unfold qdg
 rw[qmf]
 have hlen:(F.map Pq.av).length=F.length:=List.length_map _
 have key:=qe6 (σ:=Bool×Pq) F (by omega) (fun n i s=>qb9 bits (F.map Pq.av) ((F.map Pq.av).length:Int) false 0 0 0 (fun v b0 b1 b2 b3=>some ((.agg [(.bool b0),(.int .u64 b1),(.int .u64 b2),(.int .i64 b3)]),v)) n s.1 i s.2.v s.2.hi s.2.lo s.2.bits)
  (fun i s nx=>qb8 bits s.1 (F.map Pq.av) ((F.map Pq.av).length:Int) i false 0 0 0 s.2.v s.2.hi s.2.lo s.2.bits (fun e i v hi lo b=>nx i (e,⟨v,hi,lo,b⟩)) (fun v b0 b1 b2 b3=>some ((.agg [(.bool b0),(.int .u64 b1),(.int .u64 b2),(.int .i64 b3)]),v))) (fun _ _ _=>rfl)
  (fun _ s=>s.1=false->s.2=pq0) (fun r s=>some (outQ (qix (fun a b=>decide (a>b)) bits (bif s.1 then some s.2 else none) r))) ?_ ?_ (false,pq0) FU (fun _=>rfl) (qgo (by omega))
 · exact key
 · rintro⟨e,q⟩ nx h
   rw[<-hlen]
   unfold qb8
   simp only[Int.lt_irrefl,decide_false,cond_f]
   cases e with
   |false=>rw[show q=pq0 from h rfl];rfl
   |true=>rfl
 · rintro i x r ⟨e,q⟩ nx g1 g2 g3 g4 h h5
   have ga:(F.map Pq.av)[i]?=some x.av:=by rw[List.getElem?_map,g2];rfl
   have h6:(i:Int)<((F.map Pq.av).length:Int):=by omega
   obtain⟨w0,w1,w2,w3⟩:=av_w x
   unfold qb8
   simp only[h6,decide_true,cond_t,ixB_nat,ga,oB_s,qbhq,w0,w1,w2,w3,g4]
   rw[qlw];unfold qcr
   rw[qz6];unfold qi0
   rw[qte]
   cases hb:decide (x.bits<=bits)with
   |false=>simp only[cond_f,Bool.false_and];exact h5 (e,q) h
   |true=>
    cases e with
    |false=>simp only[Bool.not_false,cond_t,cond_f,Bool.true_and,betQ];exact h5 (true,x) (fun h=>by cases h)
    |true=>
     simp only[Bool.not_true,cond_t,cond_f,Bool.true_and,betQ,oB_s]
     by_cases hc:x.bits>q.bits
     · simp only[hc,decide_true,cond_t];exact h5 (true,x) (fun h=>by cases h)
     · simp only[hc,decide_false,cond_f];exact h5 (true,q) (fun h=>by cases h)
theorem qws (F:List Pq)(hF:F.length<=1000000000)(bits:Int):qe1 (F.map Pq.av) bits=some (outQ (qix (fun a b=>decide (a<b)) bits none F)):=by
 rw[qn8];unfold qdf
 rw[qmd]
 have hlen:(F.map Pq.av).length=F.length:=List.length_map _
 have key:=qe6 (σ:=Bool×Pq) F (by omega) (fun n i s=>qb7 bits (F.map Pq.av) ((F.map Pq.av).length:Int) false 0 0 0 (fun v b0 b1 b2 b3=>some ((.agg [(.bool b0),(.int .u64 b1),(.int .u64 b2),(.int .i64 b3)]),v)) n s.1 i s.2.v s.2.hi s.2.lo s.2.bits)
  (fun i s nx=>qb6 bits s.1 (F.map Pq.av) ((F.map Pq.av).length:Int) i false 0 0 0 s.2.v s.2.hi s.2.lo s.2.bits (fun e i v hi lo b=>nx i (e,⟨v,hi,lo,b⟩)) (fun v b0 b1 b2 b3=>some ((.agg [(.bool b0),(.int .u64 b1),(.int .u64 b2),(.int .i64 b3)]),v))) (fun _ _ _=>rfl)
  (fun _ s=>s.1=false->s.2=pq0) (fun r s=>some (outQ (qix (fun a b=>decide (a<b)) bits (bif s.1 then some s.2 else none) r))) ?_ ?_ (false,pq0) FU (fun _=>rfl) (qgo (by omega))
 · exact key
 · rintro⟨e,q⟩ nx h
   rw[<-hlen]
   unfold qb6
   simp only[Int.lt_irrefl,decide_false,cond_f]
   cases e with
   |false=>rw[show q=pq0 from h rfl];rfl
   |true=>rfl
 · rintro i x r ⟨e,q⟩ nx g1 g2 g3 g4 h h5
   have ga:(F.map Pq.av)[i]?=some x.av:=by rw[List.getElem?_map,g2];rfl
   have h6:(i:Int)<((F.map Pq.av).length:Int):=by omega
   obtain⟨w0,w1,w2,w3⟩:=av_w x
   unfold qb6
   simp only[h6,decide_true,cond_t,ixB_nat,ga,oB_s,qbhq,w0,w1,w2,w3,g4]
   rw[qlu];unfold qcq
   rw[qz5];unfold qiz
   rw[qte]
   cases hb:decide (x.bits<=bits)with
   |false=>simp only[cond_f,Bool.false_and];exact h5 (e,q) h
   |true=>
    cases e with
    |false=>simp only[Bool.not_false,cond_t,cond_f,Bool.true_and,betQ];exact h5 (true,x) (fun h=>by cases h)
    |true=>
     simp only[Bool.not_true,cond_t,cond_f,Bool.true_and,betQ,oB_s]
     by_cases hc:x.bits<q.bits
     · simp only[hc,decide_true,cond_t];exact h5 (true,x) (fun h=>by cases h)
     · simp only[hc,decide_false,cond_f];exact h5 (true,q) (fun h=>by cases h)
def frQ (l:LA)(p:Pq):List Pq:=qe8 (qpx l p) (p.np.k+1) p
def q8v (policy:Int)(a b:Int):Bool:=bif policy==1 then false else bif policy==2 then decide (a>b)else decide (a<b)
def qj2 (policy bits:Int)(q:Pq):Pq:=bif(policy==3&&decide (q.bits<bits))then q.high else q
def qzv (p:Pq)(bits policy:Int):Bool:=decide (bits<p.bits)||((decide (bits>qk p.v)||decide (policy<1))||decide (policy>3))
def qbfr (l:LA)(p:Pq)(bits policy:Int):AV×Int:=match qix (q8v policy) bits none (frQ l p)with
 |none=>(qpw,22)
 |some q=>(mkP (qj2 policy bits q).v (qj2 policy bits q).hi (qj2 policy bits q).lo bits,0)
def qd4 (l:LA)(p:Pq)(bits policy:Int):AV×Int:=match l.find? (atP p.v p.hi p.lo p.bits)with
 |none=>(qpw,11)
 |some y=>bif gI y.cells 4 != 1 then(qpw,21)else bif qzv p bits policy then(qpw,1)else qbfr l p bits policy
theorem qx8 {l:LA}(hg:qhx l)(p:Pq):qhx (qpx l p):=fun y hy=>hg y (List.mem_filter.1 hy).1
theorem qbq5 {l:LA}(hg:qhx l){p:Pq}(hp:p.good){q:Pq}(hq:q∈frQ l p):q.good/\q.np.sub p.np:=by
 obtain⟨a,b,_⟩:=q1p (qx8 hg p) _ p hp q hq
 exact⟨a,b⟩
theorem qbpw {l:LA}(hg:qhx l)(hn:l.length<=1000){p:Pq}(hp:p.good):(frQ l p).length<=200001:=
 qbhk (qx8 hg p) (Nat.le_trans (List.length_filter_le _ _) hn) (by have:=hp.range.2.2.2;omega) hp
theorem qbpx {s:Pq}(hs:s.good){n:Int}(h1:s.bits<=n)(h2:n<=qk s.v):qo9 s.v s.hi s.lo s.bits n=true:=by
 unfold qo9
 rw[hs.1];simp[h1,h2]
theorem qbcv {q:Pq}(hq:q.good){n:Int}(h1:q.bits<n)(h2:n<=qk q.v):q.half=true:=by
 refine(Pq.half_iff hq).2 ?_
 obtain⟨_,_,a3,_⟩:=hq.range
 omega
theorem qbbg {q:Pq}(hq:q.good){policy bits:Int}(h1:q.bits<=bits)(h2:bits<=qk q.v):(qj2 policy bits q).good/\(qj2 policy bits q).bits<=bits/\(qj2 policy bits q).v=q.v:=by
 unfold qj2
 cases hc:(policy==3&&decide (q.bits<bits))with
 |false=>exact⟨hq,h1,rfl⟩
 |true=>
  rw[Bool.and_eq_true,decide_eq_true_eq]at hc
  exact⟨Pq.high_good hq (qbcv hq hc.2 h2),by show q.bits+1<=bits;omega,rfl⟩
noncomputable def qbkj (policy bits:Int)(x:AV):Option (AV×Int):=(bif((policy==(3:Int))&&(decide ((gI x.cells 3)<bits)))then(oB (qhz (gB x.cells 0) (gI x.cells 1) (gI x.cells 2) (gI x.cells 3)) fun r16=>(oB (qdx (gB r16.2.1.cells 0) (gI r16.2.1.cells 1) (gI r16.2.1.cells 2) (gI r16.2.1.cells 3) bits (0:Int)) fun r17=>(some ((.agg [(.bool (gB r17.1.cells 0)),(.int .u64 (gI r17.1.cells 1)),(.int .u64 (gI r17.1.cells 2)),(.int .i64 (gI r17.1.cells 3))]),(0:Int)))))else(oB (qdx (gB x.cells 0) (gI x.cells 1) (gI x.cells 2) (gI x.cells 3) bits (0:Int)) fun r18=>(some ((.agg [(.bool (gB r18.1.cells 0)),(.int .u64 (gI r18.1.cells 1)),(.int .u64 (gI r18.1.cells 2)),(.int .i64 (gI r18.1.cells 3))]),(0:Int)))))
theorem qbpy {q:Pq}(hq:q.good){policy bits:Int}(h1:q.bits<=bits)(h2:bits<=qk q.v):qbkj policy bits q.av=some (mkP (qj2 policy bits q).v (qj2 policy bits q).hi (qj2 policy bits q).lo bits,0):=by
 unfold qbkj
 obtain⟨w0,w1,w2,w3⟩:=av_w q
 rw[w0,w1,w2,w3]
 obtain⟨sg,sb,sv⟩:=qbbg (policy:=policy) hq h1 h2
 have sp:=qbpx sg sb (by rw[sv];exact h2)
 unfold qj2 at*
 by_cases hp3:policy=3
 · by_cases hlt:q.bits<bits
   · have hh:=qbcv hq hlt h2
     have c:(policy==3&&decide (q.bits<bits))=true:=by simp[hp3,hlt]
     rw[c]at sg sp⊢
     simp only[cond_t]at sg sp⊢
     rw[qbeg _ _ _ _ hq.2.1 hq.2.2]
     have hv:qzu q.v q.hi q.lo q.bits=(q.low.av,q.high.av,true):=by
      unfold qzu
      rw[show qky q.v q.hi q.lo q.bits=true from hh];rfl
     rw[hv]
     simp only[oB_s]
     obtain⟨z0,z1,z2,z3⟩:=av_w q.high
     rw[z0,z1,z2,z3,q1j sg.2.1 sg.2.2,sp]
     rfl
   · have c:(policy==3&&decide (q.bits<bits))=false:=by simp[hlt]
     rw[c]at sg sp⊢
     simp only[cond_f]at sg sp⊢
     rw[q1j hq.2.1 hq.2.2,sp];rfl
 · have c:(policy==3&&decide (q.bits<bits))=false:=by simp[hp3]
   rw[c]at sg sp⊢
   simp only[cond_f]at sg sp⊢
   rw[q1j hq.2.1 hq.2.2,sp];rfl
theorem qbns (l:LA)(hl:qbb l)(hg:qhx l)(hn:l.length<=1000)(p:Pq)(bits policy:Int):qq9 l p.v p.hi p.lo p.bits bits policy=some (qd4 l p bits policy):=by
 rw[q3u];unfold qkd qd4
 rw[q5y l hl,oB_s]
 cases hf:l.find? (atP p.v p.hi p.lo p.bits)with
 |none=>rw[qbki hf];rfl
 |some y=>
  rw[q1m hl hf]
  obtain⟨hp,_⟩:=q5k hg hf
  simp only[Bool.not_true,cond_f]
  cases hk:gI y.cells 4 != 1 with
  |true=>rfl
  |false=>
   simp only[cond_f]
   have hlen:qq5 p.v p.hi p.lo p.bits=some (qk p.v):=by
    rw[q3n];unfold qkc qk
    cases p.v<;>rfl
   rw[hlen]
   simp only[oB_s]
   cases hb:qzv p bits policy with
   |true=>
    unfold qzv at hb
    by_cases h1:bits<p.bits
    · simp only[h1,decide_true,cond_t];rfl
    · simp only[h1,decide_false,cond_f,Bool.false_or]at hb⊢
      rw[hb];rfl
   |false=>
    unfold qzv at hb
    by_cases h1:bits<p.bits
    · simp[h1]at hb
    · simp only[h1,decide_false,cond_f,Bool.false_or]at hb⊢
      rw[hb]
      simp only[cond_f]
      simp only[Bool.or_eq_false_iff,decide_eq_false_iff_not]at hb
      obtain⟨⟨h2,h3⟩,h4⟩:=hb
      have hF:=qbpw hg hn hp
      have e1:qs0 l p.v p.hi p.lo p.bits=some ((frQ l p).map Pq.av):=by
       rw[qbq1 l hl hg hn p]
       unfold qbkh
       rw[hf]
       have:(gI y.cells 4==1)=true:=by simpa using hk
       simp only[this,cond_t];rfl
      rw[e1]
      simp only[oB_s]
      have fin:∀b:Int->Int->Bool,q8v policy=b->(bif(!(outQ (qix b bits none (frQ l p))).2)then(some (qpw,(22:Int)))else qbkj policy bits (outQ (qix b bits none (frQ l p))).1)=some (qbfr l p bits policy):=by
       intro b hb
       unfold qbfr
       rw[hb]
       cases hq:qix b bits none (frQ l p)with
       |none=>rfl
       |some q=>
        rcases q5l hq with h|⟨h,h'⟩
        · cases h
        · obtain⟨qg,qs⟩:=qbq5 hg hp h
          have hv:q.v=p.v:=qs.1
          simp only[outQ,Bool.not_true,cond_f]
          exact qbpy qg h' (by rw[hv];omega)
      have hpol:policy=1\/policy=2\/policy=3:=by omega
      rcases hpol with rfl|rfl|rfl
      · refine Eq.trans ?_ (fin (fun _ _=>false) (by funext a b;rfl))
        rw[qwq _ (by omega)];rfl
      · refine Eq.trans ?_ (fin (fun a b=>decide (a>b)) (by funext a b;rfl))
        rw[qwr _ (by omega)];rfl
      · refine Eq.trans ?_ (fin (fun a b=>decide (a<b)) (by funext a b;rfl))
        rw[qws _ (by omega)];rfl
structure Chosen (l:LA)(p q:Pq)(bits:Int):Prop where
 good:q.good
 bits:q.bits=bits
 sub:q.np.sub p.np
 pg:p.good
 free:∀d,d∈qpx l p->ovP (pqY d) q=false
theorem qwt {l:LA}(hg:qhx l)(p:Pq)(bits policy:Int):(∃e,qd4 l p bits policy=(qpw,e)/\e≠0)\/∃q,qd4 l p bits policy=(q.av,0)/\Chosen l p q bits:=by
 unfold qd4
 cases hf:l.find? (atP p.v p.hi p.lo p.bits)with
 |none=>exact .inl ⟨11,rfl,by decide⟩
 |some y=>
  obtain⟨hp,_⟩:=q5k hg hf
  simp only
  cases hk:gI y.cells 4 != 1 with
  |true=>exact .inl ⟨21,rfl,by decide⟩
  |false=>
   simp only[cond_f]
   cases hb:qzv p bits policy with
   |true=>exact .inl ⟨1,rfl,by decide⟩
   |false=>
    simp only[cond_f]
    unfold qzv at hb
    simp only[Bool.or_eq_false_iff,decide_eq_false_iff_not]at hb
    obtain⟨h1,⟨h2,h3⟩,h4⟩:=hb
    unfold qbfr
    cases hq:qix (q8v policy) bits none (frQ l p)with
    |none=>exact .inl ⟨22,rfl,by decide⟩
    |some q=>
     rcases q5l hq with h|⟨h,h'⟩
     · cases h
     · obtain⟨qg,qs,qf⟩:=q1p (qx8 hg p) _ p hp q h
       have hv:q.v=p.v:=qs.1
       obtain⟨sg,sb,sv⟩:=qbbg (policy:=policy) qg h' (by rw[hv];omega)
       have ss:(qj2 policy bits q).np.sub q.np:=by
        unfold qj2
        cases hc:(policy==3&&decide (q.bits<bits))with
        |false=>exact Np.sub_refl qg.np_ok
        |true=>
         rw[Bool.and_eq_true,decide_eq_true_eq]at hc
         exact(qbho qg (qbcv qg hc.2 (by rw[hv];omega))).2.1
       simp only
       generalize qj2 policy bits q=s at*
       obtain⟨b1,b2,b3,b4⟩:=sg.range
       have hkk:kOf s.v bits<=s.np.k:=by
        show kOf s.v bits<=kOf s.v s.bits
        unfold kOf;omega
       have gq:(⟨s.v,s.hi,s.lo,bits⟩:Pq).good:=by
        refine⟨(qry sg.2.1 sg.2.2).2 ⟨(qeg sg.1).2.2,by show 0<=bits;omega,by show bits<=qk s.v;rw[sv,hv];omega,?_⟩,sg.2⟩
        exact Nat.mod_eq_zero_of_dvd (Nat.dvd_trans (q5z hkk) (Nat.dvd_of_mod_eq_zero sg.np_ok))
       have gs:(⟨s.v,s.hi,s.lo,bits⟩:Pq).np.sub s.np:=⟨rfl,hkk,by
        have:=sg.np_ok
        unfold Np.ok at this
        show s.np.n-s.np.n%2^s.np.k=s.np.n
        rw[this];rfl⟩
       refine .inr ⟨⟨s.v,s.hi,s.lo,bits⟩,rfl,gq,rfl,Np.sub_trans gs (Np.sub_trans ss qs),hp,fun d hd=> ?_⟩
       cases ho:ovP (pqY d) ⟨s.v,s.hi,s.lo,bits⟩with
       |false=>rfl
       |true=>
        have:=q5h qg gq (qx8 hg p d hd) (Np.sub_trans gs ss) ho
        rw[qf d hd]at this;cases this
def qeh (l:LA)(p:Pq)(bits policy:Int)(nm ow:LU):List AV×AV×Int:=
 bif(qd4 l p bits policy).2 != 0 then([],qpw,(qd4 l p bits policy).2)else
 bif(addF l (mkB (gB (qd4 l p bits policy).1.cells 0) (gI (qd4 l p bits policy).1.cells 1) (gI (qd4 l p bits policy).1.cells 2) (gI (qd4 l p bits policy).1.cells 3) 2 nm ow 0)).2 != 0 then([],qpw,(addF l (mkB (gB (qd4 l p bits policy).1.cells 0) (gI (qd4 l p bits policy).1.cells 1) (gI (qd4 l p bits policy).1.cells 2) (gI (qd4 l p bits policy).1.cells 3) 2 nm ow 0)).2)
 else((addF l (mkB (gB (qd4 l p bits policy).1.cells 0) (gI (qd4 l p bits policy).1.cells 1) (gI (qd4 l p bits policy).1.cells 2) (gI (qd4 l p bits policy).1.cells 3) 2 nm ow 0)).1,(qd4 l p bits policy).1,0)
theorem qzw {q:Pq}(hq:q.good){nm ow:LU}(h1:nm.length<=9223372036854775807)(h2:ow.length<=9223372036854775807):qkx (mkB q.v q.hi q.lo q.bits 2 nm ow 0):=
 ⟨rfl,hq.2.1,hq.2.2,by show nm.length<=_;omega,by show ow.length<=_;omega⟩
theorem qbbh (l:LA)(hl:qbb l)(ht:qct l)(hn:l.length<=1000)(p:Pq)(bits policy:Int)(nm ow:LU)(h1:nm.length<=9223372036854775807)(h2:ow.length<=9223372036854775807):
 qke l p.v p.hi p.lo p.bits bits policy nm ow=some (qeh l p bits policy nm ow):=by
 have hg:=qij hl ht
 rw[qz8];unfold qi2 qeh
 rw[qbns l hl hg hn]
 simp only[oB_s]
 rcases qwt hg p bits policy with⟨e,he,hne⟩|⟨q,hq,hc⟩
 · rw[he]
   have:(e != 0)=true:=by simpa using hne
   simp only[this,cond_t];rfl
 · rw[hq]
   obtain⟨w0,w1,w2,w3⟩:=av_w q
   simp only[bne_self_eq_false,cond_f,w0,w1,w2,w3]
   rw[qbop l hl (by omega) ht q.v q.hi q.lo q.bits 2 nm ow 0 (qzw hc.good h1 h2)]
   simp only[oB_s]
   cases(addF l (mkB q.v q.hi q.lo q.bits 2 nm ow 0)).2 != 0<;>rfl
theorem qbnt {l:LA}{b:AV}:(addF l b).1=[]\/(addF l b).1=insF b l:=by
 unfold addF
 cases !qj0 b with
 |true=>exact .inl rfl
 |false=>
 cases !mayB b with
 |true=>exact .inl rfl
 |false=>
 cases l.any (atP (gB b.cells 0) (gI b.cells 1) (gI b.cells 2) (gI b.cells 3))with
 |true=>exact .inl rfl
 |false=>
 cases(l.any (qb4 b)||occF l (gB b.cells 0) (gI b.cells 1) (gI b.cells 2) (gI b.cells 3))with
 |true=>exact .inl rfl
 |false=>
 cases decide ((l.length:Int)>=512)with
 |true=>exact .inl rfl
 |false=>exact .inr rfl
def labC (c:UInt8):Bool:=(decide (97<=c.toNat)&&decide (c.toNat<=122))||(decide (48<=c.toNat)&&decide (c.toNat<=57))||c.toNat==45||c.toNat==95
def qbbi (x:LU):Bool:=x==[42]||(decide (1<=x.length)&&decide (x.length<=63)&&x.all labC)
def spl:List UInt8->List UInt8->List (List UInt8)
 |_,[]=>[]
 |cur,c::r=>if c=46 then cur::spl [] r else spl (cur++[c]) r
def qwu (x:LU):Bool:=decide (2<=x.length)&&decide (x.length<=254)&&x.getLast? ==some 46
def qwv:Bool->List (List UInt8)->Bool
 |_,[]=>true
 |f,l::ls=>qbbi l&&(f|| !(l==[42]))&&qwv false ls
def qpa (x:LU):List (List UInt8)×Bool:=
 if x=[46]then([],true)else if qwu x=true/\qwv true (spl [] x)=true then(spl [] x,true)else([],false)
def qbx (x:LU):Bool:=(qpa x).2
def avS (l:List (List UInt8)):List AV:=l.map AV.str
theorem qbcw:∀(r cur:LU),(spl cur r).length<=r.length
 |[],_=>by simp[spl]
 |c::r,cur=>by
  unfold spl;split
  · have:=qbcw r [];simp;omega
  · have:=qbcw r (cur++[c]);simp;omega
def qd5:List UInt8->List UInt8->List (List UInt8)
 |cur,[]=>[cur]
 |cur,c::r=>if c=46 then cur::qd5 [] r else qd5 (cur++[c]) r
theorem qtv:∀(s cur:LU),(qd5 cur s).length=s.count 46+1
 |[],cur=>rfl
 |c::r,cur=>by
  unfold qd5
  split
  · rename_i h;subst h;simp[qtv r]
  · rename_i h
    rw[qtv r,List.count_cons_of_ne (fun e=>h e)]
theorem qbbj:∀(s cur:LU),s.count 46=0->qd5 cur s=[cur++s]
 |[],cur,_=>by simp[qd5]
 |c::r,cur,h=>by
  unfold qd5
  split
  · rename_i h';subst h';simp at h
  · rename_i h'
    rw[List.count_cons_of_ne (fun e=>h' e)]at h
    rw[qbbj r _ h]
    simp
theorem qbbk:∀(s cur:LU),0<s.count 46->∃pre post,s=pre++46::post/\Lib.indexByte s 46=(pre.length:Int)/\qd5 cur s=(cur++pre)::qd5 [] post
 |[],cur,h=>by simp at h
 |c::r,cur,h=>by
  by_cases h':c=46
  · subst h'
    exact⟨[],r,rfl,by simp[Lib.indexByte],by simp[qd5]⟩
  · rw[List.count_cons_of_ne (fun e=>h' e)]at h
    obtain⟨pre,post,h1,h2,h3⟩:=qbbk r (cur++[c]) h
    refine⟨c::pre,post,by simp[h1],?_,?_⟩
    · have hb:(c==46)=false:=by simpa using h'
      have hn:¬((Lib.indexByte r 46)= -1):=by omega
      unfold Lib.indexByte
      simp[hb,hn,h2]
    · show(if c=46 then cur::qd5 [] r else qd5 (cur++[c]) r)=_
      rw[if_neg h',h3]
      simp
theorem qbpz (s:LU):qpi s [46]=some (Lib.indexByte s 46):=by
 rw[q72];unfold qmw
 rw[q0a];unfold qi4
 rw[qvq];unfold qga qu3
 by_cases h:([46]:List UInt8)=s
 · subst h;rfl
 · have hb:(([46]:List UInt8)==s)=false:=by simpa using h
   rw[hb]
   rfl
theorem qbp0 (s:LU):qt7 s [46]=some ((s.count 46:Nat):Int):=by
 rw[q73];unfold qmx qu2 Lib.countByte
 rfl
theorem qbp1 (pre post:LU):cutI (pre++46::post) none (some ((pre.length:Nat):Int))=some pre:=by
 unfold cutI
 simp only[Option.getD_none,Option.getD_some]
 rw[if_pos ⟨by omega,by omega,by simp;omega⟩]
 simp
theorem qbnu (pre post:LU):cutI (pre++46::post) (some ((pre.length+1:Nat):Int)) none=some post:=by
 unfold cutI
 simp only[Option.getD_none,Option.getD_some]
 rw[if_pos ⟨by omega,by simp;omega,by omega⟩]
 rw[Int.toNat_natCast,Int.toNat_natCast,List.take_length]
 rw[List.drop_append]
 simp
theorem qbji (s:LU)(hs:s.length<=1000000000):qpj s [46]=some ((qd5 [] s).map AV.str):=by
 rw[q74];unfold qmy
 rw[q2j];unfold qjl
 have hc:s.count 46<=s.length:=List.count_le_length
 have w1:IntKind.i64.wrap (((s.count 46:Nat):Int)+1)=((s.count 46+1:Nat):Int):=w64 (by omega) (by omega)
 have w2:IntKind.i64.wrap ((s.length:Int)+1)=((s.length+1:Nat):Int):=w64 (by omega) (by omega)
 have hm:(if((s.length+1:Nat):Int)<((s.count 46+1:Nat):Int)then((s.length+1:Nat):Int)else((s.count 46+1:Nat):Int))=((s.count 46+1:Nat):Int):=if_neg (by omega)
 have hd1:decide (0<=((s.count 46+1:Nat):Int)/\((s.count 46+1:Nat):Int)<=((s.count 46+1:Nat):Int)/\((s.count 46+1:Nat):Int)*16<=281474976710656)=true:=decide_eq_true ⟨by omega,by omega,by omega⟩
 have w3:IntKind.i64.wrap (((s.count 46+1:Nat):Int)-1)=((s.count 46:Nat):Int):=by rw[w64 (by omega) (by omega)];omega
 have b1:(((-1:Int))==0)=false:=rfl
 have b2:(([46]:List UInt8)==([]:List UInt8))=false:=rfl
 have b3:decide ((-1:Int)<0)=true:=rfl
 simp only[b1,b2,cond_f,qw6,qg2,b3,cond_t,qbp0,oB_s,w1,w2,hm,hd1,hd_self,Bool.and_true,w3,Int.toNat_natCast]
 generalize hn:s.count 46=n at*
 rw[qw7]
 let kx:List UInt8->Int->List AV->Option (List AV):=fun v0 v10 a0=>(bif decide (0<=v10/\v10<a0.length)then(oB (a0[v10.toNat]?) fun y1=>(oB (putE y1 0 1 [(.str v0)]) fun z2=>(bif hd (a0.set v10.toNat z2) a0.length then(oB (cutI (a0.set v10.toNat z2) none (some (IntKind.i64.wrap (v10+1)))) fun s3=>(some s3))else none)))else none)
 have key:=qbpl (fun k (q:List UInt8×Int×List AV)=>qc8 [46] 0 (n:Int) kx k q.1 q.2.1 q.2.2)
  (fun q nx=>qet q.1 [46] 0 (n:Int) q.2.1 q.2.2 (fun a b c=>nx (a,(b,c))) kx) (fun _ _=>rfl)
  (fun q=>∃dn:List (List UInt8),q.2.1=dn.length/\q.2.2=dn.map AV.str++List.replicate (n+1-dn.length) (AV.str [])/\dn.length<=n/\q.1.count 46=n-dn.length/\dn++qd5 [] q.1=qd5 [] s/\q.1.length<=1000000000)
  (fun q=>n-q.2.1.toNat) (fun q=>some ((qd5 [] s).map AV.str)) ?_ FU (s,(0,List.replicate (n+1) (AV.str []))) ⟨[],rfl,by simp,by simp,by simpa using hn,rfl,hs⟩ (qgo (by simp;omega))
 · have key':qc8 [46] 0 (n:Int) kx FU s 0 (List.replicate (n+1) (AV.str []))=some ((qd5 [] s).map AV.str):=key
   show oB (qc8 [46] 0 (n:Int) kx FU s 0 (List.replicate (n+1) (AV.str []))) _=_
   rw[key']
   rfl
 · rintro⟨v0,v10,a0⟩ ⟨dn,rfl,rfl,h1,h2,h3,h5⟩ nx hnx
   simp only at h1 h2 h3 h5
   show qet v0 [46] 0 (n:Int) (dn.length:Int) (dn.map AV.str++List.replicate (n+1-dn.length) (AV.str [])) (fun a b c=>nx (a,(b,c))) kx=some ((qd5 [] s).map AV.str)
   have hlen:(dn.map AV.str++List.replicate (n+1-dn.length) (AV.str [])).length=n+1:=by simp;omega
   have hget:(dn.map AV.str++List.replicate (n+1-dn.length) (AV.str []))[dn.length]?=some (.str []):=by
    rw[List.getElem?_append_right (by simp)]
    simp only[List.length_map,Nat.sub_self]
    rw[List.getElem?_replicate,if_pos (by omega)]
   have hdec:decide (0<=(dn.length:Int)/\(dn.length:Int)<((dn.map AV.str++List.replicate (n+1-dn.length) (AV.str [])).length:Int))=true:=decide_eq_true ⟨by omega,by rw[hlen];omega⟩
   have hset:∀x,(dn.map AV.str++List.replicate (n+1-dn.length) (AV.str [])).set dn.length (.str x)=(dn++[x]).map AV.str++List.replicate (n+1-(dn.length+1)) (AV.str []):=by
    intro x
    rw[List.set_append_right _ _ (by simp)]
    simp only[List.length_map,Nat.sub_self]
    rw[show n+1-dn.length=(n+1-(dn.length+1))+1 by omega,List.replicate_succ]
    simp
   have hhd:∀x,hd ((dn.map AV.str++List.replicate (n+1-dn.length) (AV.str [])).set dn.length (.str x)) (dn.map AV.str++List.replicate (n+1-dn.length) (AV.str [])).length=true:=fun x=>by simp[hd]
   unfold qet
   by_cases hlt:dn.length<n
   · have c1:decide ((dn.length:Int)<(n:Int))=true:=decide_eq_true (by omega)
     obtain⟨pre,post,e1,e2,e3⟩:=qbbk v0 [] (by omega)
     subst e1
     have hpl:pre.length+1+post.length=(pre++46::post).length:=by simp;omega
     generalize hv:pre++46::post=v0 at*
     have c2:decide (Lib.indexByte v0 46<0)=false:=decide_eq_false (by omega)
     have w4:IntKind.i64.wrap (Lib.indexByte v0 46+0)=(pre.length:Int):=by rw[e2,w64 (by omega) (by omega)];omega
     have w5:IntKind.i64.wrap (Lib.indexByte v0 46+(([46]:List UInt8).length:Int))=((pre.length+1:Nat):Int):=by rw[e2];simp;rw[w64 (by omega) (by omega)]
     have w6:IntKind.i64.wrap ((dn.length:Int)+1)=((dn.length+1:Nat):Int):=w64 (by omega) (by omega)
     have k1:cutI v0 none (some ((pre.length:Nat):Int))=some pre:=by rw[<-hv];exact qbp1 pre post
     have k2:cutI v0 (some ((pre.length+1:Nat):Int)) none=some post:=by rw[<-hv];exact qbnu pre post
     have hp:putE (.str []) 0 1 [AV.str pre]=some (.str pre):=rfl
     simp only[c1,cond_t,qbpz,oB_s,c2,cond_f,w4,k1,hd_self,hdec,Int.toNat_natCast,hget,hp,w5,k2,hhd,w6]
     refine hnx _ ⟨dn++[pre],by simp,by rw[hset];simp,by simp;omega,?_,?_,by show post.length<=1000000000;omega⟩ (by simp;omega)
     · have hcp:v0.count 46=(qd5 [] v0).length-1:=by rw[qtv];simp
       have:(qd5 [] post).length=post.count 46+1:=qtv post []
       rw[e3]at hcp
       simp at hcp
       simp
       omega
     · rw[<-h3,e3]
       simp
   · have hdn:dn.length=n:=by omega
     have c1:decide ((dn.length:Int)<(n:Int))=false:=decide_eq_false (by omega)
     have hp:putE (.str []) 0 1 [AV.str v0]=some (.str v0):=rfl
     have w6:IntKind.i64.wrap ((dn.length:Int)+1)=((n+1:Nat):Int):=by rw[w64 (by omega) (by omega)];omega
     have k3:cutI ((dn++[v0]).map AV.str++List.replicate (n+1-(dn.length+1)) (AV.str [])) none (some ((n+1:Nat):Int))=some ((dn++[v0]).map AV.str):=by
      have hz:n+1-(dn.length+1)=0:=by omega
      rw[hz]
      simp only[List.replicate_zero,List.append_nil]
      have hL:((dn++[v0]).map AV.str).length=n+1:=by simp;omega
      generalize (dn++[v0]).map AV.str=L at hL⊢
      unfold cutI
      simp only[Option.getD_none,Option.getD_some]
      rw[if_pos ⟨by omega,by omega,by omega⟩,Int.toNat_natCast,<-hL,List.take_length]
      rfl
     simp only[c1,cond_f]
     show kx v0 (dn.length:Int) _=_
     simp only[kx,cond_t,hdec,Int.toNat_natCast,hget,oB_s,hp,hhd,w6]
     rw[hset,k3]
     simp only[oB_s]
     rw[<-h3,qbbj v0 [] (by omega)]
     simp
def ordB (x:LU):Bool:=decide (1<=x.length)&&decide (x.length<=63)&&x.all labC
theorem qbkk (x:LU)(hx:x.length<=9223372036854775807):qsb x=some (ordB x):=by
 rw[q6t];unfold qle
 rw[qy7,qnv x hx (qfn x (x.length:Int) fun _=>some true) (fun i nx=>qfm x (x.length:Int) i nx fun _=>some true) (fun _ _=>rfl) (fun r=>some (r.all labC))]
 · unfold ordB
   by_cases h1:x=[]
   · subst h1;rfl
   · have e1:(x==[])=false:=by simpa using h1
     have h2:1<=x.length:=by
      cases x with
      |nil=>exact absurd rfl h1
      |cons a r=>simp
     by_cases h3:x.length<=63
     · have:¬(x.length:Int)>63:=by omega
       simp only[e1,this,h2,h3,decide_true,decide_false,Bool.or_self,cond_f,Bool.true_and]
     · have:(x.length:Int)>63:=by omega
       simp[e1,this,h3]
 · intro nx;simp[qfm]
 · intro i a r nx h1 h2 h3 h4 h5
   have h6:(i:Int)<(x.length:Int):=by omega
   have key:∀kn:Bool->Option Bool,qnm x (a.toNat:Int) (x.length:Int) i kn=kn (!labC a):=by
    intro kn
    have co:∀(p a b:Bool),(bif p then kn a else kn b)=kn (bif p then a else b):=by intro p;cases p<;>intros<;>rfl
    rw[qy6]
    unfold qie labC
    simp only[co]
    have fin:∀n:Fin 256,(bif((decide ((n.val:Int)<(97:Int)))||(decide ((n.val:Int)>(122:Int))))then(bif(decide ((n.val:Int)<(48:Int)))then(((n.val:Int) != (45:Int))&&((n.val:Int) != (95:Int)))else(((decide ((n.val:Int)>(57:Int)))&&((n.val:Int) != (45:Int)))&&((n.val:Int) != (95:Int))))else false)=
     !((decide (97<=n.val)&&decide (n.val<=122))||(decide (48<=n.val)&&decide (n.val<=57))||n.val==45||n.val==95):=by decide+kernel
    exact congrArg kn (fin ⟨a.toNat,a.toNat_lt⟩)
   unfold qfm
   simp only[h6,decide_true,cond_t,ixB_nat,h2,oB_s,key,h4]
   cases h7:labC a
   · simp[h7]
   · simp only[Bool.not_true,cond_t,cond_f,h5,List.all_cons,h7,Bool.true_and]
def sufB (x y:LU):Bool:=decide (y.length<=x.length)&&x.drop (x.length-y.length)==y
theorem q7l (x y:LU)(hx:x.length<=9223372036854775807):qkf x y=some (sufB x y):=by
 rw[qz9];unfold qi3
 rw[qvp];unfold qf9 sufB
 by_cases h:y.length<=x.length
 · have h1:(x.length:Int)>=(y.length:Int):=by omega
   have w:IntKind.i64.wrap ((x.length:Int)-(y.length:Int))=((x.length-y.length:Nat):Int):=by rw[w64 (by omega) (by omega)];omega
   have hc:cutI x (some ((x.length-y.length:Nat):Int)) none=some (x.drop (x.length-y.length)):=by
    unfold cutI
    simp only[Option.getD_none,Option.getD_some]
    rw[if_pos ⟨by omega,by omega,by omega⟩,Int.toNat_natCast,Int.toNat_natCast,List.take_length]
   simp only[h1,decide_true,cond_t,w,hc,oB_s,h,Bool.true_and]
 · have h1:¬(x.length:Int)>=(y.length:Int):=by omega
   simp[h1,h]
def qx9:Bool->List (List UInt8)->Bool
 |_,[]=>true
 |f,l::ls=>(ordB l||(f&&l==[42]))&&qx9 false ls
def valB (x:LU):Bool:=x==[46]||(decide (x.length<255)&&sufB x [46]&&qx9 true (qd5 [] (x.take (x.length-1))))
theorem q8w:∀(s cur:LU),∀l,l∈qd5 cur s->l.length<=cur.length+s.length
 |[],cur,l,h=>by simp[qd5]at h;subst h;simp
 |c::r,cur,l,h=>by
  unfold qd5 at h
  split at h
  · rcases List.mem_cons.1 h with rfl|h
    · simp<;>omega
    · have:=q8w r [] l h;simp at this⊢;omega
  · have:=q8w r _ l h;simp at this⊢;omega
theorem qbq6 (ps:List (List UInt8))(hps:ps.length<=9223372036854775807)(hl:∀l,l∈ps->l.length<=9223372036854775807):
 qrc (ps.map AV.str) ((ps.map AV.str).length:Int) (fun _=>some true) FU 0=some (qx9 true ps):=by
 have hlen:(ps.map AV.str).length=ps.length:=by simp
 rw[q30,hlen]
 have key:=qe6 (σ:=Unit) ps hps (fun n i _=>qh9 (ps.map AV.str) (ps.length:Int) (fun _=>some true) n i) (fun i _ nx=>qh8 (ps.map AV.str) (ps.length:Int) i (fun j=>nx j ()) (fun _=>some true)) (fun _ _ _=>rfl)
  (fun _ _=>True) (fun r _=>some (qx9 (decide (r.length=ps.length)) r)) ?_ ?_ () FU trivial (qgo (by omega))
 · simpa using key
 · intro s nx _
   simp[qh8,qx9]
 · intro i l r s nx h1 h2 h3 h4 _ h5
   have h6:(i:Int)<(ps.length:Int):=by omega
   have hg:(ps.map AV.str)[i]?=some (.str l):=by simp[h2]
   have hr:r.length=ps.length-(i+1):=by
    have:=congrArg List.length h1
    simp at this
    omega
   unfold qh8
   simp only[h6,decide_true,cond_t,ixB_nat,hg,oB_s]
   rw[show fitC [.s] (AV.str l).cells=true from rfl,show gS (AV.str l).cells 0=l from rfl]
   simp only[cond_t,q3z,qkh,qbkk l (hl l (List.mem_of_getElem? h2)),oB_s,h4,h5 () trivial,qx9]
   have e1:decide (r.length=ps.length)=false:=decide_eq_false (by omega)
   have e2:decide ((l::r).length=ps.length)=decide (i=0):=decide_eq_decide.2 (by simp;omega)
   rw[e1,e2]
   by_cases hi:i=0
   · subst hi
     cases ordB l<;>cases(l==[42])<;>rfl
   · have a1:decide ((i:Int)>0)=true:=decide_eq_true (by omega)
     have a2:decide (i=0)=false:=decide_eq_false hi
     rw[a1,a2]
     cases ordB l<;>rfl
theorem qbnv (x:LU)(hx:x.length<=9223372036854775807):qeu x=some (valB x):=by
 rw[qbb3];unfold qpk valB
 by_cases h1:x=[46]
 · subst h1;rfl
 · have e1:(x==[46])=false:=by simpa using h1
   rw[e1]
   simp only[cond_f,q3x,qkg,q7l x _ hx,oB_s,Bool.false_or]
   by_cases h2:x.length<255
   · have e2:¬(x.length:Int)>=255:=by omega
     simp only[e2,decide_false,cond_f,h2,decide_true,Bool.true_and]
     cases h3:sufB x [46]with
     |false=>rfl
     |true=>
      have h4:1<=x.length:=by
       simp[sufB]at h3
       exact h3.1
      have w:IntKind.i64.wrap ((x.length:Int)-1)=((x.length-1:Nat):Int):=by rw[w64 (by omega) (by omega)];omega
      have hc:cutI x none (some ((x.length-1:Nat):Int))=some (x.take (x.length-1)):=by
       unfold cutI
       simp only[Option.getD_none,Option.getD_some]
       rw[if_pos ⟨by omega,by omega,by omega⟩,Int.toNat_natCast]
       rfl
      have hpl:=qtv (x.take (x.length-1)) []
      have hcl:(x.take (x.length-1)).count 46<=(x.take (x.length-1)).length:=List.count_le_length
      have htl:(x.take (x.length-1)).length<=254:=by simp;omega
      simp only[Bool.not_true,cond_f,w,hc,oB_s,qbji _ (by omega:(x.take (x.length-1)).length<=1000000000)]
      rw[qbq6 _ (by omega) (fun l hl=>by have:=q8w _ _ l hl;simp only[List.length_nil]at this;omega)]
      simp
   · have e2:(x.length:Int)>=255:=by omega
     simp[e2,h2]
theorem qya:∀(y cur:LU),spl cur (y++[46])=qd5 cur y
 |[],cur=>by simp[spl,qd5]
 |c::r,cur=>by
  simp only[List.cons_append,spl,qd5]
  split
  · rw[qya r]
  · rw[qya r]
theorem qbjj:∀(ls:List (List UInt8)) (f:Bool),qx9 f ls=qwv f ls
 |[],f=>rfl
 |l::ls,f=>by
  unfold qx9 qwv
  rw[qbjj ls false]
  by_cases h:l=[42]
  · subst h
    rw[show ordB [42]=false from by decide,show qbbi [42]=true from by decide]
    cases f<;>rfl
  · have e:(l==[42])=false:=by simpa using h
    rw[e]
    rw[show qbbi l=ordB l by simp[qbbi,ordB,e]]
    cases ordB l<;>cases f<;>rfl
theorem qbq7 (x:LU):valB x=qbx x:=by
 unfold valB qbx qpa
 by_cases h1:x=[46]
 · subst h1;rfl
 · have e1:(x==[46])=false:=by simpa using h1
   rw[e1,if_neg h1,Bool.false_or]
   rcases List.eq_nil_or_concat x with rfl|⟨y,c,rfl⟩
   · rfl
   · rw[List.concat_eq_append]at*
     have hl:(y++[c]).length-1=y.length:=by simp
     have hs:sufB (y++[c]) [46]=(c==46):=by
      unfold sufB
      have:(y++[c]).length-([46]:List UInt8).length=y.length:=by simp
      rw[this]
      simp
     have he:qwu (y++[c])=(decide (1<=y.length)&&decide ((y++[c]).length<255)&&(c==46)):=by
      unfold qwu
      have a1:decide (2<=(y++[c]).length)=decide (1<=y.length):=decide_eq_decide.2 (by simp)
      have a2:decide ((y++[c]).length<=254)=decide ((y++[c]).length<255):=decide_eq_decide.2 (by omega)
      rw[a1,a2]
      simp
     rw[hl,hs,he,List.take_left]
     by_cases hc:c=46
     · subst hc
       rw[qya,qbjj]
       have hy:1<=y.length:=by
        cases y with
        |nil=>exact absurd rfl h1
        |cons a r=>simp
       rw[decide_eq_true hy]
       cases decide ((y++[46]).length<255)<;>cases qwv true (qd5 [] y)<;>simp
     · have hb:(c==46)=false:=by simpa using hc
       rw[hb]
       simp
theorem qk3 (x:LU)(hx:x.length<=9223372036854775807):qeu x=some (qbx x):=by rw[qbnv x hx,qbq7]
def qzx (x y:LU):Bool:=qbx x&&(qbx y&&(y==[46]||x==y||sufB x (46::y)))
theorem qbbl {x:LU}(h:qbx x=true):x.length<=254:=by
 unfold qbx qpa at h
 split at h
 · rename_i h1;subst h1;simp
 · split at h
   · rename_i h2
     have:=h2.1
     simp[qwu]at this
     omega
   · cases h
theorem qbp2 (x y:LU)(hx:x.length<=9223372036854775807)(hy:y.length<=9223372036854775807):qyj x y=some (qzx x y):=by
 rw[qbb5];unfold qpo qzx
 simp only[qk3 x hx,qk3 y hy,oB_s]
 cases h1:qbx x with
 |false=>rfl
 |true=>
  cases h2:qbx y with
  |false=>rfl
  |true=>
   have hl:=qbbl h2
   simp only[cond_t,Bool.true_and]
   rw[qbe6];unfold qre
   have hd:decide (([46]:List UInt8).length+y.length<=9223372036854775807)=true:=decide_eq_true (by simp;omega)
   cases h3:(y==[46]||x==y)with
   |true=>rfl
   |false=>
    simp only[cond_f,hd,cond_t,q7l x _ hx,oB_s,Bool.false_or]
    rfl
def qda (x:LU):List (List UInt8):=(qpa x).1
theorem q8x (x:LU)(hx:x.length<=9223372036854775807):qnn x=some (avS (qda x)):=by
 rw[q9g];unfold qob
 simp only[q34,qkj,qk3 x hx,oB_s]
 by_cases h1:x=[46]
 · subst h1;rfl
 · have e1:(x==[46])=false:=by simpa using h1
   rw[e1]
   simp only[cond_f]
   cases h2:qbx x with
   |false=>
    unfold qda
    unfold qbx qpa at h2
    unfold qpa
    rw[if_neg h1]at h2⊢
    split at h2
    · cases h2
    · rename_i h3
      rw[if_neg h3]
      rfl
   |true=>
    have hl:=qbbl h2
    have h5:=h2
    unfold qbx qpa at h5
    rw[if_neg h1]at h5
    split at h5
    · rename_i h3
      have hend:=h3.1
      simp only[qwu,Bool.and_eq_true,decide_eq_true_eq,beq_iff_eq]at hend
      have h4:1<=x.length:=by omega
      have w:IntKind.i64.wrap ((x.length:Int)-1)=((x.length-1:Nat):Int):=by rw[w64 (by omega) (by omega)];omega
      have hc:cutI x none (some ((x.length-1:Nat):Int))=some (x.take (x.length-1)):=by
       unfold cutI
       simp only[Option.getD_none,Option.getD_some]
       rw[if_pos ⟨by omega,by omega,by omega⟩,Int.toNat_natCast]
       rfl
      have htl:(x.take (x.length-1)).length<=254:=by simp;omega
      simp only[Bool.not_true,cond_f,w,hc,oB_s,qbji _ (by omega:(x.take (x.length-1)).length<=1000000000)]
      unfold qda qpa
      rw[if_neg h1,if_pos h3]
      rcases List.eq_nil_or_concat x with rfl|⟨y,c,rfl⟩
      · simp at h4
      · rw[List.concat_eq_append]at*
        have hc46:c=46:=by have:=hend.2;simpa using this
        subst hc46
        have hlen:(y++[46]).length-1=y.length:=by simp
        rw[hlen,List.take_left,qya]
        rfl
    · cases h5
theorem qbjk {α R:Type}(l:List α)(hl:l.length<=9223372036854775807)(L:Nat->Int->Option R)(B:Int->(Int->Option R)->Option R)(hL:∀n i,L (n+1) i=B i (L n))
 (S:Nat->List α->Option R) (h0:∀nx,B (l.length:Int) nx=S l.length [])
 (hs:∀(i:Nat) (a:α) (r:List α) nx,l.drop i=a::r->l[i]?=some a->i<l.length->IntKind.i64.wrap ((i:Int)+1)=((i+1:Nat):Int)->nx ((i+1:Nat):Int)=S (i+1) r->B (i:Int) nx=S i (a::r)):
 L FU 0=S 0 l:=by
 have:=qnv l hl L B hL (fun r=>S (l.length-r.length) r) (fun nx=>by simpa using h0 nx) (fun i a r nx h1 h2 h3 h4 h5=>by
  have hr:r.length=l.length-(i+1):=by
   have:=congrArg List.length h1
   simp at this;omega
  have e1:l.length-r.length=i+1:=by omega
  have e2:l.length-(a::r).length=i:=by simp;omega
  simp only[e1]at h5
  simp only[e2]
  exact hs i a r nx h1 h2 h3 h4 h5)
 simpa using this
theorem qtw {l:LT}{ls:List LT}{cs:LA}(h:fitC (l::ls) cs=true):∃x r,cs=x::r/\fitL l x=true/\fitC ls r=true:=by
 cases cs with
 |nil=>simp[fitC]at h
 |cons x r=>
  simp only[fitC]at h
  cases hl:fitL l x
  · rw[hl]at h;cases h
  · rw[hl]at h;exact⟨x,r,rfl,hl,h⟩
theorem qbnw {cs:LA}(h:fitC [] cs=true):cs=[]:=by
 cases cs with
 |nil=>rfl
 |cons x r=>simp[fitC]at h
theorem qp7:∀(x cur:LU),x.getLast? =some 46->(spl cur x).flatMap (· ++[46])=cur++x
 |[],cur,h=>by simp at h
 |[c],cur,h=>by
  have:c=46:=by simpa using h
  subst this
  simp[spl]
 |c::d::r,cur,h=>by
  have h':(d::r).getLast? =some 46:=by simpa using h
  unfold spl
  split
  · rename_i hc
    subst hc
    simp[qp7 (d::r) [] h']
  · rw[qp7 (d::r) _ h']
    simp
theorem qr0 {x:LU}(h:qbx x=true):x=[46]/\qda x=[]\/x≠[46]/\2<=x.length/\x.getLast? =some 46/\qwv true (spl [] x)=true/\qda x=spl [] x:=by
 unfold qbx at h
 unfold qda
 unfold qpa at h⊢
 by_cases h1:x=[46]
 · left;exact⟨h1,by rw[if_pos h1]⟩
 · right
   rw[if_neg h1]at h⊢
   split at h
   · rename_i h2
     rw[if_pos h2]
     have h3:=h2.1
     simp only[qwu,Bool.and_eq_true,decide_eq_true_eq,beq_iff_eq]at h3
     exact⟨h1,h3.1.1,h3.2,h2.2,rfl⟩
   · cases h
theorem qbhr (l:List (List UInt8))(i:Nat)(h:i<l.length):(avS l)[l.length-1-i]?=some (.str (l.reverse[i]'(by simpa using h))):=by
 unfold avS
 rw[List.getElem?_map,List.getElem_reverse,List.getElem?_eq_getElem (by omega)]
 rfl
theorem qbbm {x:LU}:(qda x).length<=254:=by
 unfold qda qpa
 split
 · simp
 · split
   · rename_i h
     have h3:=h.1
     simp only[qwu,Bool.and_eq_true,decide_eq_true_eq,beq_iff_eq]at h3
     have:=qbcw x []
     simp;omega
   · simp
theorem qbmc {x:LU}(h:qbx x=true):((qda x).head? =some [42])↔x.head? =some 42:=by
 rcases qr0 h with⟨rfl,e⟩|⟨y1,y2,y3,y4,y5⟩
 · simp[e]
 · rw[y5]
   have jy:=qp7 x [] y3
   rw[List.nil_append]at jy
   cases hs:spl [] x with
   |nil=>rw[hs]at jy;simp at jy;subst jy;simp at y2
   |cons l ls=>
    rw[hs]at jy y4
    simp only[qwv,Bool.and_eq_true]at y4
    have hl:=y4.1.1
    simp only[List.head?_cons,Option.some.injEq]
    constructor
    · intro e;subst e;rw[<-jy];simp
    · intro e
      unfold qbbi at hl
      simp only[Bool.or_eq_true,beq_iff_eq,Bool.and_eq_true,decide_eq_true_eq]at hl
      rcases hl with hl|⟨⟨hl1,_⟩,hl2⟩
      · exact hl
      · cases l with
        |nil=>simp at hl1
        |cons c r=>
         rw[<-jy]at e
         have:c=42:=by simpa using e
         subst this
         simp[labC]at hl2
def cmpS (a b:LU):Int:=Lib.compareBytes a b
theorem q5m:∀a b,cmpS a b= -1\/cmpS a b=0\/cmpS a b=1
 |[],[]=>by simp[cmpS,Lib.compareBytes]
 |[],_::_=>by simp[cmpS,Lib.compareBytes]
 |_::_,[]=>by simp[cmpS,Lib.compareBytes]
 |a::as_,b::bs=>by
  have ih:=q5m as_ bs
  show(if a<b then(-1:Int)else if b<a then 1 else cmpS as_ bs)= -1\/_\/_
  have e:cmpS (a::as_) (b::bs)=if a<b then(-1:Int)else if b<a then 1 else cmpS as_ bs:=rfl
  rw[e]
  split
  · simp
  · split
    · simp
    · exact ih
theorem qww (a b:UInt8):a<b\/a=b\/b<a:=by
 rcases Nat.lt_trichotomy a.toNat b.toNat with h|h|h
 · exact .inl h
 · exact .inr (.inl (UInt8.toNat_inj.1 h))
 · exact .inr (.inr h)
theorem qgw {a b:UInt8}(h:a<b):¬b<a:=fun h2=>by
 have h1:a.toNat<b.toNat:=h
 have h2:b.toNat<a.toNat:=h2
 omega
theorem qbnx {a b c:UInt8}(h:a<b)(h2:b<c):a<c:=Nat.lt_trans (show a.toNat<b.toNat from h) h2
theorem qyb (a b:UInt8)(r s:LU):cmpS (a::r) (b::s)=if a<b then-1 else if b<a then 1 else cmpS r s:=rfl
theorem qqs:∀{a b},cmpS a b=0↔a=b
 |[],[]=>by simp[cmpS,Lib.compareBytes]
 |[],_::_=>by simp[cmpS,Lib.compareBytes]
 |_::_,[]=>by simp[cmpS,Lib.compareBytes]
 |a::r,b::s=>by
  rw[qyb]
  rcases qww a b with h|rfl|h
  · rw[if_pos h]
    simp only[List.cons.injEq]
    exact⟨fun h=>by omega,fun e=>by rw[e.1]at h;exact absurd h (qgw h)⟩
  · rw[if_neg (fun h=>qgw h h),if_neg (fun h=>qgw h h),qqs]
    simp
  · rw[if_neg (qgw h),if_pos h]
    simp only[List.cons.injEq]
    exact⟨fun h=>by omega,fun e=>by rw[e.1]at h;exact absurd h (qgw h)⟩
theorem q5n:∀a b,cmpS b a= -cmpS a b
 |[],[]=>by simp[cmpS,Lib.compareBytes]
 |[],_::_=>by simp[cmpS,Lib.compareBytes]
 |_::_,[]=>by simp[cmpS,Lib.compareBytes]
 |a::r,b::s=>by
  rw[qyb,qyb]
  rcases qww a b with h|rfl|h
  · simp[h,qgw h]
  · simp[fun h=>qgw (a:=a) (b:=a) h h,q5n r s]
  · simp[h,qgw h]
theorem q1q:∀{a b c},cmpS a b<0->cmpS b c<0->cmpS a c<0
 |[],[],_,h,_=>by simp[cmpS,Lib.compareBytes]at h
 |[],_::_,[],_,h=>by simp[cmpS,Lib.compareBytes]at h
 |[],_::_,_::_,_,_=>by simp[cmpS,Lib.compareBytes]
 |_::_,[],_,h,_=>by simp[cmpS,Lib.compareBytes]at h
 |_::_,_::_,[],_,h=>by simp[cmpS,Lib.compareBytes]at h
 |a::r,b::s,c::t,h1,h2=>by
  rw[qyb]at h1 h2⊢
  rcases qww a b with h|rfl|h
  · rcases qww b c with k|rfl|k
    · rw[if_pos (qbnx h k)];omega
    · rw[if_pos h];omega
    · rw[if_neg (qgw k),if_pos k]at h2;omega
  · rw[if_neg (fun h=>qgw h h),if_neg (fun h=>qgw h h)]at h1
    rcases qww a c with k|rfl|k
    · rw[if_pos k];omega
    · rw[if_neg (fun h=>qgw h h),if_neg (fun h=>qgw h h)]at h2⊢
      exact q1q h1 h2
    · rw[if_neg (qgw k),if_pos k]at h2;omega
  · rw[if_neg (qgw h),if_pos h]at h1;omega
theorem qbbn (a b:LU):qm0 a b=some (cmpS a b):=by
 rw[q32]
 unfold qki
 rw[qvt]
 rfl
def cmpZ:List (List UInt8)->List (List UInt8)->Option Int
 |a::r,b::s=>if cmpS a b=0 then cmpZ r s else some (cmpS a b)
 |_,_=>none
def cmpR (x y:List (List UInt8)):Int:=(cmpZ x y).getD (if x.length<y.length then-1 else if x.length>y.length then 1 else 0)
def cmpN (x y:LU):Int:=
 if qbx x=true/\qbx y=false then-1 else if qbx y=true/\qbx x=false then 1 else if qbx x=false then cmpS x y else cmpR (qda x).reverse (qda y).reverse
theorem qtx (a b:LU)(r s:List (List UInt8)):cmpR (a::r) (b::s)=if cmpS a b=0 then cmpR r s else cmpS a b:=by
 unfold cmpR
 simp only[cmpZ]
 split
 · simp
 · rfl
theorem qbej:∀{x y},cmpR x y=0↔x=y
 |[],[]=>by simp[cmpR,cmpZ]
 |[],_::_=>by simp[cmpR,cmpZ]
 |_::_,[]=>by simp[cmpR,cmpZ]
 |a::r,b::s=>by
  rw[qtx]
  split
  · rename_i h
    rw[qbej,qqs.1 h];simp
  · rename_i h
    simp only[List.cons.injEq]
    exact⟨fun e=>absurd e h,fun e=>absurd (qqs.2 e.1) h⟩
theorem qbek:∀x y,cmpR y x= -cmpR x y
 |[],[]=>by simp[cmpR,cmpZ]
 |[],_::_=>by simp[cmpR,cmpZ]
 |_::_,[]=>by simp[cmpR,cmpZ]
 |a::r,b::s=>by
  rw[qtx,qtx,q5n a b,qbek r s]
  split<;>split<;>omega
theorem qbbo:∀{x y z},cmpR x y<0->cmpR y z<0->cmpR x z<0
 |[],[],_,h,_=>by simp[cmpR,cmpZ]at h
 |[],_::_,[],_,h=>by simp[cmpR,cmpZ]at h
 |[],_::_,_::_,_,_=>by simp[cmpR,cmpZ]
 |_::_,[],_,h,_=>by simp[cmpR,cmpZ]at h
 |_::_,_::_,[],_,h=>by simp[cmpR,cmpZ]at h
 |a::r,b::s,c::t,h1,h2=>by
  rw[qtx]at h1 h2⊢
  by_cases e1:cmpS a b=0
  · have:=qqs.1 e1
    subst this
    rw[if_pos e1]at h1
    by_cases e2:cmpS a c=0
    · rw[if_pos e2]at h2⊢
      exact qbbo h1 h2
    · rw[if_neg e2]at h2⊢;exact h2
  · rw[if_neg e1]at h1
    by_cases e2:cmpS b c=0
    · have:=qqs.1 e2
      subst this
      rw[if_neg e1];exact h1
    · rw[if_neg e2]at h2
      have:=q1q h1 h2
      rw[if_neg (by omega)];exact this
theorem qbel:∀x y,cmpR x y= -1\/cmpR x y=0\/cmpR x y=1
 |[],[]=>by simp[cmpR,cmpZ]
 |[],_::_=>by simp[cmpR,cmpZ]
 |_::_,[]=>by simp[cmpR,cmpZ]
 |a::r,b::s=>by
  rw[qtx]
  split
  · exact qbel r s
  · exact q5m a b
theorem qbkl {x y:LU}(hx:qbx x=true)(hy:qbx y=true)(h:qda x=qda y):x=y:=by
 rcases qr0 hx with⟨a1,a2⟩|⟨a1,a2,a3,a4,a5⟩<;>rcases qr0 hy with⟨b1,b2⟩|⟨b1,b2,b3,b4,b5⟩
 · rw[a1,b1]
 · exfalso
   have h2:=qp7 y [] b3
   rw[<-b5,<-h,a2]at h2
   simp at h2
   subst h2
   simp at b2
 · exfalso
   have h2:=qp7 x [] a3
   rw[<-a5,h,b2]at h2
   simp at h2
   subst h2
   simp at a2
 · have h1:=qp7 x [] a3
   have h2:=qp7 y [] b3
   rw[<-a5,h,b5]at h1
   simp only[List.nil_append]at h1 h2
   exact h1.symm.trans h2
theorem qbem {x y:LU}:cmpN x y=0↔x=y:=by
 unfold cmpN
 cases hx:qbx x<;>cases hy:qbx y
 · simp[qqs]
 · simp only[Bool.true_eq_false,and_self,Bool.false_eq_true,false_and,if_false,if_true]
   exact⟨fun h=>by omega,fun e=>by rw[e,hy]at hx;cases hx⟩
 · simp only[and_self,if_true]
   exact⟨fun h=>by omega,fun e=>by rw[e,hy]at hx;cases hx⟩
 · simp only[Bool.true_eq_false,and_false,if_false,qbej]
   exact⟨fun h=>qbkl hx hy (by simpa using congrArg List.reverse h),fun e=>by rw[e]⟩
theorem qbmd (x y:LU):cmpN y x= -cmpN x y:=by
 unfold cmpN
 cases hx:qbx x<;>cases hy:qbx y<;>simp
 · exact q5n x y
 · exact qbek _ _
theorem qbkm {x y z:LU}(h1:cmpN x y<0)(h2:cmpN y z<0):cmpN x z<0:=by
 unfold cmpN at*
 cases hx:qbx x<;>cases hy:qbx y<;>cases hz:qbx z<;>simp[hx,hy,hz]at h1 h2⊢
 · exact q1q h1 h2
 · exact qbbo h1 h2
theorem qbme (x y:LU):cmpN x y= -1\/cmpN x y=0\/cmpN x y=1:=by
 unfold cmpN
 split
 · simp
 · split
   · simp
   · split
     · exact q5m x y
     · exact qbel _ _
theorem qben (xs ys:List (List UInt8))(hx:xs.length<=1000000000)(hy:ys.length<=1000000000)(kx:Unit->Option Int):∀(n j:Nat),j<=xs.length->j<=ys.length->xs.length-j<n->
 qeq (avS xs) (avS ys) kx n ((j+1:Nat):Int)=match cmpZ (xs.reverse.drop j) (ys.reverse.drop j)with
  |some c=>some c
  |none=>kx ()
 |0,j,_,_,h=>by omega
 |n+1,j,h1,h2,h3=>by
  unfold qeq qmj
  have hlx:(avS xs).length=xs.length:=by simp[avS]
  have hly:(avS ys).length=ys.length:=by simp[avS]
  rw[hlx,hly]
  by_cases hc:j<xs.length/\j<ys.length
  · have e1:(decide (((j+1:Nat):Int)<=(xs.length:Int))&&decide (((j+1:Nat):Int)<=(ys.length:Int)))=true:=by simp;omega
    rw[e1,cond_t,w64 (by omega) (by omega),qblv (j:=xs.length-1-j) (by omega),qbhr xs j hc.1,oB_s]
    rw[show fitC [.s] (AV.str (xs.reverse[j]'(by simpa using hc.1))).cells=true from rfl,cond_t,w64 (by omega) (by omega),qblv (j:=ys.length-1-j) (by omega),qbhr ys j hc.2,oB_s]
    rw[show fitC [.s] (AV.str (ys.reverse[j]'(by simpa using hc.2))).cells=true from rfl,cond_t]
    rw[show gS (AV.str (xs.reverse[j]'(by simpa using hc.1))).cells 0=xs.reverse[j]'(by simpa using hc.1)from rfl,show gS (AV.str (ys.reverse[j]'(by simpa using hc.2))).cells 0=ys.reverse[j]'(by simpa using hc.2)from rfl,qbbn,oB_s]
    rw[List.drop_eq_getElem_cons (l:=xs.reverse) (i:=j) (by simpa using hc.1),List.drop_eq_getElem_cons (l:=ys.reverse) (i:=j) (by simpa using hc.2)]
    simp only[cmpZ]
    by_cases h0:cmpS (xs.reverse[j]'(by simpa using hc.1)) (ys.reverse[j]'(by simpa using hc.2))=0
    · rw[if_pos h0,h0]
      simp only[bne_self_eq_false,cond_f]
      have ih:=qben xs ys hx hy kx n (j+1) (by omega) (by omega) (by omega)
      rw[w64 (by omega) (by omega)]
      rw[show((j+1:Nat):Int)+1=((j+1+1:Nat):Int) by omega]
      exact ih
    · rw[if_neg h0]
      have:(cmpS (xs.reverse[j]'(by simpa using hc.1)) (ys.reverse[j]'(by simpa using hc.2)) != 0)=true:=by simpa using h0
      rw[this,cond_t]
  · have e1:(decide (((j+1:Nat):Int)<=(xs.length:Int))&&decide (((j+1:Nat):Int)<=(ys.length:Int)))=false:=by
     rw[Bool.and_eq_false_iff];simp;omega
    rw[e1,cond_f]
    have:cmpZ (xs.reverse.drop j) (ys.reverse.drop j)=none:=by
     rcases Classical.not_and_iff_not_or_not.1 hc with h|h
     · rw[List.drop_eq_nil_of_le (by simp;omega)];simp[cmpZ]
     · have e:ys.reverse.drop j=[]:=List.drop_eq_nil_of_le (by simp;omega)
       rw[e]
       cases xs.reverse.drop j<;>simp[cmpZ]
    rw[this]
theorem lenC (a b:Nat):(bif decide ((a:Int)<(b:Int))then some (-1:Int)else bif decide ((a:Int)>(b:Int))then some 1 else some 0)=some (if a<b then-1 else if a>b then 1 else 0):=by
 rcases Nat.lt_trichotomy a b with h|h|h
 · have:(a:Int)<b:=by omega
   simp[h,this]
 · subst h;simp
 · have h1:¬(a:Int)<b:=by omega
   have h2:(b:Int)<a:=by omega
   have h3:¬a<b:=by omega
   simp[h1,h2,h3,h]
theorem q1r (x y:LU)(hx:x.length<=9223372036854775807)(hy:y.length<=9223372036854775807):qlz x y=some (cmpN x y):=by
 rw[q77]
 unfold qm1 cmpN
 rw[qk3 x hx,oB_s,qk3 y hy,oB_s,q8x x hx,oB_s,q8x y hy,oB_s,q0d]
 have hlx:=qbbm (x:=x)
 have hly:=qbbm (x:=y)
 have hL:=qben (qda x) (qda y) (by omega) (by omega) (fun _=>(bif(decide (((avS (qda x)).length:Int)<((avS (qda y)).length:Int)))then(some (-1:Int))else(bif(decide (((avS (qda x)).length:Int)>((avS (qda y)).length:Int)))then(some (1:Int))else(some (0:Int))))) FU 0 (by omega) (by omega) (qgo (by omega))
 rw[show((0+1:Nat):Int)=1 from rfl]at hL
 rw[hL]
 cases qbx x<;>cases qbx y<;>simp only[Bool.not_true,Bool.not_false,Bool.and_true,Bool.and_false,Bool.and_self,cond_t,cond_f,qbbn,oB_s,and_self,if_true,Bool.true_eq_false,Bool.false_eq_true,and_false,false_and,if_false]
 simp only[List.drop_zero]
 unfold cmpR
 cases cmpZ (qda x).reverse (qda y).reverse with
 |some c=>rfl
 |none=>
  simp only[avS,List.length_map,Option.getD_none,List.length_reverse]
  exact lenC _ _
theorem qbq8 (v:Bool)(hi lo:Int)(w:Bool)(whi wlo:Int):cmpA v hi lo w whi wlo=cmpP v hi lo 0 w whi wlo 0:=by
 unfold cmpP
 cases h:(cmpA v hi lo w whi wlo != 0)
 · simp at h;simp[h]
 · simp
theorem qbkn (v:Bool)(hi lo:Int)(w:Bool)(whi wlo:Int):(cmpA v hi lo w whi wlo<0/\ltP v hi lo 0 w whi wlo 0)\/(cmpA v hi lo w whi wlo=0/\v=w/\hi=whi/\lo=wlo)\/(cmpA v hi lo w whi wlo>0/\ltP w whi wlo 0 v hi lo 0):=by
 rw[qbq8]
 rcases qu4 v hi lo 0 w whi wlo 0 with h|⟨h1,h2,h3,h4,_⟩|h
 · exact .inl h
 · exact .inr (.inl ⟨h1,h2,h3,h4⟩)
 · exact .inr (.inr h)
def qbbp (y:AV):Prop:=fitC qm y.cells=true/\uok (gI y.cells 2)/\uok (gI y.cells 3)/\(gS y.cells 0).length<=9223372036854775807
def qk0 (l:LA):Prop:=l.length<=9223372036854775807/\∀y,y∈l->qbbp y
def mkH (n:LU)(v:Bool)(hi lo t:Int):AV:=.agg [(.str n),(.bool v),(.int .u64 hi),(.int .u64 lo),(.int .i64 t)]
theorem qbrz {cs:LA}(h:fitC qm cs=true):cs=(mkH (gS cs 0) (gB cs 1) (gI cs 2) (gI cs 3) (gI cs 4)).cells:=by
 unfold qm at h
 obtain⟨x0,r,rfl,h0,h⟩:=qtw h
 obtain⟨x1,r,rfl,h1,h⟩:=qtw h
 obtain⟨x2,r,rfl,h2,h⟩:=qtw h
 obtain⟨x3,r,rfl,h3,h⟩:=qtw h
 obtain⟨x4,r,rfl,h4,h⟩:=qtw h
 have:=qbnw h
 subst this
 cases x0<;>simp[fitL]at h0
 cases x1<;>simp[fitL]at h1
 cases x2<;>simp[fitL]at h2
 cases x3<;>simp[fitL]at h3
 cases x4<;>simp[fitL]at h4
 subst h2 h3 h4
 rfl
theorem q1s {y:AV}(h:fitC qm y.cells=true):mkH (gS y.cells 0) (gB y.cells 1) (gI y.cells 2) (gI y.cells 3) (gI y.cells 4)=y:=by
 have h5:=qbrz h
 cases y with
 |agg cs=>exact congrArg AV.agg h5.symm
 |_=>
  exfalso
  have:=congrArg List.length h5
  simp[AV.cells,mkH]at this
def qd6 (n:LU)(v:Bool)(hi lo:Int)(m:LU)(w:Bool)(whi wlo:Int):Int:=bif(cmpA v hi lo w whi wlo != 0)then cmpA v hi lo w whi wlo else cmpN n m
def cmpH (y z:AV):Int:=qd6 (gS y.cells 0) (gB y.cells 1) (gI y.cells 2) (gI y.cells 3) (gS z.cells 0) (gB z.cells 1) (gI z.cells 2) (gI z.cells 3)
def ltHr (n:LU)(v:Bool)(hi lo:Int)(m:LU)(w:Bool)(whi wlo:Int):Prop:=ltP v hi lo 0 w whi wlo 0\/(v=w/\hi=whi/\lo=wlo/\cmpN n m<0)
def ltH (y z:AV):Prop:=ltHr (gS y.cells 0) (gB y.cells 1) (gI y.cells 2) (gI y.cells 3) (gS z.cells 0) (gB z.cells 1) (gI z.cells 2) (gI z.cells 3)
theorem qu6 (n:LU)(v:Bool)(hi lo:Int)(m:LU)(w:Bool)(whi wlo:Int):
 (qd6 n v hi lo m w whi wlo<0/\ltHr n v hi lo m w whi wlo)\/(qd6 n v hi lo m w whi wlo=0/\n=m/\v=w/\hi=whi/\lo=wlo)\/(qd6 n v hi lo m w whi wlo>0/\ltHr m w whi wlo n v hi lo):=by
 unfold qd6
 rcases qbkn v hi lo w whi wlo with⟨h1,h2⟩|⟨h1,rfl,rfl,rfl⟩|⟨h1,h2⟩
 · have:(cmpA v hi lo w whi wlo != 0)=true:=by simp;omega
   rw[this,cond_t]
   exact .inl ⟨h1,.inl h2⟩
 · rw[h1,show((0:Int) != 0)=false from rfl,cond_f]
   have hs:=qbmd n m
   rcases qbme n m with h|h|h
   · exact .inl ⟨by omega,.inr ⟨rfl,rfl,rfl,by omega⟩⟩
   · exact .inr (.inl ⟨h,qbem.1 h,rfl,rfl,rfl⟩)
   · exact .inr (.inr ⟨by omega,.inr ⟨rfl,rfl,rfl,by omega⟩⟩)
 · have:(cmpA v hi lo w whi wlo != 0)=true:=by simp;omega
   rw[this,cond_t]
   exact .inr (.inr ⟨h1,.inl h2⟩)
theorem qip {n:LU}{v:Bool}{hi lo:Int}:¬ltHr n v hi lo n v hi lo:=fun h=>by
 rcases h with h|⟨_,_,_,h⟩
 · exact qe0 h
 · rw[qbem.2 rfl]at h;omega
theorem qty {x y z:AV}(h1:ltH x y)(h2:ltH y z):ltH x z:=by
 unfold ltH at*
 rcases h1 with h1|⟨a1,a2,a3,a4⟩
 · rcases h2 with h2|⟨b1,b2,b3,b4⟩
   · exact .inl (qtu h1 h2)
   · left;rw[<-b1,<-b2,<-b3];exact h1
 · rcases h2 with h2|⟨b1,b2,b3,b4⟩
   · left;rw[a1,a2,a3];exact h2
   · exact .inr ⟨a1.trans b1,a2.trans b2,a3.trans b3,qbkm a4 b4⟩
theorem qbbq {y:AV}:¬ltH y y:=qip
theorem qtz {y z:AV}:ltH y z↔cmpH y z<0:=by
 unfold ltH cmpH
 rcases qu6 (gS y.cells 0) (gB y.cells 1) (gI y.cells 2) (gI y.cells 3) (gS z.cells 0) (gB z.cells 1) (gI z.cells 2) (gI z.cells 3)with⟨h1,h2⟩|⟨h1,h2,h3,h4,h5⟩|⟨h1,h2⟩
 · exact⟨fun _=>h1,fun _=>h2⟩
 · refine⟨fun h=> ?_,fun h=>by omega⟩
   rw[h2,h3,h4,h5]at h
   exact absurd h qip
 · refine⟨fun h=> ?_,fun h=>by omega⟩
   exact absurd (qty (x:=y) (y:=z) (z:=y) h h2) qbbq
def atH (n:LU)(v:Bool)(hi lo:Int)(y:AV):Bool:=gS y.cells 0==n&&((gB y.cells 1==v)&&((gI y.cells 2==hi)&&((gI y.cells 3==lo)&&true)))
theorem ql7 {n:LU}{v:Bool}{hi lo:Int}{y:AV}:atH n v hi lo y=true↔gS y.cells 0=n/\gB y.cells 1=v/\gI y.cells 2=hi/\gI y.cells 3=lo:=by
 unfold atH;simp[and_assoc]
theorem qqt {n:LU}{v:Bool}{hi lo:Int}{y:AV}:atH n v hi lo y=true↔qd6 (gS y.cells 0) (gB y.cells 1) (gI y.cells 2) (gI y.cells 3) n v hi lo=0:=by
 rw[ql7]
 rcases qu6 (gS y.cells 0) (gB y.cells 1) (gI y.cells 2) (gI y.cells 3) n v hi lo with⟨h1,h2⟩|⟨h1,h2,h3,h4,h5⟩|⟨h1,h2⟩
 · refine⟨fun h=> ?_,fun h=>by omega⟩
   rw[h.1,h.2.1,h.2.2.1,h.2.2.2]at h2
   exact absurd h2 qip
 · exact⟨fun _=>h1,fun _=>⟨h2,h3,h4,h5⟩⟩
 · refine⟨fun h=> ?_,fun h=>by omega⟩
   rw[h.1,h.2.1,h.2.2.1,h.2.2.2]at h2
   exact absurd h2 qip
theorem qu7 (n:LU)(v:Bool)(hi lo:Int)(m:LU)(w:Bool)(whi wlo:Int):(qd6 n v hi lo m w whi wlo<0↔qd6 m w whi wlo n v hi lo>0)/\(qd6 n v hi lo m w whi wlo=0↔qd6 m w whi wlo n v hi lo=0):=by
 have tr:∀{n v hi lo m w whi wlo},ltHr n v hi lo m w whi wlo->ltHr m w whi wlo n v hi lo->False:=fun {n v hi lo m w whi wlo} h1 h2=>
  qbbq (qty (x:=mkH n v hi lo 0) (y:=mkH m w whi wlo 0) (z:=mkH n v hi lo 0) h1 h2)
 rcases qu6 n v hi lo m w whi wlo with⟨h1,h2⟩|⟨h1,e1,e2,e3,e4⟩|⟨h1,h2⟩<;>rcases qu6 m w whi wlo n v hi lo with⟨k1,k2⟩|⟨k1,k3,k4,k5,k6⟩|⟨k1,k2⟩
 · exact(tr h2 k2).elim
 · subst k3 k4 k5 k6;exact absurd h2 qip
 · exact⟨by omega,by omega⟩
 · subst e1 e2 e3 e4;exact absurd k2 qip
 · exact⟨by omega,by omega⟩
 · subst e1 e2 e3 e4;exact absurd k2 qip
 · exact⟨by omega,by omega⟩
 · subst k3 k4 k5 k6;exact absurd h2 qip
 · exact(tr h2 k2).elim
section
variable (n:LU)(v:Bool)(hi lo t:Int)(m:LU)(w:Bool)(whi wlo s:Int)(hn:n.length<=9223372036854775807)(hm:m.length<=9223372036854775807)
include hn hm
theorem qbny:qt9 n v hi lo t m w whi wlo s=some (qd6 n v hi lo m w whi wlo):=by
 rw[q78];unfold qm2 qd6
 rw[qbcr,oB_s,q1r n m hn hm,oB_s]
 cases(cmpA v hi lo w whi wlo != 0)<;>rfl
theorem qbhs:qno n v hi lo t m w whi wlo s=some (qd6 n v hi lo m w whi wlo):=by
 rw[q9i];unfold qoc qd6
 rw[qbcr,oB_s,q1r n m hn hm,oB_s]
 cases(cmpA v hi lo w whi wlo != 0)<;>rfl
end
def qyc (x:LU):Bool:=x.head? ==some 42
def ql1 (x:LU):Bool:= !qbx x||qyc x
theorem qbr0 {x:LU}(h:qbx x=true):∃c r,x=c::r:=by
 rcases qr0 h with⟨rfl,_⟩|⟨_,h2,_⟩
 · exact⟨_,_,rfl⟩
 · cases x with
   |nil=>simp at h2
   |cons c r=>exact⟨c,r,rfl⟩
theorem qbp3 {R:Type}{x:LU}(h:qbx x=true)(k:Bool->Option R):(oB (ixB x (0:Int)) fun c=>k ((c.toNat:Int)==(42:Int)))=k (qyc x):=by
 obtain⟨c,r,rfl⟩:=qbr0 h
 simp only[ixB_zero,List.getElem?_cons_zero,oB_s,qyc,List.head?_cons]
 congr 1
 rw[Bool.eq_iff_iff]
 simp only[beq_iff_eq,Option.some.injEq]
 constructor
 · intro h;have:c.toNat=42:=by omega
   exact UInt8.toNat_inj.1 this
 · intro h;rw[h];rfl
theorem qbim {R:Type}{x:LU}(h:qbx x=true)(k:Bool->Option R):(bif(decide (((avS (qda x)).length:Int)>(0:Int)))then(oB (ixB (avS (qda x)) (0:Int)) fun y2=>(bif fitC [.s] y2.cells then(k ((gS y2.cells 0)==([42]:List UInt8)))else none))else k false)=k (qyc x):=by
 have hs:=qbmc h
 unfold qyc
 cases hl:qda x with
 |nil=>
  rw[hl]at hs
  have:(x.head? ==some 42)=false:=by
   rw[Bool.eq_false_iff]
   intro e
   have:=hs.2 (by simpa using e)
   simp at this
  simp[avS,this]
 |cons a r=>
  rw[hl]at hs
  have e:(a==[42])=(x.head? ==some 42):=by
   rw[Bool.eq_iff_iff]
   simp only[beq_iff_eq]
   rw[<-hs];simp
  have hpos:(((avS (a::r)).length:Int)>0):=by simp[avS]
  rw[decide_eq_true hpos,cond_t]
  simp only[ixB_zero]
  show k (a==[42])=_
  rw[e]
def qk1 (n:LU)(v:Bool)(hi lo t:Int):Int:=bif ql1 n then 2 else bif !qhk v hi lo then 3 else bif(decide (t<0)||decide (t>2147483647))then 1 else 0
theorem qbnz (n:LU)(v:Bool)(hi lo t:Int)(hn:n.length<=9223372036854775807):qt8 n v hi lo t=some (qk1 n v hi lo t):=by
 rw[q76];unfold qmz
 rw[q2l];unfold qjm
 rw[qk3 n hn,oB_s,q8q,oB_s]
 unfold qk1 ql1
 cases h:qbx n
 · simp
 · simp only[Bool.not_true,cond_f,Bool.false_or]
   rw[qbp3 h (fun b=>bif b then some 2 else bif !qhk v hi lo then some 3 else bif(decide (t<0)||decide (t>2147483647))then some 1 else some 0)]
   cases qyc n<;>simp only[cond_t,cond_f]
   cases qhk v hi lo<;>simp only[Bool.not_true,Bool.not_false,cond_t,cond_f]
   cases(decide (t<0)||decide (t>2147483647))<;>rfl
theorem qbn0 (n:LU)(hn:n.length<=9223372036854775807)(h:qbx n=true):qub n=some (qyc n):=by
 rw[q8b];unfold qm4
 rw[q8x n hn,oB_s]
 exact qbim h some
def qk2 (y:AV):Int:=qk1 (gS y.cells 0) (gB y.cells 1) (gI y.cells 2) (gI y.cells 3) (gI y.cells 4)
def qt0 (p:Option AV)(y:AV):Int:=match p with
 |none=>0
 |some z=>bif decide (cmpH y z<0)then 7 else bif(cmpH y z==0)then 12 else 0
def errH (p:Option AV)(y:AV):Int:=bif qk2 y != 0 then qk2 y else qt0 p y
def chkH:Option AV->List AV->Int
 |_,[]=>0
 |p,y::r=>bif errH p y != 0 then errH p y else chkH (some y) r
def qek (l:LA):Int:=bif decide ((l.length:Int)>256)then 9 else chkH none l
def qtf (l:LA)(i:Nat):Option AV:=match i with
 |0=>none
 |i+1=>l[i]?
theorem qbht (l:LA)(hl:qk0 l):qpm l=some (qek l):=by
 rw[q79];unfold qm3 qek
 by_cases hlen:(l.length:Int)>256
 · simp[hlen]
 · simp only[hlen,decide_false,cond_f]
   rw[q0e,qbjk l hl.1 (qgg l l (l.length:Int) fun _=>some 0) (fun i nx=>qgf l l (l.length:Int) i nx fun _=>some 0) (fun _ _=>rfl) (fun i r=>some (chkH (qtf l i) r))]
   · rfl
   · intro nx;simp[qgf,chkH]
   · intro i y r nx h1 h2 h3 h4 h5
     have hy:=hl.2 y (List.mem_of_getElem? h2)
     have h6:(i:Int)<(l.length:Int):=by omega
     unfold qgf chkH
     simp only[h6,decide_true,cond_t,ixB_nat,h2,oB_s,hy.1,qbnz _ _ _ _ _ hy.2.2.2,h4,h5]
     rw[show qtf l (i+1)=some y from h2]
     unfold errH
     rw[show qk1 (gS y.cells 0) (gB y.cells 1) (gI y.cells 2) (gI y.cells 3) (gI y.cells 4)=qk2 y from rfl]
     cases hf:(qk2 y != 0)
     · simp only[cond_f]
       cases i with
       |zero=>simp[qtf,qt0]
       |succ i=>
        have e0:(((i+1:Nat):Int)==0)=false:=by simp;omega
        have hw:IntKind.i64.wrap (((i+1:Nat):Int)-1)=(i:Int):=by rw[w64 (by omega) (by have:=hl.1;omega)];omega
        obtain⟨x,hx⟩:∃x,l[i]?=some x:=⟨l[i],by simp⟩
        have hxf:=hl.2 x (List.mem_of_getElem? hx)
        simp only[e0,cond_f,hw,ixB_nat,hx,oB_s,hxf.1,cond_t,qbny _ _ _ _ _ _ _ _ _ _ hy.2.2.2 hxf.2.2.2]
        rw[show qtf l (i+1)=some x from hx]
        unfold qt0
        rw[show qd6 (gS y.cells 0) (gB y.cells 1) (gI y.cells 2) (gI y.cells 3) (gS x.cells 0) (gB x.cells 1) (gI x.cells 2) (gI x.cells 3)=cmpH y x from rfl]
        by_cases c1:cmpH y x<0
        · simp[c1,hf]
        · by_cases c2:cmpH y x=0
          · simp[c2,hf]
          · have c3:(cmpH y x==0)=false:=by simpa using c2
            simp[c1,c3,hf]
     · simp[hf]
def blkd (l:LA)(v:Bool)(hi lo:Int):Bool:=(qwp (fun y=>qjz (gB y.cells 0) (gI y.cells 1) (gI y.cells 2) (gI y.cells 3) v hi lo) l).2&&
 ((gI (qwp (fun y=>qjz (gB y.cells 0) (gI y.cells 1) (gI y.cells 2) (gI y.cells 3) v hi lo) l).1.cells 4==2)||(gI (qwp (fun y=>qjz (gB y.cells 0) (gI y.cells 1) (gI y.cells 2) (gI y.cells 3) v hi lo) l).1.cells 4==3))
theorem qbn1 (x:AV×Bool):(bif x.2 then(bif((gI x.1.cells 4)==(2:Int))then(some true)else(some ((gI x.1.cells 4)==(3:Int))))else(some false))=some (x.2&&((gI x.1.cells 4==2)||(gI x.1.cells 4==3))):=by
 cases x.2
 · rfl
 · simp only[cond_t,Bool.true_and]
   cases(gI x.1.cells 4==2)<;>rfl
theorem q1t (l:LA)(hl:qbb l)(n:LU)(v:Bool)(hi lo t:Int):qjh l n v hi lo t=some (blkd l v hi lo):=by
 rw[q3m];unfold qkb blkd
 rw[qbnp l hl,oB_s,qbn1]
def qbq9 (z:AV):Prop:=fitC [.s] z.cells=true/\(gS z.cells 0).length<=9223372036854775807
def qzy (l:LA):Prop:=l.length<=9223372036854775807/\∀z,z∈l->qbq9 z
def qik (zs:LA)(n:LU):Bool:=zs.any fun z=>qzx n (gS z.cells 0)
theorem q5o (zs:LA)(hz:qzy zs)(n:LU)(hn:n.length<=9223372036854775807):qkq zs n=some (qik zs n):=by
 rw[q6y];unfold qlf
 rw[qhd];unfold qbs
 rw[qib];unfold qbw
 rw[qhb]
 have key:=qe6 (σ:=List UInt8) zs hz.1 (fun k i s=>qbd zs (zs.length:Int) (fun b0_0q1=>(fun v4q1 b0_0q2=>(fun v4q1 b0_0q2=>(some v4q1:Option Bool)) (decide (v4q1>=0)) b0_0q2) (-1:Int) b0_0q1) (fun v4q1 b0_0q2=>(fun v4q1 b0_0q2=>(some v4q1:Option Bool)) (decide (v4q1>=0)) b0_0q2) k i s)
  (fun i s nx=>qbc zs (zs.length:Int) i s nx (fun b0_0q1=>(fun v4q1 b0_0q2=>(fun v4q1 b0_0q2=>(some v4q1:Option Bool)) (decide (v4q1>=0)) b0_0q2) (-1:Int) b0_0q1) (fun v4q1 b0_0q2=>(fun v4q1 b0_0q2=>(some v4q1:Option Bool)) (decide (v4q1>=0)) b0_0q2)) (fun _ _ _=>rfl)
  (fun _ s=>s=n) (fun r _=>some (r.any fun z=>qzx n (gS z.cells 0))) ?_ ?_ n FU rfl (qgo (by have:=hz.1;omega))
 · exact key
 · intro s nx hs;simp[qbc]
 · intro i z r s nx h1 h2 h3 h4 hs h5
   subst hs
   have hy:=hz.2 z (List.mem_of_getElem? h2)
   have h6:(i:Int)<(zs.length:Int):=by omega
   unfold qbc
   simp only[h6,decide_true,cond_t,ixB_nat,h2,oB_s,hy.1,h4]
   rw[q2p];unfold qjn
   rw[qbp2 s _ hn hy.2,oB_s]
   show(bif qzx s (gS z.cells 0)then some (decide ((i:Int)>=0))else nx ((i+1:Nat):Int) s)=_
   rw[h5 s rfl,List.any_cons]
   have:decide ((i:Int)>=0)=true:=by simp
   cases qzx s (gS z.cells 0)<;>simp[this]
def badZ (p:Option AV)(z:AV):Bool:= !qbx (gS z.cells 0)||match p with
 |none=>false
 |some x=>decide (cmpN (gS x.cells 0) (gS z.cells 0)>=0)
def chkZ (k:Int):Option AV->List AV->Int
 |_,[]=>k
 |p,z::r=>bif badZ p z then 2 else chkZ k (some z) r
def chkS (b z:LA):List AV->Int
 |[]=>0
 |h::r=>bif !blkd b (gB h.cells 1) (gI h.cells 2) (gI h.cells 3)then 25 else bif !qik z (gS h.cells 0)then 13 else chkS b z r
def qzz (b h z:LA):Int:=bif qnx b != 0 then qnx b else bif qek h != 0 then qek h else bif decide ((z.length:Int)>32)then 9 else chkZ (chkS b z h) none z
section
variable (b h z:LA)(hb:qbb b)(hh:qk0 h)(hz:qzy z)
include hb hh hz
theorem qbra:qp4 h (h.length:Int) b h z (fun _=>some 0) FU 0=some (chkS b z h):=by
 rw[q23,qnv h hh.1 (qhj h (h.length:Int) b h z fun _=>some 0) (fun i nx=>qhi h (h.length:Int) i b h z nx fun _=>some 0) (fun _ _=>rfl) (fun r=>some (chkS b z r))]
 · intro nx;simp[qhi,chkS]
 · intro i y r nx h1 h2 h3 h4 h5
   have hy:=hh.2 y (List.mem_of_getElem? h2)
   have h6:(i:Int)<(h.length:Int):=by omega
   unfold qhi chkS
   simp only[h6,decide_true,cond_t,ixB_nat,h2,oB_s,hy.1,h4,h5,q1t b hb,q5o z hz _ hy.2.2.2]
   cases blkd b (gB y.cells 1) (gI y.cells 2) (gI y.cells 3)<;>simp only[Bool.not_true,Bool.not_false,cond_t,cond_f]
   cases qik z (gS y.cells 0)<;>rfl
theorem qbn2:qv2 b h z=some (qzz b h z):=by
 rw[q9p];unfold qof qzz
 rw[qbni b hb,oB_s,qbht h hh,oB_s]
 cases(qnx b != 0)
 case true=>rfl
 cases(qek h != 0)
 case true=>rfl
 simp only[cond_f]
 by_cases hlen:(z.length:Int)>32
 · simp[hlen]
 · simp only[hlen,decide_false,cond_f]
   rw[qbra b h z hb hh hz]
   rw[q21,qbjk z hz.1 (qhh z (z.length:Int) b h z fun _=>some (chkS b z h)) (fun i nx=>qhg z (z.length:Int) i b h z nx fun _=>some (chkS b z h)) (fun _ _=>rfl) (fun i r=>some (chkZ (chkS b z h) (qtf z i) r))]
   · rfl
   · intro nx;simp[qhg,chkZ]
   · intro i y r nx h1 h2 h3 h4 h5
     have hy:=hz.2 y (List.mem_of_getElem? h2)
     have h6:(i:Int)<(z.length:Int):=by omega
     unfold qhg chkZ
     simp only[h6,decide_true,cond_t,ixB_nat,h2,oB_s,hy.1,h4,h5]
     rw[show qtf z (i+1)=some y from h2]
     have hJ:∀kn:Bool->Option Int,qp3 (i:Int) (gS y.cells 0) z (z.length:Int) (i:Int) b h z kn=kn (badZ (qtf z i) y):=fun kn=>by
      rw[q20];unfold qjs badZ
      rw[qk3 _ hy.2,oB_s]
      cases qbx (gS y.cells 0)
      · rfl
      · simp only[Bool.not_true,cond_f,Bool.false_or]
        cases i with
        |zero=>simp[qtf]
        |succ i=>
         have hpos:((i+1:Nat):Int)>0:=by omega
         have hw:IntKind.i64.wrap (((i+1:Nat):Int)-1)=(i:Int):=by rw[w64 (by omega) (by have:=hz.1;omega)];omega
         obtain⟨x,hx⟩:∃x,z[i]?=some x:=⟨z[i],by simp⟩
         have hxf:=hz.2 x (List.mem_of_getElem? hx)
         simp only[hpos,decide_true,cond_t,hw,ixB_nat,hx,oB_s,hxf.1,q1r _ _ hxf.2 hy.2]
         rw[show qtf z (i+1)=some x from hx]
     rw[hJ]
     cases badZ (qtf z i) y<;>rfl
end
def Cutt (l:LA)(n:LU)(v:Bool)(hi lo:Int)(r:Nat):Prop:=r<=l.length/\∀(k:Nat) (y:AV),l[k]?=some y->(qd6 (gS y.cells 0) (gB y.cells 1) (gI y.cells 2) (gI y.cells 3) n v hi lo<0↔k<r)
theorem qbjl (y:AV)(n:LU)(v:Bool)(hi lo t:Int):cmpH y (mkH n v hi lo t)=qd6 (gS y.cells 0) (gB y.cells 1) (gI y.cells 2) (gI y.cells 3) n v hi lo:=rfl
theorem qbp4 (y:AV)(n:LU)(v:Bool)(hi lo t:Int):cmpH (mkH n v hi lo t) y=qd6 n v hi lo (gS y.cells 0) (gB y.cells 1) (gI y.cells 2) (gI y.cells 3):=rfl
theorem qbbr (n:LU)(v:Bool)(hi lo:Int):∀{l:LA},l.Pairwise ltH->∃r,Cutt l n v hi lo r
 |[],_=>⟨0,Nat.le_refl _,fun k y h=>by simp at h⟩
 |y::l,hp=>by
  rw[List.pairwise_cons]at hp
  obtain⟨r,h1,h2⟩:=qbbr n v hi lo hp.2
  by_cases hc:qd6 (gS y.cells 0) (gB y.cells 1) (gI y.cells 2) (gI y.cells 3) n v hi lo<0
  · refine⟨r+1,by simp;omega,fun k z hz=> ?_⟩
    cases k with
    |zero=>simp at hz;subst hz;exact⟨fun _=>by omega,fun _=>hc⟩
    |succ k=>rw[h2 k z (by simpa using hz)];omega
  · refine⟨0,Nat.zero_le _,fun k z hz=> ?_⟩
    refine⟨fun h=> ?_,fun h=>by omega⟩
    exfalso
    cases k with
    |zero=>simp at hz;subst hz;exact hc h
    |succ k=>
     have hyz:=hp.1 z (List.mem_of_getElem? (by simpa using hz))
     rw[<-qbjl z n v hi lo 0]at h
     rw[<-qbjl y n v hi lo 0]at hc
     exact hc (qtz.1 (qty hyz (qtz.2 h)))
theorem qbrb {i j:Nat}(h:i+j<=9223372036854775807):IntKind.i64.wrap ((IntKind.u64.wrap (IntKind.i64.wrap ((i:Int)+(j:Int)))).fdiv (2^min (1:Int).toNat IntKind.u64.bits))=(((i+j) / 2:Nat):Int):=by
 rw[w64 (i:=(i:Int)+(j:Int)) (by omega) (by omega),wu64 (by omega) (by omega)]
 have e:(2:Int)^min (1:Int).toNat IntKind.u64.bits=2:=by decide
 rw[e,Int.fdiv_eq_ediv_of_nonneg _ (by omega),w64 (by omega) (by omega)]
 omega
theorem q8y (l:LA)(hl:qk0 l)(hn:l.length<=1000000)(n:LU)(v:Bool)(hi lo t:Int)(hnm:n.length<=9223372036854775807){r:Nat}(hr:Cutt l n v hi lo r)(kx:Int->Option (Int×Bool)):
 ∀(m i j:Nat),i<=r->r<=j->j<=l.length->j-i<m->qi l (l.length:Int) n v hi lo t kx m (i:Int) (j:Int)=kx (r:Int)
 |0,i,j,_,_,_,h=>by omega
 |m+1,i,j,h1,h2,h3,h4=>by
  unfold qi qbn
  by_cases hij:i<j
  · have e1:(i:Int)<(j:Int):=by omega
    rw[decide_eq_true e1,cond_t]
    have e2:=qbrb (i:=i) (j:=j) (by omega)
    rw[e2,ixB_nat]
    have hk:(i+j) / 2<l.length:=by omega
    obtain⟨y,hy⟩:∃y,l[(i+j) / 2]?=some y:=⟨l[(i+j) / 2],by simp[hk]⟩
    have hyf:=hl.2 y (List.mem_of_getElem? hy)
    rw[hy,oB_s,hyf.1,cond_t,qbhs _ _ _ _ _ _ _ _ _ _ hyf.2.2.2 hnm,oB_s]
    have hc:=hr.2 _ y hy
    by_cases hlt:qd6 (gS y.cells 0) (gB y.cells 1) (gI y.cells 2) (gI y.cells 3) n v hi lo<0
    · rw[decide_eq_true hlt,cond_t,w64 (by omega) (by omega)]
      have:=hc.1 hlt
      have ih:=q8y l hl hn n v hi lo t hnm hr kx m ((i+j) / 2+1) j (by omega) h2 h3 (by omega)
      rw[show(((i+j) / 2:Nat):Int)+1=(((i+j) / 2+1:Nat):Int) by omega]
      exact ih
    · rw[decide_eq_false hlt,cond_f]
      have:¬(i+j) / 2<r:=fun h=>hlt (hc.2 h)
      exact q8y l hl hn n v hi lo t hnm hr kx m i ((i+j) / 2) h1 (by omega) (by omega) (by omega)
  · have e1:¬(i:Int)<(j:Int):=by omega
    rw[decide_eq_false e1,cond_f,show i=r by omega]
theorem qbhu (l:LA)(hl:qk0 l)(hn:l.length<=1000000)(hp:l.Pairwise ltH)(n:LU)(v:Bool)(hi lo t:Int)(hnm:n.length<=9223372036854775807){r:Nat}(hr:Cutt l n v hi lo r):qo5 l n v hi lo t=some ((r:Int),l.any (atH n v hi lo)):=by
 rw[qbb4];unfold qpn
 rw[qep];unfold qba
 rw[qei]
 have:=q8y l hl hn n v hi lo t hnm hr (fun v9q1=>(bif(decide (v9q1<(l.length:Int)))then(oB (ixB l v9q1) fun y2=>(bif fitC qm y2.cells then(oB (qno (gS y2.cells 0) (gB y2.cells 1) (gI y2.cells 2) (gI y2.cells 3) (gI y2.cells 4) n v hi lo t) fun r3=>(some (v9q1,(r3==(0:Int)))))else none))else(some (v9q1,false)))) FU 0 l.length (Nat.zero_le _) hr.1 (Nat.le_refl _) (qgo (by omega))
 rw[Int.natCast_zero]at this
 rw[this]
 have hany:l.any (atH n v hi lo)=match l[r]? with
  |some y=>atH n v hi lo y
  |none=>false:=by
  cases hy:l[r]? with
  |none=>
   simp only
   rw[Bool.eq_false_iff]
   intro h
   obtain⟨y,hym,hat⟩:=List.any_eq_true.1 h
   obtain⟨k,hk,rfl⟩:=List.mem_iff_getElem.1 hym
   have h0:=qqt.1 hat
   have:=(hr.2 k l[k] (by simp[hk])).2 (by have:=List.getElem?_eq_none_iff.1 hy;omega)
   omega
  |some y=>
   simp only
   have hrl:=(List.getElem?_eq_some_iff.1 hy).1
   rw[Bool.eq_iff_iff,List.any_eq_true]
   refine⟨?_,fun h=>⟨y,List.mem_of_getElem? hy,h⟩⟩
   rintro⟨z,hzm,hat⟩
   obtain⟨k,hk,rfl⟩:=List.mem_iff_getElem.1 hzm
   have h0:=qqt.1 hat
   have hkr:¬k<r:=fun h=>by have:=(hr.2 k l[k] (by simp[hk])).2 h;omega
   rcases Nat.lt_or_ge r k with h|h
   · exfalso
     have hlt:=List.pairwise_iff_getElem.1 hp r k hrl hk h
     have hnl:¬qd6 (gS y.cells 0) (gB y.cells 1) (gI y.cells 2) (gI y.cells 3) n v hi lo<0:=fun h=>by have:=(hr.2 r y hy).1 h;omega
     apply hnl
     have ey:l[r]=y:=by have:=List.getElem?_eq_some_iff.1 hy;exact this.2
     rw[ey]at hlt
     obtain⟨e1,e2,e3,e4⟩:=ql7.1 hat
     have:=qtz.1 hlt
     unfold cmpH at this
     rw[e1,e2,e3,e4]at this
     exact this
   · have:k=r:=by omega
     subst this
     have ey:l[k]=y:=by have:=List.getElem?_eq_some_iff.1 hy;exact this.2
     rw[ey]at hat;exact hat
 rw[hany]
 by_cases hrl:r<l.length
 · have e1:(r:Int)<(l.length:Int):=by omega
   obtain⟨y,hy⟩:∃y,l[r]?=some y:=⟨l[r],by simp[hrl]⟩
   have hyf:=hl.2 y (List.mem_of_getElem? hy)
   simp only[e1,decide_true,cond_t,ixB_nat,hy,oB_s,hyf.1,qbhs _ _ _ _ _ _ _ _ _ _ hyf.2.2.2 hnm]
   have:(qd6 (gS y.cells 0) (gB y.cells 1) (gI y.cells 2) (gI y.cells 3) n v hi lo==0)=atH n v hi lo y:=by
    rw[Bool.eq_iff_iff,qqt];simp
   rw[this]
 · have e1:¬(r:Int)<(l.length:Int):=by omega
   have hy:l[r]?=none:=List.getElem?_eq_none_iff.2 (by omega)
   simp[e1,hy]
def insH (x:AV):List AV->List AV
 |[]=>[x]
 |y::r=>bif decide (cmpH x y<0)then x::y::r else y::insH x r
theorem qny (x y:AV)(r:LA):insH x (y::r)=bif decide (cmpH x y<0)then x::y::r else y::insH x r:=rfl
theorem q1u (x:AV):∀l,(insH x l).length=l.length+1
 |[]=>rfl
 |y::r=>by rw[qny];cases decide (cmpH x y<0)<;>simp[q1u x r]
theorem qj5 {x y:AV}:∀{l:LA},y∈insH x l↔y=x\/y∈l
 |[]=>by simp[insH]
 |z::r=>by
  rw[qny]
  cases decide (cmpH x z<0)
  · simp only[cond_f,List.mem_cons,qj5 (l:=r)]
    constructor
    · rintro(h|h|h)
      · exact .inr (.inl h)
      · exact .inl h
      · exact .inr (.inr h)
    · rintro(h|h|h)
      · exact .inr (.inl h)
      · exact .inl h
      · exact .inr (.inr h)
  · simp
theorem qbcx (n:LU)(v:Bool)(hi lo t:Int):∀{l:LA} {r:Nat},Cutt l n v hi lo r->l.any (atH n v hi lo)=false->l.take r++[mkH n v hi lo t]++l.drop r=insH (mkH n v hi lo t) l
 |[],r,_,_=>by simp[insH]
 |y::l,r,hr,ha=>by
  simp only[List.any_cons,Bool.or_eq_false_iff]at ha
  have h0:=hr.2 0 y rfl
  have hs:=(qu7 (gS y.cells 0) (gB y.cells 1) (gI y.cells 2) (gI y.cells 3) n v hi lo)
  have hne:¬qd6 (gS y.cells 0) (gB y.cells 1) (gI y.cells 2) (gI y.cells 3) n v hi lo=0:=fun h=>by rw[qqt.2 h]at ha;simp at ha
  rw[qny]
  rw[qbp4]
  cases r with
  |zero=>
   have h1:¬qd6 (gS y.cells 0) (gB y.cells 1) (gI y.cells 2) (gI y.cells 3) n v hi lo<0:=fun h=>by have:=h0.1 h;omega
   have h2:=qu7 n v hi lo (gS y.cells 0) (gB y.cells 1) (gI y.cells 2) (gI y.cells 3)
   have:qd6 n v hi lo (gS y.cells 0) (gB y.cells 1) (gI y.cells 2) (gI y.cells 3)<0:=h2.1.2 (by omega)
   simp[this]
  |succ r=>
   have h1:=h0.2 (by omega)
   have:¬qd6 n v hi lo (gS y.cells 0) (gB y.cells 1) (gI y.cells 2) (gI y.cells 3)<0:=by have:=hs.1.1 h1;omega
   have ih:=qbcx n v hi lo t (l:=l) (r:=r) ⟨by have:=hr.1;simp at this;omega,fun k z hz=>by
    have:=hr.2 (k+1) z (by simpa using hz)
    rw[this];omega⟩ ha.2
   simp only[this,decide_false,cond_f,List.take_succ_cons,List.drop_succ_cons,List.cons_append]
   rw[<-ih]
theorem qbmf (l:LA)(hn:l.length<=100000){r:Nat}(hr:r<=l.length)(x:AV):qkw 48 l (r:Int) [x]=some (l.take r++[x]++l.drop r):=by
 unfold qkw
 have:decide (0<=(r:Int)/\(r:Int)<=(l.length:Int)/\0<([x]:List AV).length/\(l.length+([x]:List AV).length)*48<=140737488355328)=true:=by
  simp;omega
 rw[this];simp
theorem qbrc (l:LA)(hn:l.length<=100000){r:Nat}(hr:r<l.length):qqr l (r:Int) ((r+1:Nat):Int)=some (l.take r++l.drop (r+1)):=by
 unfold qqr
 have:decide (0<=(r:Int)/\(r:Int)<((r+1:Nat):Int)/\((r+1:Nat):Int)<=(l.length:Int)/\l.length<=9223372036854775807)=true:=by
  simp;omega
 rw[this];simp
def kin (y:AV):Bool:=(gI y.cells 4==2)||(gI y.cells 4==3)
theorem qbhv {l:LA}(hl:qbb l)(ht:qct l){v:Bool}{hi lo:Int}(u1:uok hi)(u2:uok lo):blkd l v hi lo=true↔∃y,y∈l/\hasA v hi lo y=true/\kin y=true:=by
 have hg:=qij hl ht
 have e:blkd l v hi lo=((outC (qoo (hasA v hi lo) none l)).2&&kin (outC (qoo (hasA v hi lo) none l)).1):=rfl
 rw[e]
 cases hb:qoo (hasA v hi lo) none l with
 |none=>
  obtain⟨_,h3⟩:=qbbe hb
  constructor
  · intro h;cases h
  · rintro⟨y,hy,h1,_⟩;rw[h3 y hy]at h1;cases h1
 |some b=>
  obtain⟨h3,h4,_⟩:=q1o hb
  rcases h3 with h3|⟨h3,h3'⟩
  · cases h3
  have e2:((outC (some b)).2&&kin (outC (some b)).1)=kin b:=rfl
  rw[e2]
  constructor
  · intro h;exact⟨b,h3,h3',h⟩
  · rintro⟨y,hy,ha,hk⟩
    have c1:=((qbhp (hg b h3) u1 u2).1 h3').2
    have c2:=((qbhp (hg y hy) u1 u2).1 ha).2
    have hv:(pqY b).v=(pqY y).v:=c1.1.symm.trans c2.1
    have hle:(pqY y).bits<=(pqY b).bits:=h4 y hy ha
    obtain⟨a1,a2,a3,_⟩:=(hg b h3).range
    obtain⟨b1,b2,b3,_⟩:=(hg y hy).range
    rw[<-hv]at b3
    have hkk:(pqY b).np.k<=(pqY y).np.k:=by omega
    have hs:=Np.nest c1 c2 hkk
    rcases Nat.lt_or_ge (pqY b).np.k (pqY y).np.k with hlt|hge
    · have hbar:=(q51 (hg b h3) (hg y hy)).1 (ht.bars hl h3 hy) hs hlt
      unfold kin at hk⊢
      unfold barK at hbar
      rw[Bool.or_eq_true,beq_iff_eq,beq_iff_eq]at hk
      rcases hk with h2|h2<;>rw[h2]at hbar<;>simp at hbar
      simp[hbar]
    · have:=qbbf ht h3 hy (qbq0 (hg y hy) (hg b h3) (Np.sub_antisymm (hg y hy).np_ok (Np.nest c2 c1 hge) hs))
      rw[<-this];exact hk
theorem qbn3 {l:LA}(hl:qbb l)(ht:qct l){b:AV}(hf:qbb (insF b l))(hi':qct (insF b l)){v:Bool}{hi lo:Int}(u1:uok hi)(u2:uok lo)(h:blkd l v hi lo=true):blkd (insF b l) v hi lo=true:=by
 obtain⟨y,h1,h2⟩:=(qbhv hl ht u1 u2).1 h
 exact(qbhv hf hi' u1 u2).2 ⟨y,qlo.2 (.inr h1),h2⟩
theorem qboq {b z:LA}:∀{h:LA},chkS b z h=0↔∀y,y∈h->blkd b (gB y.cells 1) (gI y.cells 2) (gI y.cells 3)=true/\qik z (gS y.cells 0)=true
 |[]=>by simp[chkS]
 |x::r=>by
  unfold chkS
  cases h1:blkd b (gB x.cells 1) (gI x.cells 2) (gI x.cells 3)with
  |false=>simp[h1]
  |true=>
  cases h2:qik z (gS x.cells 0)with
  |false=>simp[h2]
  |true=>
   simp only[Bool.not_true,cond_f,List.mem_cons]
   rw[qboq]
   constructor
   · rintro h y (rfl|hy)
     · exact⟨h1,h2⟩
     · exact h y hy
   · intro h y hy;exact h y (.inr hy)
theorem qbor (k:Int):∀{p:Option AV} {z:LA},chkZ k p z=0↔chkZ 0 p z=0/\k=0
 |p,[]=>by simp[chkZ]
 |p,x::r=>by
  unfold chkZ
  cases badZ p x with
  |true=>simp
  |false=>simp only[cond_f];exact qbor k
theorem qbbs {y z:AV}:cmpH y z>0↔ltH z y:=by rw[qtz];exact(qu7 _ _ _ _ _ _ _ _).1.symm
theorem qbbt:∀{p:Option AV} {l:LA},chkH p l=0↔(∀y,y∈l->qk2 y=0)/\l.Pairwise ltH/\∀x,p=some x->∀y,y∈l->ltH x y
 |p,[]=>by simp[chkH]
 |p,y::r=>by
  unfold chkH errH
  by_cases hf:qk2 y=0
  · have e1:(qk2 y != 0)=false:=by simp[hf]
    simp only[e1,cond_f]
    by_cases ho:qt0 p y=0
    · have e2:(qt0 p y != 0)=false:=by simp[ho]
      simp only[e2,cond_f]
      rw[qbbt (p:=some y)]
      have hp:∀x,p=some x->ltH x y:=by
       rintro x rfl
       unfold qt0 at ho
       simp only at ho
       refine qbbs.1 ?_
       by_cases c1:cmpH y x<0
       · simp[c1]at ho
       · by_cases c2:cmpH y x=0
         · simp[c2]at ho
         · omega
      constructor
      · rintro⟨a1,a2,a3⟩
        refine⟨fun z hz=> ?_,List.pairwise_cons.2 ⟨fun z hz=>a3 y rfl z hz,a2⟩,fun x hx z hz=> ?_⟩
        · rcases List.mem_cons.1 hz with rfl|hz
          · exact hf
          · exact a1 z hz
        · rcases List.mem_cons.1 hz with rfl|hz
          · exact hp x hx
          · exact qty (hp x hx) (a3 y rfl z hz)
      · rintro⟨a1,a2,a3⟩
        rw[List.pairwise_cons]at a2
        exact⟨fun z hz=>a1 z (List.mem_cons_of_mem _ hz),a2.2,fun x hx z hz=>by cases hx;exact a2.1 z hz⟩
    · have e2:(qt0 p y != 0)=true:=by simp[ho]
      simp only[e2,cond_t]
      constructor
      · intro h;exact absurd h ho
      · rintro⟨_,_,a3⟩
        exfalso;apply ho
        unfold qt0
        cases p with
        |none=>rfl
        |some x=>
         have:=qbbs.2 (a3 x rfl y (by simp))
         have c1:¬cmpH y x<0:=by omega
         have c2:(cmpH y x==0)=false:=by rw[beq_eq_false_iff_ne];omega
         simp[c1,c2]
  · have e1:(qk2 y != 0)=true:=by simp[hf]
    simp only[e1,cond_t]
    constructor
    · intro h;exact absurd h hf
    · rintro⟨a1,_⟩;exact absurd (a1 y (by simp)) hf
structure Sp where
 b:List AV
 h:List AV
 z:List AV
def Sp.av (s:Sp):AV:=.agg [(.sl 8 s.b),(.sl 5 s.h),(.sl 1 s.z)]
def Sp.fr (s:Sp):AV:=.agg [(.fr true 8 s.b),(.fr true 5 s.h),(.fr true 1 s.z)]
def sp0:Sp:=⟨[],[],[]⟩
structure Fits (s:Sp):Prop where
 b:qbb s.b
 h:qk0 s.h
 z:qzy s.z
structure Plan (s:Sp):Prop where
 f:Fits s
 nb:s.b.length<=512
 tb:qct s.b
 nh:s.h.length<=256
 fh:∀y,y∈s.h->qk2 y=0
 ph:s.h.Pairwise ltH
 nz:s.z.length<=32
 cz:chkZ 0 none s.z=0
 bl:∀y,y∈s.h->blkd s.b (gB y.cells 1) (gI y.cells 2) (gI y.cells 3)=true
 zo:∀y,y∈s.h->qik s.z (gS y.cells 0)=true
theorem qbn4 {s:Sp}(f:Fits s):qzz s.b s.h s.z=0↔Plan s:=by
 unfold qzz
 by_cases hb:qnx s.b=0
 · have e1:(qnx s.b != 0)=false:=by simp[hb]
   have hb':s.b.length<=512:=by
    unfold qnx at hb
    by_cases h:(s.b.length:Int)>512
    · simp[h]at hb
    · omega
   simp only[e1,cond_f]
   by_cases hh:qek s.h=0
   · have e2:(qek s.h != 0)=false:=by simp[hh]
     have hh':s.h.length<=256/\chkH none s.h=0:=by
      unfold qek at hh
      by_cases h:(s.h.length:Int)>256
      · simp[h]at hh
      · simp only[h,decide_false,cond_f]at hh
        exact⟨by omega,hh⟩
     simp only[e2,cond_f]
     obtain⟨a1,a2,_⟩:=qbbt.1 hh'.2
     by_cases hz:(s.z.length:Int)>32
     · simp only[hz,decide_true,cond_t]
       constructor
       · intro h;cases h
       · intro h;have:=h.nz;omega
     · simp only[hz,decide_false,cond_f]
       rw[qbor,qboq]
       constructor
       · rintro⟨h1,h2⟩
         exact⟨f,hb',(qbed hb').1 hb,hh'.1,a1,a2,by omega,h1,fun y hy=>(h2 y hy).1,fun y hy=>(h2 y hy).2⟩
       · intro h;exact⟨h.cz,fun y hy=>⟨h.bl y hy,h.zo y hy⟩⟩
   · have e2:(qek s.h != 0)=true:=by simp[hh]
     simp only[e2,cond_t]
     constructor
     · intro h;exact absurd h hh
     · intro h;exfalso;apply hh
       unfold qek
       have:¬(s.h.length:Int)>256:=by have:=h.nh;omega
       simp only[this,decide_false,cond_f]
       exact qbbt.2 ⟨h.fh,h.ph,fun x hx=>by cases hx⟩
 · have e1:(qnx s.b != 0)=true:=by simp[hb]
   simp only[e1,cond_t]
   constructor
   · intro h;exact absurd h hb
   · intro h;exact absurd ((qbed h.nb).2 h.tb) hb
structure Chg where
 k:Int
 v:Bool
 hi:Int
 lo:Int
 bits:Int
 bk:Int
 nm:List UInt8
 ow:List UInt8
 vl:Int
 nb:Int
 po:Int
 hn:List UInt8
 hv:Bool
 hhi:Int
 hlo:Int
 ht:Int
 tx:List UInt8
def Chg.av (c:Chg):AV:=.agg [(.int .i64 c.k),(.bool c.v),(.int .u64 c.hi),(.int .u64 c.lo),(.int .i64 c.bits),(.int .i64 c.bk),(.str c.nm),(.str c.ow),(.int .i64 c.vl),(.int .i64 c.nb),(.int .i64 c.po),(.str c.hn),(.bool c.hv),(.int .u64 c.hhi),(.int .u64 c.hlo),(.int .i64 c.ht),(.str c.tx)]
structure CFit (c:Chg):Prop where
 u1:uok c.hi
 u2:uok c.lo
 u3:uok c.hhi
 u4:uok c.hlo
 n1:c.nm.length<=9223372036854775807
 n2:c.ow.length<=9223372036854775807
 n3:c.hn.length<=9223372036854775807
 n4:c.tx.length<=9223372036854775807
def qwx (k:Int):Bool:=k==1||k==2||k==3||k==4||k==5||k==6
def qtg (c:Chg):Chg:=
 bif c.k==1 then⟨c.k,c.v,c.hi,c.lo,c.bits,c.bk,c.nm,c.ow,c.vl,0,0,[],false,0,0,0,[]⟩else
 bif c.k==2 then⟨c.k,c.v,c.hi,c.lo,c.bits,0,[],[],0,0,0,[],false,0,0,0,[]⟩else
 bif c.k==3 then⟨c.k,c.v,c.hi,c.lo,c.bits,0,c.nm,c.ow,0,c.nb,c.po,[],false,0,0,0,[]⟩else
 bif c.k==4 then⟨c.k,false,0,0,0,0,[],[],0,0,0,c.hn,c.hv,c.hhi,c.hlo,c.ht,[]⟩else
 bif c.k==5 then⟨c.k,false,0,0,0,0,[],[],0,0,0,c.hn,c.hv,c.hhi,c.hlo,0,[]⟩else
 bif c.k==6 then⟨c.k,false,0,0,0,0,[],[],0,0,0,c.hn,c.hv,c.hhi,c.hlo,0,c.tx⟩else
 ⟨c.k,false,0,0,0,0,[],[],0,0,0,[],false,0,0,0,[]⟩
def eqC (a b:Chg):Bool:=(a.k==b.k)&&((a.v==b.v)&&((a.hi==b.hi)&&((a.lo==b.lo)&&((a.bits==b.bits)&&((a.bk==b.bk)&&((a.nm==b.nm)&&((a.ow==b.ow)&&((a.vl==b.vl)&&((a.nb==b.nb)&&((a.po==b.po)&&((a.hn==b.hn)&&((a.hv==b.hv)&&((a.hhi==b.hhi)&&((a.hlo==b.hlo)&&((a.ht==b.ht)&&((a.tx==b.tx)&&true))))))))))))))))
theorem qbrd (c:Chg):qye c.k c.v c.hi c.lo c.bits c.bk c.nm c.ow c.vl c.nb c.po c.hn c.hv c.hhi c.hlo c.ht c.tx=some ((qtg c).av,qwx c.k):=by
 rw[qbbv];unfold qpb
 rw[q54];unfold qk4 qtg qwx
 cases h1:(c.k==1)
 case true=>rfl
 cases h2:(c.k==2)
 case true=>rfl
 cases h3:(c.k==3)
 case true=>rfl
 cases h4:(c.k==4)
 case true=>rfl
 cases h5:(c.k==5)
 case true=>rfl
 cases h6:(c.k==6)
 case true=>rfl
 rfl
def okC (c:Chg):Bool:=qwx c.k&&eqC (qtg c) c
def blkC (c:Chg):AV:=mkB c.v c.hi c.lo c.bits c.bk c.nm c.ow c.vl
def qeo (e:Int):Sp×Int:=(sp0,e)
def qop (s:Sp)(n:LU)(v:Bool)(hi lo t:Int):Sp×Int:=
 bif qek [mkH n v hi lo t] != 0 then qeo (qek [mkH n v hi lo t])else bif s.h.any (atH n v hi lo)then qeo 12 else
 bif decide ((s.h.length:Int)>=256)then qeo 9 else bif !blkd s.b v hi lo then qeo 25 else bif !qik s.z n then qeo 13 else
 (⟨s.b,insH (mkH n v hi lo t) s.h,s.z⟩,0)
def hst0:AV:=mkH [] false 0 0 0
def outH (h:LA)(k:Nat):List AV:=h.take k++h.drop (k+1)
def hAt (h:LA)(k:Nat):AV:=h[k]?.getD hst0
def qil (s:Sp)(n:LU)(v:Bool)(hi lo:Int):Sp×AV×Int:=match idxO (atH n v hi lo) s.h with
 |none=>(sp0,hst0,11)
 |some k=>(⟨s.b,outH s.h k,s.z⟩,hAt s.h k,0)
def qlp (s:Sp)(n:LU)(v:Bool)(hi lo:Int)(x:LU):Sp×Int:=match idxO (atH n v hi lo) s.h with
 |none=>qeo 11
 |some k=>bif ql1 x then qeo 2 else bif s.h.any (atH x v hi lo)then qeo 12 else bif !qik s.z x then qeo 13 else
  (⟨s.b,insH (mkH x v hi lo (gI (hAt s.h k).cells 4)) (outH s.h k),s.z⟩,0)
def lost (b h:LA):Bool:=h.any fun y=> !blkd b (gB y.cells 1) (gI y.cells 2) (gI y.cells 3)
def qyd (s:Sp)(c:Chg):Sp×Int:=
 bif c.k==1 then bif(addF s.b (blkC c)).2 != 0 then qeo (addF s.b (blkC c)).2 else(⟨(addF s.b (blkC c)).1,s.h,s.z⟩,0)else
 bif c.k==2 then bif(qbj s.b c.v c.hi c.lo c.bits).2 != 0 then qeo (qbj s.b c.v c.hi c.lo c.bits).2 else bif lost (qbj s.b c.v c.hi c.lo c.bits).1 s.h then qeo 25 else(⟨(qbj s.b c.v c.hi c.lo c.bits).1,s.h,s.z⟩,0)else
 bif c.k==3 then bif(qeh s.b ⟨c.v,c.hi,c.lo,c.bits⟩ c.nb c.po c.nm c.ow).2.2 != 0 then qeo (qeh s.b ⟨c.v,c.hi,c.lo,c.bits⟩ c.nb c.po c.nm c.ow).2.2 else(⟨(qeh s.b ⟨c.v,c.hi,c.lo,c.bits⟩ c.nb c.po c.nm c.ow).1,s.h,s.z⟩,0)else
 bif c.k==4 then qop s c.hn c.hv c.hhi c.hlo c.ht else
 bif c.k==5 then((qil s c.hn c.hv c.hhi c.hlo).1,(qil s c.hn c.hv c.hhi c.hlo).2.2)else
 qlp s c.hn c.hv c.hhi c.hlo c.tx
def qbl (s:Sp)(c:Chg):Sp×Int:=bif okC c then qyd s c else qeo 1
structure Wk (s:Sp):Prop where
 f:Fits s
 nb:s.b.length<=1000
 tb:qct s.b
 nh:s.h.length<=1000
 ph:s.h.Pairwise ltH
 nz:s.z.length<=1000
theorem Plan.wk {s:Sp}(h:Plan s):Wk s:=⟨h.f,by have:=h.nb;omega,h.tb,by have:=h.nh;omega,h.ph,by have:=h.nz;omega⟩
theorem qbre {l:LA}(hp:l.Pairwise ltH){n:LU}{v:Bool}{hi lo:Int}{r k:Nat}(hr:Cutt l n v hi lo r)(hk:idxO (atH n v hi lo) l=some k):r=k:=by
 obtain⟨y,hy,hf⟩:=qio l k hk
 have hat:=List.find?_some hf
 have h0:=qqt.1 hat
 have h1:¬k<r:=fun h=>by have:=(hr.2 k y hy).2 h;omega
 have hkl:=(List.getElem?_eq_some_iff.1 hy).1
 rcases Nat.lt_or_ge r k with h|h
 · exfalso
   have hrl:r<l.length:=by omega
   have hlt:=List.pairwise_iff_getElem.1 hp r k hrl hkl h
   have hnl:¬qd6 (gS (l[r]).cells 0) (gB (l[r]).cells 1) (gI (l[r]).cells 2) (gI (l[r]).cells 3) n v hi lo<0:=fun h=>by have:=(hr.2 r l[r] (by simp[hrl])).1 h;omega
   apply hnl
   have ey:l[k]=y:=by have:=List.getElem?_eq_some_iff.1 hy;exact this.2
   rw[ey]at hlt
   obtain⟨e1,e2,e3,e4⟩:=ql7.1 hat
   have:=qtz.1 hlt
   unfold cmpH at this
   rw[e1,e2,e3,e4]at this
   exact this
 · omega
theorem qbko {s:Sp}(w:Wk s):qqz s.b s.h s.z=some s.fr:=by
 rw[qbeu];unfold qqy qq qiu qkn qtr
 have h1:s.b.length*80<=140737488355328:=by have:=w.nb;omega
 have h2:s.h.length*48<=140737488355328:=by have:=w.nh;omega
 have h3:s.z.length*16<=140737488355328:=by have:=w.nz;omega
 simp[h1,h2,h3,Sp.fr]
theorem qwy:hd ([]:List AV) ([]:List AV).length=true:=rfl
theorem qbcy {n:LU}{v:Bool}{hi lo t:Int}(u1:uok hi)(u2:uok lo)(h:n.length<=9223372036854775807):qbbp (mkH n v hi lo t):=⟨rfl,u1,u2,h⟩
theorem qbp5 {y:AV}(h:qbbp y):qk0 [y]:=⟨by simp,fun z hz=>by simp at hz;subst hz;exact h⟩
theorem qbmg {s:Sp}(w:Wk s)(n:LU)(v:Bool)(hi lo t:Int)(u1:uok hi)(u2:uok lo)(hn:n.length<=9223372036854775807):qsd n v hi lo t s.b s.h s.z=some ((qop s n v hi lo t).1.fr,(qop s n v hi lo t).2):=by
 obtain⟨r,hr⟩:=qbbr n v hi lo w.ph
 rw[q6z];unfold qlg qop
 rw[show(AV.agg [(.str n),(.bool v),(.int .u64 hi),(.int .u64 lo),(.int .i64 t)])=mkH n v hi lo t from rfl]
 simp only[hd_self,qwy,cond_t,qbht _ (qbp5 (qbcy u1 u2 hn)),oB_s,qbhu s.h w.f.h (by have:=w.nh;omega) w.ph n v hi lo t hn hr,q1t s.b w.f.b,q5o s.z w.f.z n hn,qbmf s.h (by have:=w.nh;omega) hr.1]
 cases(qek [mkH n v hi lo t] != 0)
 case true=>rfl
 simp only[cond_f]
 cases ha:s.h.any (atH n v hi lo)
 case true=>rfl
 simp only[cond_f]
 cases decide ((s.h.length:Int)>=256)
 case true=>rfl
 simp only[cond_f]
 cases blkd s.b v hi lo
 case false=>rfl
 cases qik s.z n
 case false=>rfl
 simp only[Bool.not_true,cond_f]
 rw[qbcx n v hi lo t hr ha];rfl
theorem qbmh {y:AV}(h:fitC qm y.cells=true):∃n v hi lo t,y=mkH n v hi lo t:=⟨_,_,_,_,_,(q1s h).symm⟩
theorem qbp6 {y:AV}(h:fitC qm y.cells=true):rdE y 0 true 5=some y:=by obtain⟨n,v,hi,lo,t,rfl⟩:=qbmh h;rfl
theorem qbmi {y:AV}(h:fitC qm y.cells=true):fitV (.st qm) y=true:=by obtain⟨n,v,hi,lo,t,rfl⟩:=qbmh h;rfl
theorem qwz {h:LA}{k:Nat}{y:AV}(e:h[k]?=some y):hAt h k=y:=by unfold hAt;rw[e];rfl
theorem qw0 {s:Sp}(w:Wk s)(n:LU)(v:Bool)(hi lo t:Int)(hn:n.length<=9223372036854775807):qic n v hi lo t s.b s.h s.z=some ((qil s n v hi lo).1.fr,(qil s n v hi lo).2.1,(qil s n v hi lo).2.2):=by
 obtain⟨r,hr⟩:=qbbr n v hi lo w.ph
 rw[q0f];unfold qi5 qil
 have hany:s.h.any (atH n v hi lo)=(idxO (atH n v hi lo) s.h).isSome:=by
  rw[<-qsw];unfold idxI
  cases idxO (atH n v hi lo) s.h with
  |none=>rfl
  |some k=>simp
 simp only[hd_self,qwy,cond_t,qbhu s.h w.f.h (by have:=w.nh;omega) w.ph n v hi lo t hn hr,oB_s,hany]
 cases hk:idxO (atH n v hi lo) s.h with
 |none=>rfl
 |some k=>
  have:=qbre w.ph hr hk
  subst this
  obtain⟨y,hy,_⟩:=qio s.h r hk
  have hrl:=(List.getElem?_eq_some_iff.1 hy).1
  have hyf:=w.f.h.2 y (List.mem_of_getElem? hy)
  have h1:decide (0<=(r:Int)/\(r:Int)<(s.h.length:Int))=true:=decide_eq_true ⟨by omega,by omega⟩
  have hw:IntKind.i64.wrap ((r:Int)+1)=((r+1:Nat):Int):=by rw[w64 (by omega) (by have:=w.nh;omega)];omega
  simp only[Option.isSome_some,Bool.not_true,cond_f,h1,cond_t,Int.toNat_natCast,hy,oB_s,hw,qbrc s.h (by have:=w.nh;omega) hrl,hd_self]
  rw[qwz hy]
  have hz:rdE y 0 true 5=some y:=qbp6 hyf.1
  have hv:fitV (.st qm) y=true:=qbmi hyf.1
  rw[hz]
  simp only[oB_s,hv,cond_t]
  rw[show(AV.agg [(.str (gS y.cells 0)),(.bool (gB y.cells 1)),(.int .u64 (gI y.cells 2)),(.int .u64 (gI y.cells 3)),(.int .i64 (gI y.cells 4))])=y from q1s hyf.1]
  rfl
theorem spf0 (s:Sp):gL s.fr.cells 0=s.b:=rfl
theorem spf1 (s:Sp):gL s.fr.cells 1=s.h:=rfl
theorem spf2 (s:Sp):gL s.fr.cells 2=s.z:=rfl
theorem qbjm {h:LA}{k:Nat}(hk:k<h.length):(outH h k).length+1=h.length:=by simp[outH];omega
theorem qsy {h:LA}{k:Nat}{y:AV}(hy:y∈outH h k):y∈h:=by
 rcases List.mem_append.1 hy with h1|h1
 · exact List.mem_of_mem_take h1
 · exact List.mem_of_mem_drop h1
theorem qve (h:LA)(k:Nat):(outH h k).Sublist h:=by
 have:h=h.take k++h.drop k:=(List.take_append_drop k h).symm
 unfold outH
 conv=>rhs;rw[this]
 exact(List.Sublist.refl _).append (by rw[show h.drop (k+1)=(h.drop k).drop 1 by simp];exact List.drop_sublist 1 _)
theorem Wk.out {s:Sp}(w:Wk s)(k:Nat):Wk ⟨s.b,outH s.h k,s.z⟩:=⟨⟨w.f.b,⟨Nat.le_trans (qve s.h k).length_le w.f.h.1,fun y hy=>w.f.h.2 y (qsy hy)⟩,w.f.z⟩,w.nb,w.tb,Nat.le_trans (qve s.h k).length_le w.nh,w.ph.sublist (qve s.h k),w.nz⟩
theorem qbcz {h:LA}{k:Nat}{y:AV}(e:h[k]?=some y)(q:AV->Bool):h.any q=((outH h k).any q||q y):=by
 have hk:=(List.getElem?_eq_some_iff.1 e).1
 have hd:h.drop k=y::h.drop (k+1):=by
  rw[List.drop_eq_getElem_cons hk];congr 1;exact(List.getElem?_eq_some_iff.1 e).2
 have:h=h.take k++(y::h.drop (k+1)):=by rw[<-hd,List.take_append_drop]
 conv=>lhs;rw[this]
 unfold outH
 simp only[List.any_append,List.any_cons]
 cases(h.take k).any q<;>cases q y<;>simp
theorem qbn5 {s:Sp}(w:Wk s)(n:LU)(v:Bool)(hi lo t:Int)(x:LU)(hn:n.length<=9223372036854775807)(hx:x.length<=9223372036854775807):quc s.b s.h s.z n v hi lo t x=some ((qlp s n v hi lo x).1.fr,(qlp s n v hi lo x).2):=by
 rw[q8c];unfold qm5 qlp
 simp only[qbko w,oB_s,spf0,spf1,spf2,hd_self,qwy,cond_t,Bool.and_self,qw0 w n v hi lo t hn]
 unfold qil
 cases hk:idxO (atH n v hi lo) s.h with
 |none=>rfl
 |some k=>
  obtain⟨y,hy,hf⟩:=qio s.h k hk
  have hat:=List.find?_some hf
  obtain⟨e1,e2,e3,e4⟩:=ql7.1 hat
  have hkl:=(List.getElem?_eq_some_iff.1 hy).1
  have hyf:=w.f.h.2 y (List.mem_of_getElem? hy)
  have wo:=w.out k
  obtain⟨r,hr⟩:=qbbr x v hi lo wo.ph
  simp only[bne_self_eq_false,cond_f,qwz hy,e1,e2,e3,e4,hd_self,cond_t,Bool.and_self,qwy,spf0,spf1,spf2]
  rw[q0h];unfold qi6
  rw[qk3 x hx,oB_s]
  unfold ql1
  cases ho:qbx x with
  |false=>rfl
  |true=>
   simp only[Bool.not_true,cond_f,qbn0 x hx ho,oB_s,Bool.false_or]
   cases qyc x with
   |true=>rfl
   |false=>
    have hany:s.h.any (atH x v hi lo)=((outH s.h k).any (atH x v hi lo)||(x==n)):=by
     rw[qbcz hy];congr 1
     rw[Bool.eq_iff_iff,ql7]
     simp only[e1,e2,e3,e4,and_true,beq_iff_eq]
     exact eq_comm
    simp only[cond_f,qbhu (outH s.h k) wo.f.h (by have:=wo.nh;simp only at this;omega) wo.ph x v hi lo (gI y.cells 4) hx hr,oB_s,hany]
    cases hb:((outH s.h k).any (atH x v hi lo)||(x==n))with
    |true=>rfl
    |false=>
     have ha:(outH s.h k).any (atH x v hi lo)=false:=by
      cases h:(outH s.h k).any (atH x v hi lo)with
      |false=>rfl
      |true=>rw[h]at hb;cases hb
     simp only[cond_f,q5o s.z w.f.z x hx,oB_s]
     cases qik s.z x with
     |false=>rfl
     |true=>
      rw[show(AV.agg [(.str x),(.bool v),(.int .u64 hi),(.int .u64 lo),(.int .i64 (gI y.cells 4))])=mkH x v hi lo (gI y.cells 4)from rfl]
      simp only[Bool.not_true,cond_f,qbmf (outH s.h k) (by have:=wo.nh;simp only at this;omega) hr.1,oB_s,qbcx x v hi lo (gI y.cells 4) hr ha,hd_self,cond_t]
      rfl
theorem qbrf {R:Type}{s:Sp}(hb:qbb s.b)(hh:qk0 s.h)(kr:Bool->List AV->List AV->List AV->Option R):
 qcf s.h s.b s.h s.z kr=kr (lost s.b s.h) s.b s.h s.z:=by
 rw[qgt];unfold qbp
 rw[qhm];unfold qbu
 rw[qgr]
 have key:=qe6 (σ:=List AV×List AV×List AV) s.h hh.1 (fun k i t=>q9 s.h (s.h.length:Int) (fun b0_0q1 b0_1q2 b0_2q3=>(fun v4q1 b0_0q2 b0_1q3 b0_2q4=>(kr (decide (v4q1>=0)) b0_0q2 b0_1q3 b0_2q4)) (-1:Int) b0_0q1 b0_1q2 b0_2q3) (fun v4q1 b0_0q2 b0_1q3 b0_2q4=>(kr (decide (v4q1>=0)) b0_0q2 b0_1q3 b0_2q4)) k i t.1 t.2.1 t.2.2)
  (fun i t nx=>q8 s.h (s.h.length:Int) i t.1 t.2.1 t.2.2 (fun i a b c=>nx i (a,b,c)) (fun b0_0q1 b0_1q2 b0_2q3=>(fun v4q1 b0_0q2 b0_1q3 b0_2q4=>(kr (decide (v4q1>=0)) b0_0q2 b0_1q3 b0_2q4)) (-1:Int) b0_0q1 b0_1q2 b0_2q3) (fun v4q1 b0_0q2 b0_1q3 b0_2q4=>(kr (decide (v4q1>=0)) b0_0q2 b0_1q3 b0_2q4))) (fun _ _ _=>rfl)
  (fun _ t=>t=(s.b,s.h,s.z)) (fun r _=>kr (lost s.b r) s.b s.h s.z) ?_ ?_ (s.b,s.h,s.z) FU rfl (qgo (by have:=hh.1;omega))
 · exact key
 · intro t nx ht;subst ht;simp[q8,lost]
 · intro i y r t nx h1 h2 h3 h4 ht h5
   subst ht
   have hy:=hh.2 y (List.mem_of_getElem? h2)
   have h6:(i:Int)<(s.h.length:Int):=by omega
   unfold q8
   simp only[h6,decide_true,cond_t,ixB_nat,h2,oB_s,hy.1,h4]
   rw[q6i];unfold qla
   rw[q1t s.b hb,oB_s]
   simp only[h5 _ rfl]
   have e:lost s.b (y::r)=((!blkd s.b (gB y.cells 1) (gI y.cells 2) (gI y.cells 3))||lost s.b r):=rfl
   rw[e]
   have:decide ((i:Int)>=0)=true:=by simp
   cases blkd s.b (gB y.cells 1) (gI y.cells 2) (gI y.cells 3)<;>simp[this]
theorem qbeo {s:Sp}{n:LU}{v:Bool}{hi lo t:Int}(h:(qop s n v hi lo t).2≠0):(qop s n v hi lo t).1=sp0:=by
 unfold qop at*
 cases h1:(qek [mkH n v hi lo t] != 0)
 case true=>rfl
 cases h2:s.h.any (atH n v hi lo)
 case true=>rfl
 cases h3:decide ((s.h.length:Int)>=256)
 case true=>rfl
 cases h4:blkd s.b v hi lo
 case false=>rfl
 cases h5:qik s.z n
 case false=>rfl
 rw[h1,h2,h3,h4,h5]at h
 exact absurd rfl h
theorem qbep {s:Sp}{n:LU}{v:Bool}{hi lo:Int}(h:(qil s n v hi lo).2.2≠0):(qil s n v hi lo).1=sp0:=by
 unfold qil at*
 cases hk:idxO (atH n v hi lo) s.h with
 |none=>rfl
 |some k=>rw[hk]at h;exact absurd rfl h
theorem qbeq {s:Sp}{n:LU}{v:Bool}{hi lo:Int}{x:LU}(h:(qlp s n v hi lo x).2≠0):(qlp s n v hi lo x).1=sp0:=by
 unfold qlp at*
 cases hk:idxO (atH n v hi lo) s.h with
 |none=>rfl
 |some k=>
  rw[hk]at h
  simp only at h⊢
  cases h1:ql1 x
  case true=>rfl
  cases h2:s.h.any (atH x v hi lo)
  case true=>rfl
  cases h3:qik s.z x
  case false=>rfl
  rw[h1,h2,h3]at h
  exact absurd rfl h
theorem qbkp (r:Sp×Int)(h:r.2≠0->r.1=sp0):(bif r.2 != 0 then(some ((.agg [(.sl 8 []),(.sl 5 []),(.sl 1 [])]),r.2):Option (AV×Int))else some ((.agg [(.sl 8 r.1.b),(.sl 5 r.1.h),(.sl 1 r.1.z)]),0))=some (r.1.av,r.2):=by
 obtain⟨x,e⟩:=r
 by_cases he:e=0
 · subst he;rfl
 · have h1:=h he
   simp only at h1
   subst h1
   have:(e != 0)=true:=by simpa using he
   simp only[this,cond_t];rfl
theorem qz0 {s:Sp}(w:Wk s)(c:Chg)(hc:CFit c):qdv s.b s.h s.z c.k c.v c.hi c.lo c.bits c.bk c.nm c.ow c.vl c.nb c.po c.hn c.hv c.hhi c.hlo c.ht c.tx=some ((qbl s c).1.av,(qbl s c).2):=by
 rw[q9n];unfold qod qbl
 rw[qbrd c,oB_s]
 have e1:(!qwx c.k|| !eqC (qtg c) c)= !okC c:=by unfold okC;cases qwx c.k<;>rfl
 change (bif(!qwx c.k|| !eqC (qtg c) c)then _ else _)=_
 rw[e1]
 cases ho:okC c with
 |false=>rfl
 |true=>
  simp only[Bool.not_true,cond_f,cond_t,qbko w,oB_s,spf0,spf1,spf2,hd_self,Bool.and_self]
  rw[q2u];unfold qjp qyd
  simp only[hd_self,cond_t,Bool.and_self]
  cases h1:(c.k==1)with
  |true=>
   simp only[cond_t]
   rw[qbop s.b w.f.b (by have:=w.nb;omega) w.tb c.v c.hi c.lo c.bits c.bk c.nm c.ow c.vl ⟨rfl,hc.u1,hc.u2,hc.n1,hc.n2⟩]
   simp only[oB_s]
   rw[show mkB c.v c.hi c.lo c.bits c.bk c.nm c.ow c.vl=blkC c from rfl]
   cases he:((addF s.b (blkC c)).2 != 0)<;>rfl
  |false=>
  simp only[cond_f]
  cases h2:(c.k==2)with
  |true=>
   simp only[cond_t]
   rw[qbnk s.b w.f.b (by have:=w.nb;omega) w.tb]
   simp only[oB_s]
   rw[q2s];unfold qjo
   cases he:((qbj s.b c.v c.hi c.lo c.bits).2 != 0)with
   |true=>
    have:((qbj s.b c.v c.hi c.lo c.bits).2==0)=false:=by simpa using he
    simp only[this,cond_f,he,cond_t];rfl
   |false=>
    have:((qbj s.b c.v c.hi c.lo c.bits).2==0)=true:=by simpa using he
    have h0:(qbj s.b c.v c.hi c.lo c.bits).2=0:=by simpa using he
    simp only[this,cond_t,he,cond_f]
    obtain⟨r1,_,_⟩:=qyo w.f.b w.tb h0
    rw[qbrf (s:=⟨(qbj s.b c.v c.hi c.lo c.bits).1,s.h,s.z⟩) r1 w.f.h]
    cases hl:lost (qbj s.b c.v c.hi c.lo c.bits).1 s.h<;>rfl
  |false=>
  simp only[cond_f]
  cases h3:(c.k==3)with
  |true=>
   simp only[cond_t]
   rw[qbbh s.b w.f.b w.tb w.nb ⟨c.v,c.hi,c.lo,c.bits⟩ c.nb c.po c.nm c.ow hc.n1 hc.n2]
   simp only[oB_s]
   cases he:((qeh s.b ⟨c.v,c.hi,c.lo,c.bits⟩ c.nb c.po c.nm c.ow).2.2 != 0)<;>rfl
  |false=>
  simp only[cond_f]
  cases h4:(c.k==4)with
  |true=>
   simp only[cond_t,qbmg w c.hn c.hv c.hhi c.hlo c.ht hc.u3 hc.u4 hc.n3,oB_s,spf0,spf1,spf2,hd_self]
   exact qbkp (qop s c.hn c.hv c.hhi c.hlo c.ht) qbeo
  |false=>
  simp only[cond_f]
  cases h5:(c.k==5)with
  |true=>
   simp only[cond_t,qw0 w c.hn c.hv c.hhi c.hlo c.ht hc.n3,oB_s,spf0,spf1,spf2,hd_self]
   exact qbkp ((qil s c.hn c.hv c.hhi c.hlo).1,(qil s c.hn c.hv c.hhi c.hlo).2.2) qbep
  |false=>
  have h6:(c.k==6)=true:=by
   unfold okC qwx at ho
   rw[h1,h2,h3,h4,h5]at ho
   cases h:(c.k==6)
   · rw[h]at ho;cases ho
   · rfl
  simp only[cond_f,h6,cond_t,qbn5 w c.hn c.hv c.hhi c.hlo c.ht c.tx hc.n3 hc.n4,oB_s,spf0,spf1,spf2,hd_self]
  exact qbkp (qlp s c.hn c.hv c.hhi c.hlo c.tx) qbeq
def qbbu:Ty:=.st [.str,q5f,.int .i64]
def qbkq:Ty:=.str
theorem hstsFit_of {l:LA}(h:l.length<=9223372036854775807/\∀y,y∈l->fitC qbbu.lts y.cells=true/\qbbu.good y.cells 0):qk0 l:=
 ⟨h.1,fun y hy=>by
  obtain⟨h1,h2⟩:=h.2 y hy
  simp only[qbbu,q5f,Ty.good.goods,Ty.good,Ty.size,Ty.sizes,Nat.zero_add,Nat.reduceAdd,and_true,true_and]at h2
  exact⟨h1,h2.2.1.1,h2.2.1.2,h2.1⟩⟩
theorem zonsFit_of {l:LA}(h:l.length<=9223372036854775807/\∀y,y∈l->fitC qbkq.lts y.cells=true/\qbkq.good y.cells 0):qzy l:=
 ⟨h.1,fun y hy=>by
  obtain⟨h1,h2⟩:=h.2 y hy
  simp only[qbkq,Ty.good]at h2
  exact⟨h1,h2⟩⟩
def qbmj:List Ty:=[.int .i64,qba7,.int .i64,.int .i64,qbbu,.str]
theorem cfit_of {cs:LA}(h:Ty.good.goods qbmj cs 0):CFit ⟨gI cs 0,gB cs 1,gI cs 2,gI cs 3,gI cs 4,gI cs 5,gS cs 6,gS cs 7,gI cs 8,gI cs 9,gI cs 10,gS cs 11,gB cs 12,gI cs 13,gI cs 14,gI cs 15,gS cs 16⟩:=by
 simp only[qbmj,qba7,qbbu,qbhc,q5f,Ty.good.goods,Ty.good,Ty.size,Ty.sizes,Nat.zero_add,Nat.reduceAdd,and_true,true_and]at h
 obtain⟨_,⟨⟨⟨h2,h3⟩,_⟩,_,h6,h7,_⟩,_,_,⟨h11,⟨h13,h14⟩,_⟩,h16⟩:=h
 exact⟨h2,h3,h13,h14,h6,h7,h11,h16⟩
theorem wk0:Wk sp0:=⟨⟨⟨by decide,fun y hy=>by cases hy⟩,⟨by decide,fun y hy=>by cases hy⟩,⟨by decide,fun y hy=>by cases hy⟩⟩,by decide,fun j y h=>(by cases h),by decide,List.Pairwise.nil,by decide⟩
def exC1:Chg:=⟨1,false,0,167772160,8,1,[110,101,116],[],0,0,0,[],false,0,0,0,[]⟩
def exC2:Chg:=⟨2,false,0,167772160,8,0,[],[],0,0,0,[],false,0,0,0,[]⟩
theorem qbr1:CFit exC1:=⟨⟨by decide,by decide⟩,⟨by decide,by decide⟩,⟨by decide,by decide⟩,⟨by decide,by decide⟩,by decide,by decide,by decide,by decide⟩
theorem qbr2:CFit exC2:=⟨⟨by decide,by decide⟩,⟨by decide,by decide⟩,⟨by decide,by decide⟩,⟨by decide,by decide⟩,by decide,by decide,by decide,by decide⟩
theorem exA1:qbl sp0 exC1=(⟨[blkC exC1],[],[]⟩,0):=by kernel_rfl
theorem exA2:qbl sp0 exC2=(sp0,11):=by kernel_rfl
theorem exP1:qdv [] [] [] 1 false 0 167772160 8 1 [110,101,116] [] 0 0 0 [] false 0 0 0 []=some ((Sp.mk [blkC exC1] [] []).av,0):=by
 have:=qz0 wk0 exC1 qbr1
 rw[exA1]at this;exact this
theorem exP2:qdv [] [] [] 2 false 0 167772160 8 0 [] [] 0 0 0 [] false 0 0 0 []=some (sp0.av,11):=by
 have:=qz0 wk0 exC2 qbr2
 rw[exA2]at this;exact this
theorem exI1:qir [] [] [] 1 false 0 167772160 8 1 [110,101,116] [] 0 0 0 [] false 0 0 0 []=some (exC2.av,0):=by
 rw[qut];unfold qiw
 rw[exP1];rfl
theorem qber:qks=some true:=by
 rw[q60];unfold qlh
 have ht:qqv 8=some (.agg [(.bool false),(.int .u64 0),(.int .u64 (167772160:Int)),(.int .i64 8)]):=by
  rw[q8z];rfl
 rw[ht]
 simp only[oB_s]
 rw[show qdv [] [] [] 1 (gB (AV.agg [(.bool false),(.int .u64 0),(.int .u64 (167772160:Int)),(.int .i64 8)]).cells 0) (gI (AV.agg [(.bool false),(.int .u64 0),(.int .u64 (167772160:Int)),(.int .i64 8)]).cells 1) (gI (AV.agg [(.bool false),(.int .u64 0),(.int .u64 (167772160:Int)),(.int .i64 8)]).cells 2) (gI (AV.agg [(.bool false),(.int .u64 0),(.int .u64 (167772160:Int)),(.int .i64 8)]).cells 3) 1 [110,101,116] [] 0 0 0 [] false 0 0 0 []=some ((Sp.mk [blkC exC1] [] []).av,0)from exP1]
 rw[show qdv [] [] [] 2 (gB (AV.agg [(.bool false),(.int .u64 0),(.int .u64 (167772160:Int)),(.int .i64 8)]).cells 0) (gI (AV.agg [(.bool false),(.int .u64 0),(.int .u64 (167772160:Int)),(.int .i64 8)]).cells 1) (gI (AV.agg [(.bool false),(.int .u64 0),(.int .u64 (167772160:Int)),(.int .i64 8)]).cells 2) (gI (AV.agg [(.bool false),(.int .u64 0),(.int .u64 (167772160:Int)),(.int .i64 8)]).cells 3) 0 [] [] 0 0 0 [] false 0 0 0 []=some (sp0.av,11)from exP2]
 rw[show qir [] [] [] 1 (gB (AV.agg [(.bool false),(.int .u64 0),(.int .u64 (167772160:Int)),(.int .i64 8)]).cells 0) (gI (AV.agg [(.bool false),(.int .u64 0),(.int .u64 (167772160:Int)),(.int .i64 8)]).cells 1) (gI (AV.agg [(.bool false),(.int .u64 0),(.int .u64 (167772160:Int)),(.int .i64 8)]).cells 2) (gI (AV.agg [(.bool false),(.int .u64 0),(.int .u64 (167772160:Int)),(.int .i64 8)]).cells 3) 1 [110,101,116] [] 0 0 0 [] false 0 0 0 []=some (exC2.av,0)from exI1]
 rfl
def qbos (b h z l:LA):Bool:=(((decide ((b.length:Int)>(40:Int)))||(decide ((h.length:Int)>(40:Int))))||(decide ((z.length:Int)>(40:Int))))||(decide ((l.length:Int)>(68:Int)))
theorem qbp7 (b h z l:LA):qqu b h z l=some (qbos b h z l):=by rw[q28];rfl
theorem qbrg (l:LA)(hl:qbb l)(a b c d:LA)(kx:Unit->Option Bool):qoy (l.length:Int) l a b l c d kx FU 0=kx ():=by
 rw[q0i,qnv l hl.1 (qgi (l.length:Int) l a b l c d kx) (fun i nx=>qgh (l.length:Int) i l a b l c d nx kx) (fun _ _=>rfl) (fun r=>kx ())]
 · intro nx;simp[qgh]
 · intro i y r nx h1 h2 h3 h4 h5
   have hy:=hl.2 y (List.mem_of_getElem? h2)
   have h6:(i:Int)<(l.length:Int):=by omega
   unfold qgh
   simp only[h6,decide_true,cond_t,ixB_nat,h2,oB_s,hy.1,h4,h5,beq_self_eq_true,Bool.and_self,Bool.not_true,cond_f]
theorem qbrh (l:LA)(hl:qk0 l)(a b c d:LA)(kx:Unit->Option Bool):qoz (l.length:Int) a l b c l d kx FU 0=kx ():=by
 rw[q0j,qnv l hl.1 (qgk (l.length:Int) a l b c l d kx) (fun i nx=>qgj (l.length:Int) i a l b c l d nx kx) (fun _ _=>rfl) (fun r=>kx ())]
 · intro nx;simp[qgj]
 · intro i y r nx h1 h2 h3 h4 h5
   have hy:=hl.2 y (List.mem_of_getElem? h2)
   have h6:(i:Int)<(l.length:Int):=by omega
   unfold qgj
   simp only[h6,decide_true,cond_t,ixB_nat,h2,oB_s,hy.1,h4,h5,beq_self_eq_true,Bool.and_self,Bool.not_true,cond_f]
theorem qbri (l:LA)(hl:qzy l)(a b c d:LA)(kx:Unit->Option Bool):qo0 (l.length:Int) a b l c d l kx FU 0=kx ():=by
 rw[q0k,qnv l hl.1 (qgm (l.length:Int) a b l c d l kx) (fun i nx=>qgl (l.length:Int) i a b l c d l nx kx) (fun _ _=>rfl) (fun r=>kx ())]
 · intro nx;simp[qgl]
 · intro i y r nx h1 h2 h3 h4 h5
   have hy:=hl.2 y (List.mem_of_getElem? h2)
   have h6:(i:Int)<(l.length:Int):=by omega
   unfold qgl
   simp only[h6,decide_true,cond_t,ixB_nat,h2,oB_s,hy.1,h4,h5,beq_self_eq_true,Bool.and_self,Bool.not_true,cond_f]
theorem qbn6 {s:Sp}(f:Fits s):qpp s.b s.h s.z s.b s.h s.z=some true:=by
 rw[q8d];unfold qm6
 simp only[bne_self_eq_false,Bool.or_self,cond_f]
 rw[qbrg s.b f.b,qbrh s.h f.h,qbri s.z f.z]
theorem qbhw {l:LA}(hl:qk0 l)(hn:l.length<=100000){y:AV}(hy:qbbp y):qk0 (insH y l):=⟨by rw[q1u];omega,fun z hz=>by
 rcases qj5.1 hz with rfl|h
 · exact hy
 · exact hl.2 z h⟩
theorem qbjn {l:LA}(hl:qbb l)(hn:l.length<=100000){b:AV}(hb:qkx b):qbb (addF l b).1:=by
 rcases qbnt (l:=l) (b:=b)with h|h<;>rw[h]
 · exact⟨by simp,fun y hy=>by cases hy⟩
 · exact q8u hl hn hb
theorem qkm:Fits sp0:=wk0.f
theorem qbkr {s:Sp}(w:Wk s){c:Chg}(hc:CFit c):Fits (qbl s c).1:=by
 unfold qbl
 cases okC c with
 |false=>exact qkm
 |true=>
 simp only[cond_t]
 unfold qyd
 cases(c.k==1)with
 |true=>
  simp only[cond_t]
  cases((addF s.b (blkC c)).2 != 0)with
  |true=>exact qkm
  |false=>exact⟨qbjn w.f.b (by have:=w.nb;omega) ⟨rfl,hc.u1,hc.u2,hc.n1,hc.n2⟩,w.f.h,w.f.z⟩
 |false=>
 simp only[cond_f]
 cases(c.k==2)with
 |true=>
  simp only[cond_t]
  cases he:((qbj s.b c.v c.hi c.lo c.bits).2 != 0)with
  |true=>exact qkm
  |false=>
   have h0:(qbj s.b c.v c.hi c.lo c.bits).2=0:=by simpa using he
   simp only[cond_f]
   cases lost (qbj s.b c.v c.hi c.lo c.bits).1 s.h with
   |true=>exact qkm
   |false=>exact⟨(qyo w.f.b w.tb h0).1,w.f.h,w.f.z⟩
 |false=>
 simp only[cond_f]
 cases(c.k==3)with
 |true=>
  simp only[cond_t]
  cases((qeh s.b ⟨c.v,c.hi,c.lo,c.bits⟩ c.nb c.po c.nm c.ow).2.2 != 0)with
  |true=>exact qkm
  |false=>
   refine⟨?_,w.f.h,w.f.z⟩
   show qbb (qeh s.b ⟨c.v,c.hi,c.lo,c.bits⟩ c.nb c.po c.nm c.ow).1
   have nil:qbb []:=qkm.b
   unfold qeh
   rcases qwt (qij w.f.b w.tb) ⟨c.v,c.hi,c.lo,c.bits⟩ c.nb c.po with⟨e,he,hne⟩|⟨q,hq,hch⟩
   · rw[he]
     have:(e != 0)=true:=by simpa using hne
     simp only[this,cond_t];exact nil
   · rw[hq]
     obtain⟨w0,w1,w2,w3⟩:=av_w q
     simp only[bne_self_eq_false,cond_f,w0,w1,w2,w3]
     cases(addF s.b (mkB q.v q.hi q.lo q.bits 2 c.nm c.ow 0)).2 != 0 with
     |true=>exact nil
     |false=>exact qbjn w.f.b (by have:=w.nb;omega) (qzw hch.good hc.n1 hc.n2)
 |false=>
 simp only[cond_f]
 cases(c.k==4)with
 |true=>
  simp only[cond_t]
  unfold qop
  cases(qek [mkH c.hn c.hv c.hhi c.hlo c.ht] != 0)
  case true=>exact qkm
  cases s.h.any (atH c.hn c.hv c.hhi c.hlo)
  case true=>exact qkm
  cases decide ((s.h.length:Int)>=256)
  case true=>exact qkm
  cases blkd s.b c.hv c.hhi c.hlo
  case false=>exact qkm
  cases qik s.z c.hn
  case false=>exact qkm
  exact⟨w.f.b,qbhw w.f.h (by have:=w.nh;omega) (qbcy hc.u3 hc.u4 hc.n3),w.f.z⟩
 |false=>
 simp only[cond_f]
 cases(c.k==5)with
 |true=>
  simp only[cond_t]
  unfold qil
  cases idxO (atH c.hn c.hv c.hhi c.hlo) s.h with
  |none=>exact qkm
  |some k=>exact(w.out k).f
 |false=>
  simp only[cond_f]
  unfold qlp
  cases idxO (atH c.hn c.hv c.hhi c.hlo) s.h with
  |none=>exact qkm
  |some k=>
   simp only
   cases ql1 c.tx
   case true=>exact qkm
   cases s.h.any (atH c.tx c.hv c.hhi c.hlo)
   case true=>exact qkm
   cases qik s.z c.tx
   case false=>exact qkm
   have wo:=w.out k
   exact⟨w.f.b,qbhw wo.f.h (Nat.le_trans wo.nh (by decide)) (qbcy hc.u3 hc.u4 hc.n4),w.f.z⟩
theorem q5p {n:LU}{v:Bool}{hi lo t:Int}:∀{l:LA},l.Pairwise ltH->l.any (atH n v hi lo)=false->(insH (mkH n v hi lo t) l).Pairwise ltH
 |[],_,_=>by simp[insH]
 |y::r,hp,ha=>by
  rw[List.pairwise_cons]at hp
  rw[List.any_cons,Bool.or_eq_false_iff]at ha
  rw[qny]
  by_cases hc:cmpH (mkH n v hi lo t) y<0
  · simp only[hc,decide_true,cond_t]
    have hx:=qtz.2 hc
    exact List.pairwise_cons.2 ⟨fun z hz=>by
     rcases List.mem_cons.1 hz with rfl|hz
     · exact hx
     · exact qty hx (hp.1 z hz),List.pairwise_cons.2 hp⟩
  · simp only[hc,decide_false,cond_f]
    have hne:¬qd6 (gS y.cells 0) (gB y.cells 1) (gI y.cells 2) (gI y.cells 3) n v hi lo=0:=fun h=>by rw[qqt.2 h]at ha;cases ha.1
    have hne':¬cmpH (mkH n v hi lo t) y=0:=fun h=>hne ((qu7 _ _ _ _ _ _ _ _).2.2 h)
    have hx:ltH y (mkH n v hi lo t):=qbbs.1 (by omega)
    exact List.pairwise_cons.2 ⟨fun z hz=>by
     rcases qj5.1 hz with rfl|hz
     · exact hx
     · exact hp.1 z hz,q5p hp.2 ha.2⟩
theorem qbmk {y:AV}(h:qek [y]=0):qk2 y=0:=by
 unfold qek at h
 have e:¬(([y]:List AV).length:Int)>256:=by simp
 simp only[e,decide_false,cond_f]at h
 exact(qbbt.1 h).1 y (by simp)
theorem qbml {y:AV}(h:qk2 y=0):qek [y]=0:=by
 unfold qek
 have e:¬(([y]:List AV).length:Int)>256:=by simp
 simp only[e,decide_false,cond_f]
 exact qbbt.2 ⟨fun z hz=>by simp at hz;subst hz;exact h,List.pairwise_singleton _ _,fun x hx=>by cases hx⟩
theorem qbn7 {n m:LU}{v:Bool}{hi lo t:Int}(h:qk1 n v hi lo t=0)(hm:ql1 m=false):qk1 m v hi lo t=0:=by
 unfold qk1 at*
 rw[hm]
 cases h1:ql1 n with
 |true=>rw[h1]at h;cases h
 |false=>rw[h1]at h;exact h
theorem qbks {n:LU}{v:Bool}{hi lo t:Int}(h:qk1 n v hi lo t=0):ql1 n=false:=by
 unfold qk1 at h
 cases h1:ql1 n with
 |true=>rw[h1]at h;cases h
 |false=>rfl
theorem qbmm {l:LA}{b:AV}(h:(addF l b).2=0):l.length<512:=by
 unfold addF at h
 cases hp:qj0 b with
 |false=>simp[hp]at h
 |true=>
 cases hm:mayB b with
 |false=>simp[hp,hm]at h
 |true=>
 cases ha:l.any (atP (gB b.cells 0) (gI b.cells 1) (gI b.cells 2) (gI b.cells 3))with
 |true=>simp[hp,hm,ha]at h
 |false=>
 cases hbr:(l.any (qb4 b)||occF l (gB b.cells 0) (gI b.cells 1) (gI b.cells 2) (gI b.cells 3))with
 |true=>simp only[hp,hm,ha,hbr,Bool.not_true,cond_f,cond_t]at h;cases h
 |false=>
 rw[hp,hm,ha,hbr]at h
 simp only[Bool.not_true,cond_f]at h
 by_cases h5:(l.length:Int)>=512
 · simp[h5]at h
 · omega
theorem qbhx {s:Sp}(p:Plan s){b:AV}(hb:qkx b)(h:(addF s.b b).2=0):Plan ⟨(addF s.b b).1,s.h,s.z⟩:=by
 obtain⟨h1,h2,_⟩:=q1n p.f.b p.tb hb h
 have hlt:=qbmm h
 have hf:qbb (insF b s.b):=q8u p.f.b (by omega) hb
 rw[h1]
 exact⟨⟨hf,p.f.h,p.f.z⟩,by show(insF b s.b).length<=512;rw[q1i];omega,h2,p.nh,p.fh,p.ph,p.nz,p.cz,fun y hy=>qbn3 p.f.b p.tb hf h2 (p.f.h.2 y hy).2.1 (p.f.h.2 y hy).2.2.1 (p.bl y hy),p.zo⟩
theorem q5q {l:LA}{p:Pq}{bits po:Int}{nm ow:LU}(hg:qhx l)(h:(qeh l p bits po nm ow).2.2=0):∃q:Pq,q.good/\(qeh l p bits po nm ow).2.1=q.av/\(addF l (mkB q.v q.hi q.lo q.bits 2 nm ow 0)).2=0/\(qeh l p bits po nm ow).1=(addF l (mkB q.v q.hi q.lo q.bits 2 nm ow 0)).1:=by
 unfold qeh at*
 rcases qwt hg p bits po with⟨e,he,hne⟩|⟨q,hq,hch⟩
 · rw[he]at h
   have:(e != 0)=true:=by simpa using hne
   simp only[this,cond_t]at h
   exact absurd h hne
 · refine⟨q,hch.good,?_⟩
   rw[hq]at h⊢
   obtain⟨w0,w1,w2,w3⟩:=av_w q
   simp only[bne_self_eq_false,cond_f,w0,w1,w2,w3]at h⊢
   cases he:(addF l (mkB q.v q.hi q.lo q.bits 2 nm ow 0)).2 != 0 with
   |true=>
    rw[he]at h;simp only[cond_t]at h
    have:(addF l (mkB q.v q.hi q.lo q.bits 2 nm ow 0)).2≠0:=by simpa using he
    exact absurd h this
   |false=>exact⟨rfl,by simpa using he,rfl⟩
theorem qbn8 {b h:LA}(e:lost b h=false):∀y,y∈h->blkd b (gB y.cells 1) (gI y.cells 2) (gI y.cells 3)=true:=fun y hy=>by
 have:=List.any_eq_false.1 e y hy
 simpa using this
theorem qbhy {b h:LA}(e:∀y,y∈h->blkd b (gB y.cells 1) (gI y.cells 2) (gI y.cells 3)=true):lost b h=false:=List.any_eq_false.2 fun y hy=>by simp[e y hy]
theorem qbkt {s:Sp}(p:Plan s){c:Chg}(hc:CFit c)(h:(qbl s c).2=0):Plan (qbl s c).1:=by
 have w:=p.wk
 have hfits:=qbkr w hc
 unfold qbl at*
 cases ho:okC c with
 |false=>rw[ho]at h;cases h
 |true=>
 rw[ho]at h hfits
 simp only[cond_t]at*
 unfold qyd at*
 cases h1:(c.k==1)with
 |true=>
  rw[h1]at h hfits
  simp only[cond_t]at*
  cases he:((addF s.b (blkC c)).2 != 0)with
  |true=>rw[he]at h;exact absurd h (by simpa[qeo]using he)
  |false=>exact qbhx p ⟨rfl,hc.u1,hc.u2,hc.n1,hc.n2⟩ (by simpa using he)
 |false=>
 rw[h1]at h hfits
 simp only[cond_f]at*
 cases h2:(c.k==2)with
 |true=>
  rw[h2]at h hfits
  simp only[cond_t]at*
  cases he:((qbj s.b c.v c.hi c.lo c.bits).2 != 0)with
  |true=>rw[he]at h;exact absurd h (by simpa[qeo]using he)
  |false=>
   have h0:(qbj s.b c.v c.hi c.lo c.bits).2=0:=by simpa using he
   rw[he]at h hfits
   simp only[cond_f]at*
   cases hl:lost (qbj s.b c.v c.hi c.lo c.bits).1 s.h with
   |true=>rw[hl]at h;cases h
   |false=>
    obtain⟨r1,r2,r3⟩:=qyo p.f.b p.tb h0
    exact⟨⟨r1,p.f.h,p.f.z⟩,by have:=p.nb;show(qbj s.b c.v c.hi c.lo c.bits).1.length<=512;omega,r2,p.nh,p.fh,p.ph,p.nz,p.cz,qbn8 hl,p.zo⟩
 |false=>
 rw[h2]at h hfits
 simp only[cond_f]at*
 cases h3:(c.k==3)with
 |true=>
  rw[h3]at h hfits
  simp only[cond_t]at*
  cases he:((qeh s.b ⟨c.v,c.hi,c.lo,c.bits⟩ c.nb c.po c.nm c.ow).2.2 != 0)with
  |true=>rw[he]at h;exact absurd h (by simpa[qeo]using he)
  |false=>
   obtain⟨q,q1,_,q3,q4⟩:=q5q (qij p.f.b p.tb) (show(qeh s.b ⟨c.v,c.hi,c.lo,c.bits⟩ c.nb c.po c.nm c.ow).2.2=0 by simpa using he)
   simp only[cond_f]
   rw[q4]
   exact qbhx p (qzw q1 hc.n1 hc.n2) q3
 |false=>
 rw[h3]at h hfits
 simp only[cond_f]at*
 cases h4:(c.k==4)with
 |true=>
  rw[h4]at h hfits
  simp only[cond_t]at*
  unfold qop at*
  cases e1:(qek [mkH c.hn c.hv c.hhi c.hlo c.ht] != 0)
  case true=>rw[e1]at h;exact absurd h (by simpa[qeo]using e1)
  rw[e1]at h hfits
  cases e2:s.h.any (atH c.hn c.hv c.hhi c.hlo)
  case true=>rw[e2]at h;cases h
  rw[e2]at h hfits
  cases e3:decide ((s.h.length:Int)>=256)
  case true=>rw[e3]at h;cases h
  rw[e3]at h hfits
  cases e4:blkd s.b c.hv c.hhi c.hlo
  case false=>rw[e4]at h;cases h
  rw[e4]at h hfits
  cases e5:qik s.z c.hn
  case false=>rw[e5]at h;cases h
  rw[e5]at h hfits
  have hf:=qbmk (show qek [mkH c.hn c.hv c.hhi c.hlo c.ht]=0 by simpa using e1)
  have e3':=of_decide_eq_false e3
  refine⟨hfits,p.nb,p.tb,?_,?_,q5p p.ph e2,p.nz,p.cz,?_,?_⟩
  · show(insH (mkH c.hn c.hv c.hhi c.hlo c.ht) s.h).length<=256
    rw[q1u];omega
  · intro y hy
    rcases qj5.1 hy with rfl|hy
    · exact hf
    · exact p.fh y hy
  · intro y hy
    rcases qj5.1 hy with rfl|hy
    · exact e4
    · exact p.bl y hy
  · intro y hy
    rcases qj5.1 hy with rfl|hy
    · exact e5
    · exact p.zo y hy
 |false=>
 rw[h4]at h hfits
 simp only[cond_f]at*
 cases h5:(c.k==5)with
 |true=>
  rw[h5]at h hfits
  simp only[cond_t]at*
  unfold qil at*
  cases hk:idxO (atH c.hn c.hv c.hhi c.hlo) s.h with
  |none=>rw[hk]at h;cases h
  |some k=>
   rw[hk]at hfits
   exact⟨hfits,p.nb,p.tb,Nat.le_trans (qve s.h k).length_le p.nh,fun y hy=>p.fh y (qsy hy),p.ph.sublist (qve s.h k),p.nz,p.cz,fun y hy=>p.bl y (qsy hy),fun y hy=>p.zo y (qsy hy)⟩
 |false=>
  rw[h5]at h hfits
  simp only[cond_f]at*
  unfold qlp at*
  cases hk:idxO (atH c.hn c.hv c.hhi c.hlo) s.h with
  |none=>rw[hk]at h;cases h
  |some k=>
   rw[hk]at h hfits
   simp only at*
   obtain⟨y,hy,hfy⟩:=qio s.h k hk
   have hat:=List.find?_some hfy
   obtain⟨a1,a2,a3,a4⟩:=ql7.1 hat
   have hym:=List.mem_of_getElem? hy
   have hkl:=(List.getElem?_eq_some_iff.1 hy).1
   rw[qwz hy]at h hfits⊢
   cases e1:ql1 c.tx
   case true=>rw[e1]at h;cases h
   rw[e1]at h hfits
   cases e2:s.h.any (atH c.tx c.hv c.hhi c.hlo)
   case true=>rw[e2]at h;cases h
   rw[e2]at h hfits
   cases e3:qik s.z c.tx
   case false=>rw[e3]at h;cases h
   rw[e3]at h hfits
   have e2':(outH s.h k).any (atH c.tx c.hv c.hhi c.hlo)=false:=by
    rw[qbcz hy]at e2;exact(Bool.or_eq_false_iff.1 e2).1
   have hfo:qk1 c.hn c.hv c.hhi c.hlo (gI y.cells 4)=0:=by
    have:=p.fh y hym
    unfold qk2 at this
    rw[a1,a2,a3,a4]at this;exact this
   have hbo:blkd s.b c.hv c.hhi c.hlo=true:=by
    have:=p.bl y hym
    rw[a2,a3,a4]at this;exact this
   refine⟨hfits,p.nb,p.tb,?_,?_,q5p (p.ph.sublist (qve s.h k)) e2',p.nz,p.cz,?_,?_⟩
   · show(insH (mkH c.tx c.hv c.hhi c.hlo (gI y.cells 4)) (outH s.h k)).length<=256
     rw[q1u,qbjm hkl];exact p.nh
   · intro z hz
     rcases qj5.1 hz with rfl|hz
     · exact qbn7 hfo e1
     · exact p.fh z (qsy hz)
   · intro z hz
     rcases qj5.1 hz with rfl|hz
     · exact hbo
     · exact p.bl z (qsy hz)
   · intro z hz
     rcases qj5.1 hz with rfl|hz
     · exact e3
     · exact p.zo z (qsy hz)
theorem qbp8:qpq sp0.b sp0.h sp0.z=some true:=by rw[q8e];rfl
theorem qbku {s:Sp}{c:Chg}(h:(qbl s c).2≠0):(qbl s c).1=sp0:=by
 unfold qbl at*
 cases ho:okC c with
 |false=>rfl
 |true=>
 rw[ho]at h
 simp only[cond_t]at*
 unfold qyd at*
 cases h1:(c.k==1)with
 |true=>
  rw[h1]at h
  simp only[cond_t]at*
  cases he:((addF s.b (blkC c)).2 != 0)with
  |true=>rfl
  |false=>rw[he]at h;exact absurd rfl h
 |false=>
 rw[h1]at h
 simp only[cond_f]at*
 cases h2:(c.k==2)with
 |true=>
  rw[h2]at h
  simp only[cond_t]at*
  cases he:((qbj s.b c.v c.hi c.lo c.bits).2 != 0)with
  |true=>rfl
  |false=>
   rw[he]at h
   simp only[cond_f]at*
   cases hl:lost (qbj s.b c.v c.hi c.lo c.bits).1 s.h with
   |true=>rfl
   |false=>rw[hl]at h;exact absurd rfl h
 |false=>
 rw[h2]at h
 simp only[cond_f]at*
 cases h3:(c.k==3)with
 |true=>
  rw[h3]at h
  simp only[cond_t]at*
  cases he:((qeh s.b ⟨c.v,c.hi,c.lo,c.bits⟩ c.nb c.po c.nm c.ow).2.2 != 0)with
  |true=>rfl
  |false=>rw[he]at h;exact absurd rfl h
 |false=>
 rw[h3]at h
 simp only[cond_f]at*
 cases h4:(c.k==4)with
 |true=>
  rw[h4]at h
  exact qbeo h
 |false=>
 rw[h4]at h
 simp only[cond_f]at*
 cases h5:(c.k==5)with
 |true=>rw[h5]at h;exact qbep h
 |false=>rw[h5]at h;exact qbeq h
def chg0:Chg:=⟨0,false,0,0,0,0,[],[],0,0,0,[],false,0,0,0,[]⟩
def newP (s:Sp)(c:Chg):AV:=(qeh s.b ⟨c.v,c.hi,c.lo,c.bits⟩ c.nb c.po c.nm c.ow).2.1
theorem qbn9 {s:Sp}{c:Chg}(h:(qbl s c).2=0)(hk:(c.k==3)=true):(qeh s.b ⟨c.v,c.hi,c.lo,c.bits⟩ c.nb c.po c.nm c.ow).2.2=0:=by
 have e:c.k=3:=by simpa using hk
 unfold qbl at h
 cases ho:okC c with
 |false=>rw[ho]at h;cases h
 |true=>
  rw[ho]at h
  simp only[cond_t]at h
  unfold qyd at h
  rw[show(c.k==1)=false by simp[e],show(c.k==2)=false by simp[e],hk]at h
  simp only[cond_f,cond_t]at h
  cases he:((qeh s.b ⟨c.v,c.hi,c.lo,c.bits⟩ c.nb c.po c.nm c.ow).2.2 != 0)with
  |true=>rw[he]at h;exact absurd h (by simpa[qeo]using he)
  |false=>simpa using he
theorem qbin {s:Sp}(p:Plan s){c:Chg}(hc:CFit c)(h:(qeh s.b ⟨c.v,c.hi,c.lo,c.bits⟩ c.nb c.po c.nm c.ow).2.2=0):
 qp1 s.b s.h s.z c.k c.v c.hi c.lo c.bits c.bk c.nm c.ow c.vl c.nb c.po c.hn c.hv c.hhi c.hlo c.ht c.tx=some (mkB (gB (newP s c).cells 0) (gI (newP s c).cells 1) (gI (newP s c).cells 2) (gI (newP s c).cells 3) 2 c.nm c.ow 0):=by
 rw[q2v];unfold qjq newP
 rw[qbbh s.b p.f.b p.tb p.wk.nb ⟨c.v,c.hi,c.lo,c.bits⟩ c.nb c.po c.nm c.ow hc.n1 hc.n2]
 simp only[oB_s]
 obtain⟨q,q1,q2,q3,q4⟩:=q5q (qij p.f.b p.tb) h
 have hb:qkx (mkB q.v q.hi q.lo q.bits 2 c.nm c.ow 0):=qzw q1 hc.n1 hc.n2
 obtain⟨h1,h2,_⟩:=q1n p.f.b p.tb hb q3
 have hlt:=qbmm q3
 have hf:qbb (insF (mkB q.v q.hi q.lo q.bits 2 c.nm c.ow 0) s.b):=q8u p.f.b (by omega) hb
 obtain⟨w0,w1,w2,w3⟩:=av_w q
 rw[q2,q4,h1,w0,w1,w2,w3]
 have hm:mkB q.v q.hi q.lo q.bits 2 c.nm c.ow 0∈insF (mkB q.v q.hi q.lo q.bits 2 c.nm c.ow 0) s.b:=qlo.2 (.inl rfl)
 have hfind:(insF (mkB q.v q.hi q.lo q.bits 2 c.nm c.ow 0) s.b).find? (atP q.v q.hi q.lo q.bits)=some (mkB q.v q.hi q.lo q.bits 2 c.nm c.ow 0):=
  qbmb hm (qit.2 ⟨rfl,rfl,rfl,rfl⟩) fun z hz hq=>qbbf h2 hm hz (q50 (b:=mkB q.v q.hi q.lo q.bits 2 c.nm c.ow 0).1 hq)
 rw[q5y _ hf,oB_s,q1m hf hfind]
 rfl
def rmC (v:Bool)(hi lo bits:Int):Chg:=⟨2,v,hi,lo,bits,0,[],[],0,0,0,[],false,0,0,0,[]⟩
def adC (y:AV):Chg:=⟨1,gB y.cells 0,gI y.cells 1,gI y.cells 2,gI y.cells 3,gI y.cells 4,gS y.cells 5,gS y.cells 6,gI y.cells 7,0,0,[],false,0,0,0,[]⟩
def hoC (y:AV):Chg:=⟨4,false,0,0,0,0,[],[],0,0,0,gS y.cells 0,gB y.cells 1,gI y.cells 2,gI y.cells 3,gI y.cells 4,[]⟩
def unC (n:LU)(v:Bool)(hi lo:Int):Chg:=⟨5,false,0,0,0,0,[],[],0,0,0,n,v,hi,lo,0,[]⟩
def reC (n:LU)(v:Bool)(hi lo:Int)(x:LU):Chg:=⟨6,false,0,0,0,0,[],[],0,0,0,n,v,hi,lo,0,x⟩
def invC (s:Sp)(c:Chg):Chg:=
 bif c.k==1 then rmC c.v c.hi c.lo c.bits else
 bif c.k==2 then adC (qx4 s.b c.v c.hi c.lo c.bits).1 else
 bif c.k==3 then rmC (gB (newP s c).cells 0) (gI (newP s c).cells 1) (gI (newP s c).cells 2) (gI (newP s c).cells 3)else
 bif c.k==4 then unC c.hn c.hv c.hhi c.hlo else
 bif c.k==5 then hoC (qil s c.hn c.hv c.hhi c.hlo).2.1 else
 reC c.tx c.hv c.hhi c.hlo c.hn
def invF (s:Sp)(c:Chg):AV×Int:=bif(qbl s c).2 != 0 then(chg0.av,(qbl s c).2)else((invC s c).av,0)
theorem qbmn {s:Sp}(p:Plan s){c:Chg}(hc:CFit c):qir s.b s.h s.z c.k c.v c.hi c.lo c.bits c.bk c.nm c.ow c.vl c.nb c.po c.hn c.hv c.hhi c.hlo c.ht c.tx=some (invF s c):=by
 rw[qut];unfold qiw invF
 rw[qz0 p.wk c hc]
 simp only[oB_s]
 cases he:((qbl s c).2 != 0)with
 |true=>rfl
 |false=>
  have h0:(qbl s c).2=0:=by simpa using he
  simp only[cond_f]
  unfold invC
  cases h1:(c.k==1)
  case true=>rfl
  cases h2:(c.k==2)
  case true=>
   simp only[cond_f,cond_t]
   rw[q5y s.b p.f.b];rfl
  cases h3:(c.k==3)
  case true=>
   simp only[cond_f,cond_t]
   rw[qbin p hc (qbn9 h0 h3)];rfl
  cases h4:(c.k==4)
  case true=>rfl
  cases h5:(c.k==5)
  case true=>
   simp only[cond_f,cond_t,qbko p.wk,oB_s,spf0,spf1,spf2,hd_self,Bool.and_self,qw0 p.wk c.hn c.hv c.hhi c.hlo c.ht hc.n3]
   rfl
  rfl
theorem ok_k {s:Sp}{c:Chg}(h:(qbl s c).2=0):okC c=true:=by
 unfold qbl at h
 cases ho:okC c with
 |false=>rw[ho]at h;cases h
 |true=>rfl
theorem qw1 (c:Chg):eqC c c=true:=by simp[eqC]
theorem qbp9 {l:LA}(hl:qbb l)(ht:qct l)(hn:l.length<=512){y:AV}(hy:y∈l)(ho:occF l (gB y.cells 0) (gI y.cells 1) (gI y.cells 2) (gI y.cells 3)=false):
 addF (remF l (gB y.cells 0) (gI y.cells 1) (gI y.cells 2) (gI y.cells 3)) y=(l,0):=by
 have hg:=qij hl ht
 have h1:=qbhn ht hy
 have hm:∀z,z∈remF l (gB y.cells 0) (gI y.cells 1) (gI y.cells 2) (gI y.cells 3)->z∈l/\atY y z=false:=fun z hz=>by
  have:=List.mem_filter.1 hz
  exact⟨this.1,by unfold atY;simpa using this.2⟩
 have e1:qj0 y=true:=(hg y hy).1
 have e2:mayB y=true:=ht.may hy
 have e3:(remF l (gB y.cells 0) (gI y.cells 1) (gI y.cells 2) (gI y.cells 3)).any (atP (gB y.cells 0) (gI y.cells 1) (gI y.cells 2) (gI y.cells 3))=false:=qbjh.2 fun z hz=>(hm z hz).2
 have e4:(remF l (gB y.cells 0) (gI y.cells 1) (gI y.cells 2) (gI y.cells 3)).any (qb4 y)=false:=List.any_eq_false.2 fun z hz=>by simp[ht.bars hl hy (hm z hz).1]
 have e5:occF (remF l (gB y.cells 0) (gI y.cells 1) (gI y.cells 2) (gI y.cells 3)) (gB y.cells 0) (gI y.cells 1) (gI y.cells 2) (gI y.cells 3)=false:=by
  unfold occF at ho⊢
  rw[List.any_eq_false]at ho⊢
  exact fun z hz=>ho z (hm z hz).1
 have e6:¬((remF l (gB y.cells 0) (gI y.cells 1) (gI y.cells 2) (gI y.cells 3)).length:Int)>=512:=by
  have:(remF l (gB y.cells 0) (gI y.cells 1) (gI y.cells 2) (gI y.cells 3)).length+1=l.length:=h1
  omega
 have e7:insF y (remF l (gB y.cells 0) (gI y.cells 1) (gI y.cells 2) (gI y.cells 3))=l:=qbcu (qbjf ht) hy
 unfold addF
 simp only[e1,e2,e3,e4,e5,e6,e7,Bool.not_true,Bool.or_self,decide_false,cond_f]
theorem qbio {l:LA}{v:Bool}{hi lo bits:Int}(h:(qbj l v hi lo bits).2=0):l.any (atP v hi lo bits)=true/\occF l v hi lo bits=false/\qbj l v hi lo bits=(remF l v hi lo bits,0):=by
 unfold qbj at*
 cases h1:l.any (atP v hi lo bits)with
 |false=>rw[h1]at h;cases h
 |true=>
 cases h2:occF l v hi lo bits with
 |true=>rw[h1,h2]at h;cases h
 |false=>exact⟨rfl,rfl,rfl⟩
theorem qbc0:∀{h:LA} {k:Nat} {y:AV},h.Pairwise ltH->h[k]?=some y->insH y (outH h k)=h
 |[],k,y,_,e=>by simp at e
 |x::r,0,y,hp,e=>by
  have:x=y:=by simpa using e
  subst this
  have e0:outH (x::r) 0=r:=rfl
  rw[e0]
  rw[List.pairwise_cons]at hp
  cases r with
  |nil=>rfl
  |cons z s=>
   rw[qny]
   have:=qtz.1 (hp.1 z (by simp))
   simp[this]
 |x::r,k+1,y,hp,e=>by
  have e':r[k]?=some y:=by simpa using e
  have e0:outH (x::r) (k+1)=x::outH r k:=rfl
  rw[e0,qny]
  rw[List.pairwise_cons]at hp
  have:=qbbs.2 (hp.1 y (List.mem_of_getElem? e'))
  have hn:¬cmpH y x<0:=by omega
  simp only[hn,decide_false,cond_f]
  rw[qbc0 hp.2 e']
theorem qbc1:∀{h:LA} {k:Nat} {y:AV},h.Pairwise ltH->h[k]?=some y->(outH h k).any (atH (gS y.cells 0) (gB y.cells 1) (gI y.cells 2) (gI y.cells 3))=false
 |[],k,y,_,e=>by simp at e
 |x::r,0,y,hp,e=>by
  have:x=y:=by simpa using e
  subst this
  have e0:outH (x::r) 0=r:=rfl
  rw[e0]
  rw[List.pairwise_cons]at hp
  refine List.any_eq_false.2 fun z hz h=> ?_
  have h1:=qbbs.2 (hp.1 z hz)
  have h2:cmpH z x=0:=qqt.1 h
  omega
 |x::r,k+1,y,hp,e=>by
  have e':r[k]?=some y:=by simpa using e
  have e0:outH (x::r) (k+1)=x::outH r k:=rfl
  rw[e0]
  rw[List.pairwise_cons]at hp
  rw[List.any_cons,Bool.or_eq_false_iff]
  refine⟨?_,qbc1 hp.2 e'⟩
  have h1:=qtz.1 (hp.1 y (List.mem_of_getElem? e'))
  cases h:atH (gS y.cells 0) (gB y.cells 1) (gI y.cells 2) (gI y.cells 3) x with
  |false=>rfl
  |true=>
   have h2:cmpH x y=0:=qqt.1 h
   omega
theorem qbot (n:LU)(v:Bool)(hi lo t:Int):atH n v hi lo (mkH n v hi lo t)=true:=ql7.2 ⟨rfl,rfl,rfl,rfl⟩
theorem qbc2 {n:LU}{v:Bool}{hi lo t:Int}:∀{l:LA},l.any (atH n v hi lo)=false->∃k,idxO (atH n v hi lo) (insH (mkH n v hi lo t) l)=some k/\outH (insH (mkH n v hi lo t) l) k=l/\(insH (mkH n v hi lo t) l)[k]?=some (mkH n v hi lo t)
 |[],_=>⟨0,by simp[insH,idxO,qbot],rfl,rfl⟩
 |y::r,ha=>by
  rw[List.any_cons,Bool.or_eq_false_iff]at ha
  rw[qny]
  cases hc:decide (cmpH (mkH n v hi lo t) y<0)with
  |true=>exact⟨0,by simp[idxO,qbot],rfl,rfl⟩
  |false=>
   obtain⟨k,h1,h2,h3⟩:=qbc2 (t:=t) ha.2
   refine⟨k+1,?_,?_,?_⟩
   · simp only[cond_f];unfold idxO;simp[ha.1,h1]
   · show y::outH (insH (mkH n v hi lo t) r) k=y::r
     rw[h2]
   · simpa using h3
theorem qbr3 (v:Bool)(hi lo bits:Int):okC (rmC v hi lo bits)=true:=by
 unfold okC;rw[show qtg (rmC v hi lo bits)=rmC v hi lo bits from rfl,qw1];rfl
theorem qbr4 (y:AV):okC (adC y)=true:=by
 unfold okC;rw[show qtg (adC y)=adC y from rfl,qw1];rfl
theorem qbr5 (y:AV):okC (hoC y)=true:=by
 unfold okC;rw[show qtg (hoC y)=hoC y from rfl,qw1];rfl
theorem qbr6 (n:LU)(v:Bool)(hi lo:Int):okC (unC n v hi lo)=true:=by
 unfold okC;rw[show qtg (unC n v hi lo)=unC n v hi lo from rfl,qw1];rfl
theorem qbr7 (n:LU)(v:Bool)(hi lo:Int)(x:LU):okC (reC n v hi lo x)=true:=by
 unfold okC;rw[show qtg (reC n v hi lo x)=reC n v hi lo x from rfl,qw1];rfl
theorem qbou (s:Sp)(v:Bool)(hi lo bits:Int):qbl s (rmC v hi lo bits)=(bif(qbj s.b v hi lo bits).2 != 0 then qeo (qbj s.b v hi lo bits).2 else bif lost (qbj s.b v hi lo bits).1 s.h then qeo 25 else(⟨(qbj s.b v hi lo bits).1,s.h,s.z⟩,0)):=by
 unfold qbl;rw[qbr3];rfl
theorem qbr8 (s:Sp)(y:AV):qbl s (adC y)=(bif(addF s.b (blkV y)).2 != 0 then qeo (addF s.b (blkV y)).2 else(⟨(addF s.b (blkV y)).1,s.h,s.z⟩,0)):=by
 unfold qbl;rw[qbr4];rfl
theorem qbr9 (s:Sp)(y:AV):qbl s (hoC y)=qop s (gS y.cells 0) (gB y.cells 1) (gI y.cells 2) (gI y.cells 3) (gI y.cells 4):=by
 unfold qbl;rw[qbr5];rfl
theorem qbsa (s:Sp)(n:LU)(v:Bool)(hi lo:Int):qbl s (unC n v hi lo)=((qil s n v hi lo).1,(qil s n v hi lo).2.2):=by
 unfold qbl;rw[qbr6];rfl
theorem qbsb (s:Sp)(n:LU)(v:Bool)(hi lo:Int)(x:LU):qbl s (reC n v hi lo x)=qlp s n v hi lo x:=by
 unfold qbl;rw[qbr7];rfl
theorem uok0:uok 0:=⟨by decide,by decide⟩
theorem qes:([]:List UInt8).length<=9223372036854775807:=by decide
theorem qbrj {s:Sp}(p:Plan s){c:Chg}(hc:CFit c)(h:(qbl s c).2=0):CFit (invC s c)/\qbl (qbl s c).1 (invC s c)=(s,0):=by
 have ho:=ok_k h
 unfold invC
 have hA:qbl s c=qyd s c:=by unfold qbl;rw[ho];rfl
 rw[hA]at h⊢
 unfold qyd at*
 cases h1:(c.k==1)with
 |true=>
  rw[h1]at h
  simp only[cond_t]at*
  cases he:((addF s.b (blkC c)).2 != 0)with
  |true=>rw[he]at h;exact absurd h (by simpa[qeo]using he)
  |false=>
   obtain⟨a1,a2,a3⟩:=q1n p.f.b p.tb (b:=blkC c) ⟨rfl,hc.u1,hc.u2,hc.n1,hc.n2⟩ (by simpa using he)
   refine⟨⟨hc.u1,hc.u2,uok0,uok0,qes,qes,qes,qes⟩,?_⟩
   simp only[cond_f]
   rw[qbou]
   have a4:qbj (addF s.b (blkC c)).1 c.v c.hi c.lo c.bits=(s.b,0):=by rw[a1];exact a3
   simp only[a4,bne_self_eq_false,cond_f,qbhy p.bl]
 |false=>
 rw[h1]at h
 simp only[cond_f]at*
 cases h2:(c.k==2)with
 |true=>
  rw[h2]at h
  simp only[cond_t]at*
  cases he:((qbj s.b c.v c.hi c.lo c.bits).2 != 0)with
  |true=>rw[he]at h;exact absurd h (by simpa[qeo]using he)
  |false=>
   rw[he]at h
   simp only[cond_f]at*
   cases hl:lost (qbj s.b c.v c.hi c.lo c.bits).1 s.h with
   |true=>rw[hl]at h;cases h
   |false=>
    obtain⟨r1,r2,r3⟩:=qbio (show(qbj s.b c.v c.hi c.lo c.bits).2=0 by simpa using he)
    obtain⟨y,hf⟩:∃y,s.b.find? (atP c.v c.hi c.lo c.bits)=some y:=by
     cases hq:s.b.find? (atP c.v c.hi c.lo c.bits)with
     |some y=>exact⟨y,rfl⟩
     |none=>
      obtain⟨z,hz,hz'⟩:=List.any_eq_true.1 r1
      have:=List.find?_eq_none.1 hq z hz
      exact absurd hz' this
    have hy:=List.mem_of_find?_eq_some hf
    obtain⟨b1,b2,b3,b4⟩:=qit.1 (List.find?_some hf)
    have hyf:=p.f.b.2 y hy
    rw[q1m p.f.b hf]
    refine⟨⟨hyf.2.1,hyf.2.2.1,uok0,uok0,hyf.2.2.2.1,hyf.2.2.2.2,qes,qes⟩,?_⟩
    simp only[cond_f]
    rw[qbr8,qbee hyf.1]
    have hr:addF (remF s.b c.v c.hi c.lo c.bits) y=(s.b,0):=by
     rw[<-b1,<-b2,<-b3,<-b4]at r2⊢
     exact qbp9 p.f.b p.tb p.nb hy r2
    simp only[r3,hr,bne_self_eq_false,cond_f]
 |false=>
 rw[h2]at h
 simp only[cond_f]at*
 cases h3:(c.k==3)with
 |true=>
  rw[h3]at h
  simp only[cond_t]at*
  cases he:((qeh s.b ⟨c.v,c.hi,c.lo,c.bits⟩ c.nb c.po c.nm c.ow).2.2 != 0)with
  |true=>rw[he]at h;exact absurd h (by simpa[qeo]using he)
  |false=>
   obtain⟨q,q1,q2,q3,q4⟩:=q5q (qij p.f.b p.tb) (show(qeh s.b ⟨c.v,c.hi,c.lo,c.bits⟩ c.nb c.po c.nm c.ow).2.2=0 by simpa using he)
   obtain⟨a1,a2,a3⟩:=q1n p.f.b p.tb (qzw q1 hc.n1 hc.n2) q3
   have hq:newP s c=q.av:=q2
   obtain⟨w0,w1,w2,w3⟩:=av_w q
   rw[hq,w0,w1,w2,w3]
   refine⟨⟨q1.2.1,q1.2.2,uok0,uok0,qes,qes,qes,qes⟩,?_⟩
   simp only[cond_f]
   rw[qbou]
   have a4:qbj (qeh s.b ⟨c.v,c.hi,c.lo,c.bits⟩ c.nb c.po c.nm c.ow).1 q.v q.hi q.lo q.bits=(s.b,0):=by rw[q4,a1];exact a3
   simp only[a4,bne_self_eq_false,cond_f,qbhy p.bl]
 |false=>
 rw[h3]at h
 simp only[cond_f]at*
 cases h4:(c.k==4)with
 |true=>
  rw[h4]at h
  simp only[cond_t]at*
  unfold qop at*
  cases e1:(qek [mkH c.hn c.hv c.hhi c.hlo c.ht] != 0)
  case true=>rw[e1]at h;exact absurd h (by simpa[qeo]using e1)
  rw[e1]at h
  cases e2:s.h.any (atH c.hn c.hv c.hhi c.hlo)
  case true=>rw[e2]at h;cases h
  rw[e2]at h
  cases e3:decide ((s.h.length:Int)>=256)
  case true=>rw[e3]at h;cases h
  rw[e3]at h
  cases e4:blkd s.b c.hv c.hhi c.hlo
  case false=>rw[e4]at h;cases h
  rw[e4]at h
  cases e5:qik s.z c.hn
  case false=>rw[e5]at h;cases h
  refine⟨⟨uok0,uok0,hc.u3,hc.u4,qes,qes,hc.n3,qes⟩,?_⟩
  simp only[Bool.not_true,cond_f]
  rw[qbsa]
  obtain⟨k,k1,k2,_⟩:=qbc2 (t:=c.ht) e2
  unfold qil
  simp only[k1,k2]
 |false=>
 rw[h4]at h
 simp only[cond_f]at*
 cases h5:(c.k==5)with
 |true=>
  rw[h5]at h
  simp only[cond_t]at*
  unfold qil at*
  cases hk:idxO (atH c.hn c.hv c.hhi c.hlo) s.h with
  |none=>rw[hk]at h;cases h
  |some k=>
   obtain⟨y,hy,hfy⟩:=qio s.h k hk
   have hym:=List.mem_of_getElem? hy
   have hyf:=p.f.h.2 y hym
   have hkl:=(List.getElem?_eq_some_iff.1 hy).1
   simp only
   rw[qwz hy]
   refine⟨⟨uok0,uok0,hyf.2.1,hyf.2.2.1,qes,qes,hyf.2.2.2,qes⟩,?_⟩
   rw[qbr9]
   unfold qop
   rw[q1s hyf.1]
   have e3:¬((outH s.h k).length:Int)>=256:=by have:=qbjm hkl;have:=p.nh;omega
   simp only[qbml (p.fh y hym),bne_self_eq_false,cond_f,qbc1 p.ph hy,e3,decide_false,p.bl y hym,p.zo y hym,Bool.not_true,qbc0 p.ph hy]
 |false=>
  rw[h5]at h
  simp only[cond_f]at*
  unfold qlp at h
  cases hk:idxO (atH c.hn c.hv c.hhi c.hlo) s.h with
  |none=>rw[hk]at h;cases h
  |some k=>
   rw[hk]at h
   simp only at h
   obtain⟨y,hy,hfy⟩:=qio s.h k hk
   obtain⟨a1,a2,a3,a4⟩:=ql7.1 (List.find?_some hfy)
   have hym:=List.mem_of_getElem? hy
   have hyf:=p.f.h.2 y hym
   have hkl:=(List.getElem?_eq_some_iff.1 hy).1
   rw[qwz hy]at h
   cases e1:ql1 c.tx
   case true=>rw[e1]at h;cases h
   rw[e1]at h
   cases e2:s.h.any (atH c.tx c.hv c.hhi c.hlo)
   case true=>rw[e2]at h;cases h
   rw[e2]at h
   cases e3:qik s.z c.tx
   case false=>rw[e3]at h;cases h
   refine⟨⟨uok0,uok0,hc.u3,hc.u4,qes,qes,hc.n4,hc.n3⟩,?_⟩
   have e2':(outH s.h k).any (atH c.tx c.hv c.hhi c.hlo)=false:=by
    rw[qbcz hy]at e2;exact(Bool.or_eq_false_iff.1 e2).1
   have hT:qlp s c.hn c.hv c.hhi c.hlo c.tx=(⟨s.b,insH (mkH c.tx c.hv c.hhi c.hlo (gI y.cells 4)) (outH s.h k),s.z⟩,0):=by
    unfold qlp
    simp only[hk,qwz hy,e1,e2,e3,Bool.not_true,cond_f]
   rw[hT,qbsb]
   obtain⟨j,j1,j2,j3⟩:=qbc2 (t:=gI y.cells 4) e2'
   unfold qlp
   simp only[j1,j2,qwz j3]
   have hfo:qk1 c.hn c.hv c.hhi c.hlo (gI y.cells 4)=0:=by
    have:=p.fh y hym
    unfold qk2 at this
    rw[a1,a2,a3,a4]at this;exact this
   have hout:(outH s.h k).any (atH c.hn c.hv c.hhi c.hlo)=false:=by
    have:=qbc1 p.ph hy
    rw[a1,a2,a3,a4]at this;exact this
   have hany:(insH (mkH c.tx c.hv c.hhi c.hlo (gI y.cells 4)) (outH s.h k)).any (atH c.hn c.hv c.hhi c.hlo)=false:=by
    rw[List.any_eq_false]at hout⊢
    intro z hz hz'
    rcases qj5.1 hz with rfl|hz
    · have hx:c.tx=c.hn:=(ql7.1 hz').1
      rw[List.any_eq_false]at e2
      exact e2 y hym (by rw[hx];exact ql7.2 ⟨a1,a2,a3,a4⟩)
    · exact hout z hz hz'
   have hzo:qik s.z c.hn=true:=by have:=p.zo y hym;rw[a1]at this;exact this
   have hyy:mkH c.hn c.hv c.hhi c.hlo (gI (mkH c.tx c.hv c.hhi c.hlo (gI y.cells 4)).cells 4)=y:=by
    have:=q1s hyf.1
    rw[a1,a2,a3,a4]at this
    exact this
   simp only[qbks hfo,hany,hzo,Bool.not_true,cond_f,hyy,qbc0 p.ph hy]
theorem law_ChangeUndone {s:Sp}(f:Fits s)(c:Chg)(hc:CFit c):qhu s.b s.h s.z c.k c.v c.hi c.lo c.bits c.bk c.nm c.ow c.vl c.nb c.po c.hn c.hv c.hhi c.hlo c.ht c.tx=some true:=by
 rw[qv3];unfold qgb
 rw[qtm];unfold qez
 simp only[qbp7,oB_s,qber,qbn2 s.b s.h s.z f.b f.h f.z]
 cases qbos s.b s.h s.z []
 case true=>rfl
 simp only[cond_f]
 by_cases h0:qzz s.b s.h s.z=0
 · have hp:=(qbn4 f).1 h0
   rw[qz0 hp.wk c hc,qbmn hp hc]
   simp only[h0,bne_self_eq_false,cond_f,oB_s]
   unfold invF
   cases he:((qbl s c).2 != 0)with
   |true=>
    have hne:(qbl s c).2≠0:=by simpa using he
    simp only[cond_t,he,Bool.or_self]
    rw[qsf];unfold qel
    rw[qbku hne]
    rw[show qpq (gL sp0.av.cells 0) (gL sp0.av.cells 1) (gL sp0.av.cells 2)=some true from qbp8,qber]
    simp only[beq_self_eq_true,Bool.true_and]
    rfl
   |false=>
    have hz:(qbl s c).2=0:=by simpa using he
    obtain⟨i1,i2⟩:=qbrj hp hc hz
    have hq:=qbkt hp hc hz
    simp only[cond_f,bne_self_eq_false,Bool.or_self]
    rw[show qdv (gL (qbl s c).1.av.cells 0) (gL (qbl s c).1.av.cells 1) (gL (qbl s c).1.av.cells 2) (gI (invC s c).av.cells 0) (gB (invC s c).av.cells 1) (gI (invC s c).av.cells 2) (gI (invC s c).av.cells 3) (gI (invC s c).av.cells 4) (gI (invC s c).av.cells 5) (gS (invC s c).av.cells 6) (gS (invC s c).av.cells 7) (gI (invC s c).av.cells 8) (gI (invC s c).av.cells 9) (gI (invC s c).av.cells 10) (gS (invC s c).av.cells 11) (gB (invC s c).av.cells 12) (gI (invC s c).av.cells 13) (gI (invC s c).av.cells 14) (gI (invC s c).av.cells 15) (gS (invC s c).av.cells 16)=some ((qbl (qbl s c).1 (invC s c)).1.av,(qbl (qbl s c).1 (invC s c)).2)from qz0 hq.wk (invC s c) i1]
    rw[i2]
    simp only[oB_s,beq_self_eq_true,cond_t]
    rw[show qpp (gL s.av.cells 0) (gL s.av.cells 1) (gL s.av.cells 2) s.b s.h s.z=some true from qbn6 f]
    rfl
 · have:(qzz s.b s.h s.z != 0)=true:=by simpa using h0
   simp only[this,cond_t]
end Go.Proofs.YtoaaphlopbabeaaGreatDoor.Dn
