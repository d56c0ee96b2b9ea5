import Derived.Test.YtoaaphlopbabeaaGreatDoorCIDn51
import Derived.Test.YtoaaphlopbabeaaGreatDoorCILibD
set_option linter.all false
namespace Go.Proofs.YtoaaphlopbabeaaGreatDoor.Dn
open Go Go.Pev
set_option maxRecDepth 4000
def qe1 (v6:Bool)(hi lo:Int):Bool:=v6||(hi==0&&decide (lo<4294967296))
def qi (v6:Bool):Int:=if v6 then 128 else 32
theorem q56 (v6:Bool)(hi lo:Int):qk0 v6 hi lo=some (qe1 v6 hi lo):=by
 rw[qbi8];unfold qo6 qe1
 cases v6<;>cases(hi==0)<;>simp
theorem qbhc (v6:Bool):qhi v6=some (qi v6):=by
 rw[qble];unfold qrm qi
 cases v6<;>rfl
def qb1l (p:Int×Int):Int×Int:=(IntKind.u64.wrap (IntKind.u64.wrap (p.1*2)+IntKind.u64.wrap (p.2.tdiv 9223372036854775808)),IntKind.u64.wrap (IntKind.u64.wrap (p.2*2)+1))
def qdw:Nat->Int×Int
 |0=>(0,0)
 |n+1=>qb1l (qdw n)
theorem qbu2 (n:Int):qqa n=some (qdw (min n 128).toNat):=by
 rw[qblf];unfold qrn
 rw[qbde]
 have key:=qbhz (fun k (s:Int×Int×Int)=>qi0 n (fun v4 v5=>some (v4,v5)) k s.1 s.2.1 s.2.2) (fun s nx=>qmd n s.1 s.2.1 s.2.2 (fun a b c=>nx (a,b,c)) (fun v4 v5=>some (v4,v5))) (fun _ _=>rfl)
  (fun s=>∃i:Nat,s=((qdw i).1,(qdw i).2,(i:Int))/\i<=128/\(i=0\/(i:Int)<=n)) (fun s=>(128-s.2.2).toNat) (fun _=>some (qdw (min n 128).toNat)) ?_ FU ((0,0,0)) ⟨0,rfl,by simp,.inl rfl⟩ (qcz (by simp))
 · exact key
 · rintro _ ⟨i,rfl,hi,hin⟩ nx hn
   simp only
   have hw:IntKind.i64.wrap ((i:Int)+1)=((i+1:Nat):Int):=w64 (by omega) (by omega)
   unfold qmd
   by_cases hc:(i:Int)<n/\(i:Int)<128
   · simp only[hc.1,hc.2,decide_true,Bool.and_true,cond_t,hw]
     exact hn (_,_,_) ⟨i+1,rfl,by omega,.inr (by omega)⟩ (by simp;omega)
   · have e:(decide ((i:Int)<n)&&decide ((i:Int)<128))=false:=by
      by_cases h1:(i:Int)<n
      · have:¬(i:Int)<128:=fun h=>hc ⟨h1,h⟩
        simp[this]
      · simp[h1]
     simp only[e,cond_f]
     have:(min n 128).toNat=i:=by
      by_cases h1:(i:Int)<n
      · have:¬(i:Int)<128:=fun h=>hc ⟨h1,h⟩
        omega
      · omega
     rw[this]
def qc0 (v6:Bool)(hi lo bits:Int):Bool:=
 qe1 v6 hi lo&&decide (0<=bits)&&decide (bits<=qi v6)&&(qbi .and .u64 hi (qdw (qi v6-bits).toNat).1==0)&&(qbi .and .u64 lo (qdw (qi v6-bits).toNat).2==0)
theorem qwo (v6:Bool)(hi lo bits:Int):qfq v6 hi lo bits=some (qc0 v6 hi lo bits):=by
 rw[qbi9];unfold qo8
 simp only[q98,qlj,q56,qbhc,qbu2,oB_s]
 unfold qc0
 cases h1:qe1 v6 hi lo
 · simp
 · by_cases h2:bits<0
   · have:¬0<=bits:=by omega
     simp[h2,this]
   · have h2':0<=bits:=by omega
     by_cases h3:qi v6<bits
     · have:¬bits<=qi v6:=by omega
       simp[h2,h3,this]
     · have h3':bits<=qi v6:=by omega
       have hl:qi v6<=128:=by unfold qi;split<;>omega
       have hw:IntKind.i64.wrap (qi v6-bits)=qi v6-bits:=w64 (by omega) (by omega)
       have hm:(min (qi v6-bits) 128).toNat=(qi v6-bits).toNat:=by congr 1;omega
       simp[h2,h3,h2',h3',hw,hm]
def uok (x:Int):Prop:=0<=x/\x<=18446744073709551615
theorem qbby (n:Nat)(h:n<18446744073709551616):IntKind.u64.wrap (n:Int)=n:=wu64 (by omega) (by omega)
theorem q2m {x:Int}(h:uok x):((BitVec.ofInt 64 x).toNat:Int)=x:=by
 obtain⟨h1,h2⟩:=h
 rw[BitVec.toNat_ofInt]
 omega
theorem qbhd (x y:Int):qbi .and .u64 x y=((BitVec.ofInt 64 x&&& BitVec.ofInt 64 y).toNat:Int):=by
 have:=(BitVec.ofInt 64 x&&& BitVec.ofInt 64 y).isLt
 show IntKind.u64.wrap ((BitVec.ofInt 64 x&&& BitVec.ofInt 64 y).toNat:Int)=_
 exact qbby _ (by omega)
theorem qb2z (x y:Int):qbi .or .u64 x y=((BitVec.ofInt 64 x|||BitVec.ofInt 64 y).toNat:Int):=by
 have:=(BitVec.ofInt 64 x|||BitVec.ofInt 64 y).isLt
 show IntKind.u64.wrap ((BitVec.ofInt 64 x|||BitVec.ofInt 64 y).toNat:Int)=_
 exact qbby _ (by omega)
theorem qbhe (x y:Int):qbi .andNot .u64 x y=((BitVec.ofInt 64 x&&& ~~~BitVec.ofInt 64 y).toNat:Int):=by
 have:=(BitVec.ofInt 64 x&&& ~~~BitVec.ofInt 64 y).isLt
 show IntKind.u64.wrap ((BitVec.ofInt 64 x&&& ~~~BitVec.ofInt 64 y).toNat:Int)=_
 exact qbby _ (by omega)
theorem q2n (a b:BitVec 64):(a&&& b).toNat+(a&&& ~~~b).toNat=a.toNat:=by
 have h1:(a&&& b)&&& (a&&& ~~~b)=0#64:=by
  ext i hi
  simp
  intro _ h _
  exact h
 have h2:(a&&& b)|||(a&&& ~~~b)=a:=by
  ext i hi
  simp
  cases a[i]<;>cases b[i]<;>rfl
 have h3:=BitVec.add_eq_or_of_and_eq_zero _ _ h1
 rw[h2]at h3
 have h4:=congrArg BitVec.toNat h3
 rw[BitVec.toNat_add]at h4
 have e1:(a&&& b).toNat<=a.toNat:=by rw[BitVec.toNat_and];exact Nat.and_le_left
 have e2:=(a&&& ~~~b).isLt
 have e3:=a.isLt
 omega
theorem qbw2 {x:Int}(y:Int)(h:uok x):IntKind.u64.wrap (x-qbi .and .u64 x y)=qbi .andNot .u64 x y:=by
 have h1:=q2n (BitVec.ofInt 64 x) (BitVec.ofInt 64 y)
 have h2:=q2m h
 rw[qbhd,qbhe]
 have h3:x-((BitVec.ofInt 64 x&&& BitVec.ofInt 64 y).toNat:Int)=((BitVec.ofInt 64 x&&& ~~~BitVec.ofInt 64 y).toNat:Int):=by omega
 rw[h3]
 have:=(BitVec.ofInt 64 x&&& ~~~BitVec.ofInt 64 y).isLt
 exact qbby _ (by omega)
theorem qbzy (a b:BitVec 64)(h:(a&&& b).toNat=0):a.toNat+b.toNat=(a|||b).toNat:=by
 have h1:a&&& b=0#64:=BitVec.eq_of_toNat_eq h
 have h2:=congrArg BitVec.toNat (BitVec.add_eq_or_of_and_eq_zero _ _ h1)
 rw[BitVec.toNat_add]at h2
 have h3:=q2n a b
 have h4:(a&&& ~~~b).toNat<=(~~~b).toNat:=by rw[BitVec.toNat_and];exact Nat.and_le_right
 rw[BitVec.toNat_not]at h4
 have e3:=b.isLt
 omega
theorem qbhf {x y:Int}(hx:uok x)(hy:uok y)(h:qbi .and .u64 x y=0):x+y=qbi .or .u64 x y:=by
 rw[qbhd]at h
 rw[qb2z]
 have e1:=q2m hx
 have e2:=q2m hy
 have:=qbzy (BitVec.ofInt 64 x) (BitVec.ofInt 64 y) (by omega)
 omega
theorem q9l (x y:Int):uok (qbi .or .u64 x y):=by
 rw[qb2z]
 have:=(BitVec.ofInt 64 x|||BitVec.ofInt 64 y).isLt
 exact⟨by omega,by omega⟩
theorem qbwe {x:Int}(h:uok x):qbi .andNot .u64 x 0=x:=by
 rw[qbhe]
 have:=q2n (BitVec.ofInt 64 x) (BitVec.ofInt 64 0)
 have h2:=q2m h
 have h3:(BitVec.ofInt 64 x&&& BitVec.ofInt 64 0).toNat=0:=by simp
 omega
theorem qb1m:∀n:Fin 129,(0<=(qdw n).1/\(qdw n).1<=18446744073709551615)/\(0<=(qdw n).2/\(qdw n).2<=18446744073709551615):=by decide+kernel
theorem qe8 (v6:Bool):qi v6<=128:=by unfold qi;split<;>omega
theorem qb5b:∀n:Fin 33,qoa false (n.val:Int)=some (qdw (32-n.val)):=by decide+kernel
theorem qb5c:∀n:Fin 129,qoa true (n.val:Int)=some (qdw (128-n.val)):=by decide+kernel
theorem qbw3 {v6:Bool}{bits:Int}(h1:0<=bits)(h2:bits<=qi v6):qww v6 bits=some (qdw (qi v6-bits).toNat):=by
 rw[qbmh]
 obtain⟨n,rfl⟩:=Int.eq_ofNat_of_zero_le h1
 cases v6 with
 |false=>
  have h3:n<=32:=by simp[qi]at h2;omega
  rw[qb5b ⟨n,by omega⟩]
  congr 2
  simp[qi]<;>omega
 |true=>
  have h3:n<=128:=by simp[qi]at h2;omega
  rw[qb5c ⟨n,by omega⟩]
  congr 2
  simp[qi]<;>omega
theorem qbl6 (v6:Bool)(hi lo:Int):qwv v6 hi lo=some (qe1 v6 hi lo):=by
 rw[qbsm];unfold qwu qe1
 have:decide (lo<=4294967295)=decide (lo<4294967296):=by apply decide_eq_decide.2;omega
 cases v6<;>cases(hi==0)<;>simp[this]
theorem q4m (v6:Bool)(hi lo:Int):qlv v6 hi lo=some (qi v6):=by
 rw[qbkn];unfold qq0 qi
 cases v6<;>rfl
theorem q4n (v6:Bool)(hi lo bits:Int):qis v6 hi lo bits=some (qc0 v6 hi lo bits):=by
 rw[qbmi];unfold qs5
 simp only[qbei,qnc,qbl6,q4m,oB_s]
 unfold qc0
 cases h1:qe1 v6 hi lo
 · simp
 · by_cases h2:bits<0
   · have:¬0<=bits:=by omega
     simp[h2,this]
   · have h2':0<=bits:=by omega
     by_cases h3:qi v6<bits
     · have:¬bits<=qi v6:=by omega
       simp[h2,h3,this]
     · have h3':bits<=qi v6:=by omega
       simp[h2,h3,h2',h3',qbw3 h2' h3']
def qiq (v6:Bool)(hi lo bits:Int)(w6:Bool)(ahi alo:Int):Bool:=
 qc0 v6 hi lo bits&&(qe1 w6 ahi alo&&((v6==w6)&&((qbi .andNot .u64 ahi (qdw (qi v6-bits).toNat).1==hi)&&(qbi .andNot .u64 alo (qdw (qi v6-bits).toNat).2==lo))))
theorem qd7 {v6:Bool}{hi lo bits:Int}(h:qc0 v6 hi lo bits=true):0<=bits/\bits<=qi v6/\qe1 v6 hi lo=true:=by
 simp[qc0]at h
 exact⟨h.1.1.1.2,h.1.1.2,h.1.1.1.1⟩
theorem qb6c {w6:Bool}{ahi alo bits:Int}(h1:0<=bits)(h2:bits<=qi w6):qbel w6 ahi alo bits=some (bif qe1 w6 ahi alo then(.agg [(.bool w6),(.int .u64 (qbi .andNot .u64 ahi (qdw (qi w6-bits).toNat).1)),(.int .u64 (qbi .andNot .u64 alo (qdw (qi w6-bits).toNat).2)),(.int .i64 bits)],true)else(.agg [(.bool false),(.int .u64 0),(.int .u64 0),(.int .i64 0)],false)):=by
 rw[qbtj];unfold qzq
 have a1:¬bits<0:=by omega
 have a2:¬qi w6<bits:=by omega
 simp only[qbmn,qta,qbl6,q4m,oB_s,qbw3 h1 h2]
 cases qe1 w6 ahi alo<;>simp[a1,a2]
theorem qbke (v6:Bool)(hi lo bits:Int)(w6:Bool)(ahi alo:Int):qq2 v6 hi lo bits w6 ahi alo=some (qiq v6 hi lo bits w6 ahi alo):=by
 rw[qbem];unfold qnd qiq
 simp only[q4n,oB_s]
 cases h1:qc0 v6 hi lo bits
 · simp
 · obtain⟨h2,h3,_⟩:=qd7 h1
   by_cases h4:v6=w6
   · subst h4
     rw[qb6c h2 h3]
     cases qe1 v6 ahi alo<;>simp[gB,gI,gC,aB,aI,AV.cells]
   · have h6:(v6==w6)=false:=by simpa using h4
     simp[h6]
theorem qb6d {w6:Bool}{ahi alo bits:Int}(h1:0<=bits)(h2:bits<=qi w6)(hv:qe1 w6 ahi alo=true)(u1:uok ahi)(u2:uok alo):q6m w6 ahi alo bits=some (.agg [(.bool w6),(.int .u64 (qbi .andNot .u64 ahi (qdw (qi w6-bits).toNat).1)),(.int .u64 (qbi .andNot .u64 alo (qdw (qi w6-bits).toNat).2)),(.int .i64 bits)],true):=by
 rw[qbpu];unfold qvb
 have a1:¬bits<0:=by omega
 have a2:¬qi w6<bits:=by omega
 have hl:=qe8 w6
 have hw:IntKind.i64.wrap (qi w6-bits)=qi w6-bits:=w64 (by omega) (by omega)
 have hm:(min (qi w6-bits) 128).toNat=(qi w6-bits).toNat:=by congr 1;omega
 simp only[qbjd,qpc,q56,qbhc,qbu2,oB_s,hv,hw,hm,qbw2 _ u1,qbw2 _ u2]
 simp[a1,a2]
theorem qbkf (v6:Bool)(hi lo bits:Int)(w6:Bool)(ahi alo:Int)(u1:uok ahi)(u2:uok alo):qnr v6 hi lo bits w6 ahi alo=some (qiq v6 hi lo bits w6 ahi alo):=by
 rw[q99];unfold qlk qiq
 simp only[q43,qil,qwo,q56,oB_s]
 cases h1:qc0 v6 hi lo bits
 · simp
 · obtain⟨h2,h3,_⟩:=qd7 h1
   cases h5:qe1 w6 ahi alo
   · simp
   · by_cases h4:v6=w6
     · subst h4
       rw[qb6d h2 h3 h5 u1 u2]
       simp[gB,gI,gC,aB,aI,AV.cells]
     · have h6:(v6==w6)=false:=by simpa using h4
       simp[h6]
def qk4 (v6:Bool)(hi lo bits:Int)(w6:Bool)(whi wlo wbits:Int):Bool:=
 qc0 v6 hi lo bits&&(decide (bits>=wbits)&&qiq w6 whi wlo wbits v6 hi lo)
theorem qbhg (v6:Bool)(hi lo bits:Int)(w6:Bool)(whi wlo wbits:Int):qlw v6 hi lo bits w6 whi wlo wbits=some (qk4 v6 hi lo bits w6 whi wlo wbits):=by
 rw[qbkq];unfold qq3 qk4
 simp only[q4n,qbke,oB_s]
 cases h1:qc0 v6 hi lo bits
 · simp
 · cases h2:qc0 w6 whi wlo wbits
   · simp[qiq,h2]
   · cases h3:decide (bits>=wbits)<;>simp
theorem q0w (v6:Bool)(hi lo bits:Int)(w6:Bool)(whi wlo wbits:Int)(u1:uok hi)(u2:uok lo):qjj v6 hi lo bits w6 whi wlo wbits=some (qk4 v6 hi lo bits w6 whi wlo wbits):=by
 rw[qbfn];unfold qns qk4
 simp only[qwo,qbkf _ _ _ _ _ _ _ u1 u2,oB_s]
 cases h1:qc0 v6 hi lo bits
 · simp
 · cases h3:decide (bits>=wbits)<;>simp
def qoj (y:AV):Prop:=fitC qb y.cells=true/\uok (gI y.cells 1)/\uok (gI y.cells 2)/\(gS y.cells 5).length<=9223372036854775807/\(gS y.cells 6).length<=9223372036854775807
def qv (l:LA):Prop:=l.length<=9223372036854775807/\∀y,y∈l->qoj y
def qbhh:Ty:=.st [.bool,.int .u64,.int .u64]
def qbu3:Ty:=.st [qbhh,.int .i64]
def qbot:Ty:=.st [qbu3,.int .i64,.str,.str,.int .i64]
theorem blksFit_of {l:LA}(h:l.length<=9223372036854775807/\∀y,y∈l->fitC qbot.lts y.cells=true/\qbot.good y.cells 0):qv l:=
 ⟨h.1,fun y hy=>by
  obtain⟨h1,h2⟩:=h.2 y hy
  simp only[qbot,qbu3,qbhh,Ty.good.goods,Ty.good,Ty.size,Ty.sizes,Nat.zero_add,Nat.reduceAdd,and_true,true_and]at h2
  obtain⟨⟨⟨h3,h4⟩,h5⟩,h6,h7,h8,h9⟩:=h2
  exact⟨h1,h3,h4,h7,h8⟩⟩
def qok (s:LU):Bool:=s.all fun c=>decide (33<=c.toNat)&&decide (c.toNat<=126)
theorem qbkg (s:LU)(hs:s.length<=9223372036854775807):qme s=some (qok s):=by
 rw[q7t];unfold qkc
 rw[q3p,qf2 s hs (qey s fun _=>some true) (fun i nx=>qex s i nx fun _=>some true) (fun _ _=>rfl) (fun r=>some (qok r))]
 · intro nx;simp[qex,qok]
 · intro i y r nx h1 h2 h3 h4 h5
   have h6:(i:Int)<(s.length:Int):=by omega
   unfold qex
   simp only[h6,decide_true,cond_t,ixB_nat,h2,oB_s,h4,h5,qok,List.all_cons]
   by_cases a1:(y.toNat:Int)<33
   · have:¬33<=y.toNat:=by omega
     simp[a1,this]
   · have b1:33<=y.toNat:=by omega
     by_cases a2:(y.toNat:Int)>126
     · have:¬y.toNat<=126:=by omega
       simp[a1,a2,this]
     · have b2:y.toNat<=126:=by omega
       simp only[a1,a2,b1,b2,decide_true,decide_false,cond_f,Bool.true_and]
def mayB (y:AV):Bool:=
 bif(bif decide (gI y.cells 4<1)then true else bif decide (gI y.cells 4>3)then true else bif gI y.cells 4==3 then gI y.cells 3 != qi (gB y.cells 0)else false)then false
 else bif(decide (((gS y.cells 5).length:Int)>=1)&&decide (((gS y.cells 5).length:Int)<=63))then(bif(qok (gS y.cells 5)&&decide (((gS y.cells 6).length:Int)<=32))then((qok (gS y.cells 6)&&decide (gI y.cells 7>=0))&&decide (gI y.cells 7<=4294967295))else false)else false
theorem qpw {α:Type}(p:Bool)(a b:α):(bif p then some a else some b)=some (bif p then a else b):=by cases p<;>rfl
theorem qb20 (y:AV)(hy:qoj y):qsg (gB y.cells 0) (gI y.cells 1) (gI y.cells 2) (gI y.cells 3) (gI y.cells 4) (gS y.cells 5) (gS y.cells 6) (gI y.cells 7)=some (mayB y):=by
 have hw:qy0 (gB y.cells 0) (gI y.cells 1) (gI y.cells 2) (gI y.cells 3)=some (qi (gB y.cells 0)):=by
  rw[qbja];unfold qo9 qi;cases gB y.cells 0<;>rfl
 rw[qbm5];unfold qtl mayB
 simp only[qbfm,qnq,qbkg _ hy.2.2.2.1,qbkg _ hy.2.2.2.2,hw,oB_s]
 cases decide (gI y.cells 4<1)<;>cases decide (gI y.cells 4>3)<;>cases(gI y.cells 4==3)<;>simp only[cond_t,cond_f,qpw]
def cmpA (v6:Bool)(hi lo:Int)(w6:Bool)(whi wlo:Int):Int:=
 bif(!((v6==w6)&&true))then(bif w6 then-1 else 1)else bif(hi != whi)then(bif decide (hi<whi)then-1 else 1)else bif decide (lo<wlo)then-1 else bif decide (lo>wlo)then 1 else 0
theorem qbw4 (v6:Bool)(hi lo:Int)(w6:Bool)(whi wlo:Int):qpa v6 hi lo w6 whi wlo=some (cmpA v6 hi lo w6 whi wlo):=by
 rw[qbdg];unfold qmf cmpA
 simp only[qpw]
def cmpP (v6:Bool)(hi lo bits:Int)(w6:Bool)(whi wlo wbits:Int):Int:=
 bif(cmpA v6 hi lo w6 whi wlo != 0)then cmpA v6 hi lo w6 whi wlo else bif decide (bits<wbits)then-1 else bif decide (bits>wbits)then 1 else 0
theorem qbzz (v6:Bool)(hi lo bits:Int)(w6:Bool)(whi wlo wbits:Int):qpb v6 hi lo bits w6 whi wlo wbits=some (cmpP v6 hi lo bits w6 whi wlo wbits):=by
 rw[qbdh];unfold qmg cmpP
 simp only[qbw4,oB_s,qpw]
def ltP (v6:Bool)(hi lo bits:Int)(w6:Bool)(whi wlo wbits:Int):Prop:=
 (v6=false/\w6=true)\/(v6=w6/\(hi<whi\/(hi=whi/\(lo<wlo\/(lo=wlo/\bits<wbits)))))
theorem q57 {a:Bool}{b c d:Int}{a':Bool}{b' c' d':Int}{a2:Bool}{b2 c2 d2:Int}(h1:ltP a b c d a' b' c' d')(h2:ltP a' b' c' d' a2 b2 c2 d2):ltP a b c d a2 b2 c2 d2:=by
 unfold ltP at*
 rcases h1 with⟨rfl,rfl⟩|⟨rfl,h1⟩
 · rcases h2 with⟨h,_⟩|⟨rfl,_⟩
   · cases h
   · exact .inl ⟨rfl,rfl⟩
 · rcases h2 with⟨rfl,rfl⟩|⟨rfl,h2⟩
   · exact .inl ⟨rfl,rfl⟩
   · exact .inr ⟨rfl,by omega⟩
theorem qir {a:Bool}{b c d:Int}:¬ltP a b c d a b c d:=by
 unfold ltP
 rintro(⟨rfl,h⟩|⟨_,h⟩)
 · cases h
 · omega
def atP (v6:Bool)(hi lo bits:Int)(y:AV):Bool:=(gB y.cells 0==v6)&&((gI y.cells 1==hi)&&((gI y.cells 2==lo)&&((gI y.cells 3==bits)&&true)))
theorem qol {v6:Bool}{hi lo bits:Int}{y:AV}:atP v6 hi lo bits y=true↔gB y.cells 0=v6/\gI y.cells 1=hi/\gI y.cells 2=lo/\gI y.cells 3=bits:=by simp[atP]
def ltY (y z:AV):Prop:=ltP (gB y.cells 0) (gI y.cells 1) (gI y.cells 2) (gI y.cells 3) (gB z.cells 0) (gI z.cells 1) (gI z.cells 2) (gI z.cells 3)
def qpx (y:AV):Bool:=qc0 (gB y.cells 0) (gI y.cells 1) (gI y.cells 2) (gI y.cells 3)
def qbqf (y z:AV):Bool:=qk4 (gB y.cells 0) (gI y.cells 1) (gI y.cells 2) (gI y.cells 3) (gB z.cells 0) (gI z.cells 1) (gI z.cells 2) (gI z.cells 3)
def qbm (y z:AV):Bool:=bif(qbqf y z&&decide (gI y.cells 3>gI z.cells 3))then(bif gI z.cells 4==3 then true else bif gI z.cells 4==2 then gI y.cells 4 != 3 else false)else false
theorem qbu4 (y z:AV)(hy:qoj y):qmh (gB y.cells 0) (gI y.cells 1) (gI y.cells 2) (gI y.cells 3) (gI y.cells 4) (gS y.cells 5) (gS y.cells 6) (gI y.cells 7) (gB z.cells 0) (gI z.cells 1) (gI z.cells 2) (gI z.cells 3) (gI z.cells 4) (gS z.cells 5) (gS z.cells 6) (gI z.cells 7)=some (qbm y z):=by
 rw[qbfo];unfold qnt qbm
 rw[q7w];unfold qqb
 simp only[q0w _ _ _ _ _ _ _ _ hy.2.1 hy.2.2.1,oB_s,qpw]
 rfl
structure Row (l:LA)(j:Nat)(y:AV):Prop where
 p:qpx y=true
 may:mayB y=true
 lt:∀i z,j=i+1->l[i]?=some z->ltY z y
 bar:∀k z,k<j->l[k]?=some z->qbm y z=false
def qdx (l:LA):Prop:=∀j y,l[j]?=some y->Row l j y
def blkV (y:AV):AV:=.agg [(.bool (gB y.cells 0)),(.int .u64 (gI y.cells 1)),(.int .u64 (gI y.cells 2)),(.int .i64 (gI y.cells 3)),(.int .i64 (gI y.cells 4)),(.str (gS y.cells 5)),(.str (gS y.cells 6)),(.int .i64 (gI y.cells 7))]
def blk0:AV:=.agg [(.bool false),(.int .u64 0),(.int .u64 0),(.int .i64 0),(.int .i64 0),(.str []),(.str []),(.int .i64 0)]
def qn6 (l:LA)(v6:Bool)(hi lo bits:Int):AV×Bool:=match l.find? (atP v6 hi lo bits)with
 |some y=>(blkV y,true)
 |none=>(blk0,false)
theorem q9m (l:LA)(hl:qv l)(v6:Bool)(hi lo bits:Int):qhj l v6 hi lo bits=some (qn6 l v6 hi lo bits):=by
 rw[qblo];unfold qrt
 show qvq l v6 hi lo bits false 0 0 0 0 [] [] 0 (fun _=>some (blk0,false)) FU 0=_
 rw[qbds,qf2 l hl.1 (qi2 l v6 hi lo bits false 0 0 0 0 [] [] 0 fun _=>some (blk0,false)) (fun i nx=>qi1 l i v6 hi lo bits false 0 0 0 0 [] [] 0 nx fun _=>some (blk0,false)) (fun _ _=>rfl) (fun r=>some (qn6 r v6 hi lo bits))]
 · intro nx;simp[qi1,qn6]
 · intro i y r nx h1 h2 h3 h4 h5
   have hy:=hl.2 y (List.mem_of_getElem? h2)
   have h6:(i:Int)<(l.length:Int):=by omega
   unfold qi1
   simp only[h6,decide_true,cond_t,ixB_nat,h2,oB_s,hy.1,h4,h5,qn6,List.find?_cons]
   rw[show((gB y.cells 0==v6)&&((gI y.cells 1==hi)&&((gI y.cells 2==lo)&&((gI y.cells 3==bits)&&true))))=atP v6 hi lo bits y from rfl]
   cases atP v6 hi lo bits y<;>rfl
def idxO (q:AV->Bool):List AV->Option Nat
 |[]=>none
 |y::r=>if q y then some 0 else(idxO q r).map (· +1)
theorem qm7 {q:AV->Bool}:∀(l:LA) (k:Nat),idxO q l=some k->∃y,l[k]?=some y/\l.find? q=some y
 |y::r,k,h=>by
  unfold idxO at h
  cases hq:q y with
  |true=>simp[hq]at h;subst h;exact⟨y,rfl,by simp[hq]⟩
  |false=>
   simp[hq]at h
   obtain⟨k',h1,rfl⟩:=h
   obtain⟨z,h2,h3⟩:=qm7 r k' h1
   exact⟨z,by simpa using h2,by simp[hq,h3]⟩
theorem qbry {q:AV->Bool}:∀(l:LA),idxO q l=none->l.find? q=none
 |[],_=>rfl
 |y::r,h=>by
  unfold idxO at h
  cases hq:q y with
  |true=>simp[hq]at h
  |false=>simp[hq]at h;simp[List.find?_cons,hq];simpa using qbry r h
def idxI (q:AV->Bool)(l:LA):Int:=match idxO q l with
 |some k=>(k:Int)
 |none=> -1
theorem qbl7 (l:LA)(hl:qv l)(v6:Bool)(hi lo bits:Int):qr9 l v6 hi lo bits=some (idxI (atP v6 hi lo bits) l):=by
 rw[qbml];unfold qs9
 rw[qig];unfold qbt
 rw[qhn]
 have key:=qcq l hl.1 (fun n i (s:Bool×Int×Int×Int)=>q9 l (l.length:Int) (fun b0_0 b0_1 b0_2 b0_3=>some (-1:Int)) (fun v4q1 b0_0q2 b0_1q3 b0_2q4 b0_3q5=>some v4q1) n i s.1 s.2.1 s.2.2.1 s.2.2.2)
  (fun i s nx=>q8 l (l.length:Int) i s.1 s.2.1 s.2.2.1 s.2.2.2 (fun a b c d e=>nx a (b,c,d,e)) (fun b0_0 b0_1 b0_2 b0_3=>some (-1:Int)) (fun v4q1 b0_0q2 b0_1q3 b0_2q4 b0_3q5=>some v4q1)) (fun _ _ _=>rfl)
  (fun i s=>s=(v6,hi,lo,bits)) (fun r s=>some (match idxO (atP v6 hi lo bits) r with|some k=>((l.length-r.length+k:Nat):Int)|none=> -1)) ?_ ?_ (v6,hi,lo,bits) FU rfl (qcz (by have:=hl.1;omega))
 · refine key.trans ?_
   unfold idxI
   cases idxO (atP v6 hi lo bits) l<;>simp
 · intro s nx hs
   simp[q8,idxO]
 · rintro i y r _ nx h1 h2 h3 h4 rfl h5
   have hy:=hl.2 y (List.mem_of_getElem? h2)
   have h6:(i:Int)<(l.length:Int):=by omega
   have hr:r.length=l.length-(i+1):=by
    have:=congrArg List.length h1
    simp at this
    omega
   unfold q8
   simp only[h6,decide_true,cond_t,ixB_nat,h2,oB_s,hy.1,qbif,qot,h4]
   rw[show((gB y.cells 0==v6)&&((gI y.cells 1==hi)&&((gI y.cells 2==lo)&&((gI y.cells 3==bits)&&true))))=atP v6 hi lo bits y from rfl]
   unfold idxO
   cases hq:atP v6 hi lo bits y with
   |true=>
    simp
    omega
   |false=>
    simp only[cond_f,Bool.false_eq_true,if_false]
    rw[h5 _ rfl]
    cases idxO (atP v6 hi lo bits) r with
    |none=>rfl
    |some k=>simp;omega
theorem qbh1 (l:LA)(hl:qv l)(v6:Bool)(hi lo bits:Int):qqf l v6 hi lo bits=some (qn6 l v6 hi lo bits):=by
 rw[qbpo];unfold qu1 qn6
 simp only[qbl7 l hl,oB_s]
 unfold idxI
 cases hq:idxO (atP v6 hi lo bits) l with
 |none=>
  rw[qbry l hq]
  rfl
 |some k=>
  obtain⟨y,h1,h2⟩:=qm7 l k hq
  have hy:=hl.2 y (List.mem_of_getElem? h1)
  have h3:(k:Int)>=0:=by omega
  rw[h2]
  simp only[h3,decide_true,cond_t,ixB_nat,h1,oB_s,hy.1]
  rfl
theorem qdx.sorted {l:LA}(h:qdx l)(i:Nat)(y:AV)(hy:l[i]?=some y):∀j z,i<j->l[j]?=some z->ltY y z:=by
 intro j
 induction j with
 |zero=>intro z hj;omega
 |succ j ih=>
  intro z hj hz
  obtain⟨x,hx⟩:∃x,l[j]?=some x:=by
   have:=(List.getElem?_eq_some_iff.1 hz).1
   exact⟨l[j],by simp⟩
  have h1:=(h (j+1) z hz).lt j x rfl hx
  by_cases hij:i=j
  · subst hij
    rw[hy]at hx;cases hx
    exact h1
  · exact q57 (ih x (by omega) hx) h1
def numP (hi lo:Int):Nat:=hi.toNat*18446744073709551616+lo.toNat
def kOf (v6:Bool)(bits:Int):Nat:=(qi v6-bits).toNat
theorem qbbz:(2:Nat)^64=18446744073709551616:=by decide
theorem qbu5 (x j:Nat):x&&& (2^j-1)=x%2^j:=Nat.and_two_pow_sub_one_eq_mod x j
theorem qut {x:Int}(h:uok x)(j:Nat)(hj:j<=64):qbi .and .u64 x ((2^j-1:Nat):Int)=((x.toNat%2^j:Nat):Int):=by
 rw[qbhd]
 congr 1
 have e1:=q2m h
 have hp:(2:Nat)^j<=2^64:=Nat.pow_le_pow_right (by decide) hj
 have h0:0<(2:Nat)^j:=Nat.two_pow_pos j
 have e2:=q2m (x:=((2^j-1:Nat):Int)) ⟨by omega,by rw[qbbz]at hp;omega⟩
 rw[BitVec.toNat_and]
 have e3:(BitVec.ofInt 64 x).toNat=x.toNat:=by omega
 have e4:(BitVec.ofInt 64 ((2^j-1:Nat):Int)).toNat=2^j-1:=by omega
 rw[e3,e4]
 exact qbu5 _ _
theorem qzn {x:Int}(h:uok x)(j:Nat)(hj:j<=64):qbi .andNot .u64 x ((2^j-1:Nat):Int)=((x.toNat-x.toNat%2^j:Nat):Int):=by
 have h1:=qut h j hj
 rw[qbhd]at h1
 rw[qbhe]
 have h2:=q2n (BitVec.ofInt 64 x) (BitVec.ofInt 64 ((2^j-1:Nat):Int))
 have h3:=q2m h
 have h4:x.toNat%2^j<=x.toNat:=Nat.mod_le _ _
 omega
theorem qbu6:∀n:Fin 65,qdw n=(0,((2^n.val-1:Nat):Int)):=by decide+kernel
theorem qbrz:∀n:Fin 65,qdw (n.val+64)=(((2^n.val-1:Nat):Int),((2^64-1:Nat):Int)):=by decide+kernel
theorem qz2 {x:Int}(h:uok x):qbi .and .u64 x 0=0:=by
 have:=qut h 0 (by omega)
 simpa[Nat.mod_one]using this
theorem qbhi (hi lo k:Nat)(hk:k<=64):(hi*18446744073709551616+lo)%2^k=lo%2^k:=by
 have:18446744073709551616=2^k*2^(64-k):=by rw[<-Nat.pow_add,<-qbbz];congr 1;omega
 rw[this,show hi*(2^k*2^(64-k))+lo=lo+2^k*(hi*2^(64-k)) by rw[Nat.add_comm];congr 1;rw[Nat.mul_left_comm],Nat.add_mul_mod_self_left]
theorem qbqg (hi lo j:Nat)(hl:lo<18446744073709551616):(hi*18446744073709551616+lo)%2^(j+64)=hi%2^j*18446744073709551616+lo:=by
 have h0:0<(2:Nat)^j:=Nat.two_pow_pos j
 have h1:=Nat.div_add_mod hi (2^j)
 have h2:=Nat.mod_lt hi h0
 rw[Nat.pow_add,qbbz]
 have e:hi*18446744073709551616+lo=(hi%2^j*18446744073709551616+lo)+2^j*18446744073709551616*(hi / 2^j):=by
  calc hi*18446744073709551616+lo=(2^j*(hi / 2^j)+hi%2^j)*18446744073709551616+lo:=by rw[h1]
   _=_:=by rw[Nat.add_mul];rw[show 2^j*(hi / 2^j)*18446744073709551616=2^j*18446744073709551616*(hi / 2^j) by rw[Nat.mul_right_comm]];omega
 rw[e,Nat.add_mul_mod_self_left]
 refine Nat.mod_eq_of_lt ?_
 have h3:(hi%2^j+1)*18446744073709551616<=2^j*18446744073709551616:=Nat.mul_le_mul_right _ h2
 rw[Nat.add_mul]at h3
 omega
theorem qbw5 {hi lo:Int}(u1:uok hi)(u2:uok lo)(k:Nat)(hk:k<=128):
 uok (qbi .andNot .u64 hi (qdw k).1)/\uok (qbi .andNot .u64 lo (qdw k).2)/\numP (qbi .andNot .u64 hi (qdw k).1) (qbi .andNot .u64 lo (qdw k).2)=numP hi lo-numP hi lo%2^k:=by
 obtain⟨a1,a2⟩:=u1
 obtain⟨b1,b2⟩:=u2
 rcases Nat.lt_or_ge k 65 with h|h
 · have e:=qbu6 ⟨k,h⟩
   simp only at e
   rw[e,qzn ⟨b1,b2⟩ k (by omega),qbwe ⟨a1,a2⟩]
   have hm:=qbhi hi.toNat lo.toNat k (by omega)
   have hle:=Nat.mod_le lo.toNat (2^k)
   refine⟨⟨a1,a2⟩,⟨by omega,by omega⟩,?_⟩
   unfold numP
   rw[hm]
   omega
 · obtain⟨j,rfl⟩:∃j,k=j+64:=⟨k-64,by omega⟩
   have e:=qbrz ⟨j,by omega⟩
   simp only at e
   rw[e,qzn ⟨a1,a2⟩ j (by omega),qzn ⟨b1,b2⟩ 64 (by omega)]
   have hm:=qbqg hi.toNat lo.toNat j (by omega)
   have hle:=Nat.mod_le hi.toNat (2^j)
   have hlo:lo.toNat%2^64=lo.toNat:=Nat.mod_eq_of_lt (by rw[qbbz];omega)
   refine⟨⟨by omega,by omega⟩,⟨by omega,by omega⟩,?_⟩
   unfold numP
   rw[hm,hlo]
   omega
theorem qb31 {hi lo:Int}(u1:uok hi)(u2:uok lo)(k:Nat)(hk:k<=128):
 (qbi .and .u64 hi (qdw k).1=0/\qbi .and .u64 lo (qdw k).2=0)↔numP hi lo%2^k=0:=by
 obtain⟨a1,a2⟩:=u1
 obtain⟨b1,b2⟩:=u2
 rcases Nat.lt_or_ge k 65 with h|h
 · have e:=qbu6 ⟨k,h⟩
   simp only at e
   rw[e,qut ⟨b1,b2⟩ k (by omega),qz2 ⟨a1,a2⟩]
   have hm:=qbhi hi.toNat lo.toNat k (by omega)
   unfold numP
   rw[hm]
   generalize lo.toNat%2^k=q
   constructor
   · rintro⟨_,h⟩;omega
   · intro h;exact⟨rfl,by omega⟩
 · obtain⟨j,rfl⟩:∃j,k=j+64:=⟨k-64,by omega⟩
   have e:=qbrz ⟨j,by omega⟩
   simp only at e
   rw[e,qut ⟨a1,a2⟩ j (by omega),qut ⟨b1,b2⟩ 64 (by omega)]
   have hm:=qbqg hi.toNat lo.toNat j (by omega)
   have hlo:lo.toNat%2^64=lo.toNat:=Nat.mod_eq_of_lt (by rw[qbbz];omega)
   unfold numP
   rw[hm,hlo]
   constructor
   · rintro⟨h1,h2⟩
     have:hi.toNat%2^j=0:=by omega
     rw[this];omega
   · intro h1
     revert h1
     generalize hi.toNat%2^j=q
     intro h1
     have h4:q=0:=by omega
     have h5:lo.toNat=0:=by omega
     exact⟨by omega,by omega⟩
theorem qb1n {hi lo hi' lo':Int}(u1:uok hi)(u2:uok lo)(u3:uok hi')(u4:uok lo')(h:numP hi lo=numP hi' lo'):hi=hi'/\lo=lo':=by
 unfold numP at h
 unfold uok at*
 omega
theorem qx3 {v6:Bool}{hi lo bits:Int}(u1:uok hi)(u2:uok lo):qc0 v6 hi lo bits=true↔qe1 v6 hi lo=true/\0<=bits/\bits<=qi v6/\numP hi lo%2^kOf v6 bits=0:=by
 by_cases h:0<=bits
 · have hl:=qe8 v6
   have:=qb31 u1 u2 (kOf v6 bits) (by unfold kOf;omega)
   unfold qc0
   simp only[Bool.and_eq_true,decide_eq_true_eq,beq_iff_eq]
   unfold kOf at*
   rw[<-this]
   constructor
   · rintro⟨⟨⟨⟨a,b⟩,c⟩,d⟩,e⟩;exact⟨a,b,c,d,e⟩
   · rintro⟨a,b,c,d,e⟩;exact⟨⟨⟨⟨a,b⟩,c⟩,d⟩,e⟩
 · unfold qc0
   simp[h]
theorem qbz0 {v6:Bool}{hi lo bits:Int}{w6:Bool}{ahi alo:Int}(h1:uok hi)(h2:uok lo)(u1:uok ahi)(u2:uok alo):
 qiq v6 hi lo bits w6 ahi alo=true↔qc0 v6 hi lo bits=true/\qe1 w6 ahi alo=true/\v6=w6/\numP hi lo=numP ahi alo-numP ahi alo%2^kOf v6 bits:=by
 unfold qiq
 simp only[Bool.and_eq_true,beq_iff_eq]
 constructor
 · rintro⟨a,b,c,d,e⟩
   refine⟨a,b,c,?_⟩
   obtain⟨r1,r2,_⟩:=qd7 a
   have hl:=qe8 v6
   obtain⟨_,_,h⟩:=qbw5 u1 u2 (kOf v6 bits) (by unfold kOf;omega)
   unfold kOf at h
   rw[d,e]at h
   exact h
 · rintro⟨a,b,c,d⟩
   refine⟨a,b,c,?_⟩
   obtain⟨r1,r2,_⟩:=qd7 a
   have hl:=qe8 v6
   obtain⟨k1,k2,h⟩:=qbw5 u1 u2 (kOf v6 bits) (by unfold kOf;omega)
   rw[<-d]at h
   obtain⟨e1,e2⟩:=qb1n k1 k2 h1 h2 h
   exact⟨e1,e2⟩
structure Np where
 v:Bool
 n:Nat
 k:Nat
def Np.ok (p:Np):Prop:=p.n%2^p.k=0
def Np.sub (p q:Np):Prop:=p.v=q.v/\p.k<=q.k/\p.n-p.n%2^q.k=q.n
theorem qbh2 {a b:Nat}(h:a<=b):2^a ∣ 2^b:=Nat.pow_dvd_pow 2 h
theorem qbw6 {n a b:Nat}(h:a<=b):(n-n%2^a)-(n-n%2^a)%2^b=n-n%2^b:=by
 have h0:=Nat.two_pow_pos a
 have h1:=Nat.two_pow_pos b
 obtain⟨c,hc⟩:=qbh2 h
 have e1:n-n%2^a=2^a*(n / 2^a):=by have:=Nat.div_add_mod n (2^a);omega
 have e2:∀m,m-m%2^b=2^b*(m / 2^b):=fun m=>by have:=Nat.div_add_mod m (2^b);omega
 rw[e2,e2 n]
 congr 1
 rw[e1,hc,<-Nat.div_div_eq_div_mul,<-Nat.div_div_eq_div_mul,Nat.mul_div_cancel_left _ h0]
theorem Np.sub_refl {p:Np}(h:p.ok):p.sub p:=⟨rfl,Nat.le_refl _,by unfold Np.ok at h;rw[h];rfl⟩
theorem Np.sub_trans {p q r:Np}(h1:p.sub q)(h2:q.sub r):p.sub r:=by
 obtain⟨a1,a2,a3⟩:=h1
 obtain⟨b1,b2,b3⟩:=h2
 refine⟨a1.trans b1,Nat.le_trans a2 b2,?_⟩
 rw[<-b3,<-a3,qbw6 b2]
theorem Np.nest {p q r:Np}(h1:p.sub q)(h2:p.sub r)(h:q.k<=r.k):q.sub r:=by
 obtain⟨a1,a2,a3⟩:=h1
 obtain⟨b1,b2,b3⟩:=h2
 exact⟨a1.symm.trans b1,h,by rw[<-a3,qbw6 h];exact b3⟩
theorem qbqh (v6:Bool)(hi lo:Int)(w6:Bool)(whi wlo:Int):qsb v6 hi lo w6 whi wlo=some (cmpA v6 hi lo w6 whi wlo):=by
 rw[qbmp];unfold qtb cmpA
 simp only[qbpn,qu0,qpw,oB_s]
 by_cases h1:v6=w6
 · subst h1
   by_cases h2:hi=whi
   · subst h2;simp
   · by_cases h3:hi<whi
     · simp[h2,h3]
     · have:hi>whi:=by omega
       simp[h2,h3,this]
 · cases v6<;>cases w6<;>simp at h1⊢
theorem qb5d (v6:Bool)(hi lo bits:Int)(w6:Bool)(whi wlo wbits:Int):qyt v6 hi lo bits w6 whi wlo wbits=some (cmpP v6 hi lo bits w6 whi wlo wbits):=by
 rw[qbig];unfold qov cmpP
 simp only[qbqh,oB_s,qpw]
theorem q2o (v6:Bool)(hi lo bits:Int)(w6:Bool)(whi wlo wbits:Int):
 (cmpP v6 hi lo bits w6 whi wlo wbits<0/\ltP v6 hi lo bits w6 whi wlo wbits)\/(cmpP v6 hi lo bits w6 whi wlo wbits=0/\v6=w6/\hi=whi/\lo=wlo/\bits=wbits)\/(cmpP v6 hi lo bits w6 whi wlo wbits>0/\ltP w6 whi wlo wbits v6 hi lo bits):=by
 unfold cmpP cmpA ltP
 by_cases h1:v6=w6
 · subst h1
   by_cases h2:hi=whi
   · subst h2
     by_cases h3:lo<wlo
     · left;simp[h3]
     · by_cases h4:lo>wlo
       · right;right;simp[h3,h4]
       · have:lo=wlo:=by omega
         subst this
         by_cases h5:bits<wbits
         · left;simp[h5]
         · by_cases h6:bits>wbits
           · right;right;simp[h5,h6]
           · right;left
             have:bits=wbits:=by omega
             subst this;simp
   · have h2':(hi != whi)=true:=by simpa using h2
     by_cases h3:hi<whi
     · left;simp[h2',h3]
     · have h4:whi<hi:=by omega
       right;right;simp[h2',h3,h4]
 · cases v6<;>cases w6<;>simp at h1⊢
def cmpY (y z:AV):Int:=cmpP (gB y.cells 0) (gI y.cells 1) (gI y.cells 2) (gI y.cells 3) (gB z.cells 0) (gI z.cells 1) (gI z.cells 2) (gI z.cells 3)
def samP (y z:AV):Bool:=(gB y.cells 0==gB z.cells 0)&&((gI y.cells 1==gI z.cells 1)&&((gI y.cells 2==gI z.cells 2)&&((gI y.cells 3==gI z.cells 3)&&true)))
theorem qbb0 {y z:AV}:samP y z=true↔gB y.cells 0=gB z.cells 0/\gI y.cells 1=gI z.cells 1/\gI y.cells 2=gI z.cells 2/\gI y.cells 3=gI z.cells 3:=by simp[samP]
theorem qbb1 {y z:AV}:samP y z=true↔cmpY y z=0:=by
 rw[qbb0]
 unfold cmpY
 rcases q2o (gB y.cells 0) (gI y.cells 1) (gI y.cells 2) (gI y.cells 3) (gB z.cells 0) (gI z.cells 1) (gI z.cells 2) (gI z.cells 3)with⟨h,h2⟩|⟨h,h2⟩|⟨h,h2⟩
 · constructor
   · rintro⟨a,b,c,d⟩;rw[a,b,c,d]at h2;exact absurd h2 qir
   · intro h3;omega
 · exact⟨fun _=>h,fun _=>h2⟩
 · constructor
   · rintro⟨a,b,c,d⟩;rw[a,b,c,d]at h2;exact absurd h2 qir
   · intro h3;omega
theorem qoq (y z:AV):(cmpY y z>0↔cmpY z y<0)/\(cmpY y z=0↔cmpY z y=0)/\(cmpY y z<0↔ltY y z):=by
 unfold cmpY ltY
 have irr:∀{a:Bool} {b c d:Int} {a':Bool} {b' c' d':Int},ltP a b c d a' b' c' d'->¬ltP a' b' c' d' a b c d:=fun h1 h2=>qir (q57 h1 h2)
 rcases q2o (gB y.cells 0) (gI y.cells 1) (gI y.cells 2) (gI y.cells 3) (gB z.cells 0) (gI z.cells 1) (gI z.cells 2) (gI z.cells 3)with⟨h,h2⟩|⟨h,a,b,c,d⟩|⟨h,h2⟩<;>
 rcases q2o (gB z.cells 0) (gI z.cells 1) (gI z.cells 2) (gI z.cells 3) (gB y.cells 0) (gI y.cells 1) (gI y.cells 2) (gI y.cells 3)with⟨k,k2⟩|⟨k,a',b',c',d'⟩|⟨k,k2⟩
 · exact absurd k2 (irr h2)
 · rw[a',b',c',d']at h2;exact absurd h2 qir
 · exact⟨by constructor<;>intro<;>omega,by constructor<;>intro<;>omega,⟨fun _=>h2,fun _=>h⟩⟩
 · rw[a,b,c,d]at k2;exact absurd k2 qir
 · refine⟨by constructor<;>intro<;>omega,by constructor<;>intro<;>omega,⟨fun _=>by omega,fun h3=> ?_⟩⟩
   rw[a,b,c,d]at h3;exact absurd h3 qir
 · rw[a,b,c,d]at k2;exact absurd k2 qir
 · refine⟨by constructor<;>intro<;>omega,by constructor<;>intro<;>omega,⟨fun _=>by omega,fun h3=>absurd h3 (irr h2)⟩⟩
 · rw[a',b',c',d']at h2;exact absurd h2 qir
 · exact absurd k2 (irr h2)
def qz3 (y z:AV):Bool:=decide (gI y.cells 3>gI z.cells 3)&&qbqf y z
def qd8 (v6:Bool)(hi lo bits:Int)(w6:Bool)(whi wlo wbits:Int):Bool:=decide (bits>wbits)&&qk4 v6 hi lo bits w6 whi wlo wbits
theorem qbu7 (v6:Bool)(hi lo bits:Int)(w6:Bool)(whi wlo wbits:Int):qud v6 hi lo bits w6 whi wlo wbits=some (qd8 v6 hi lo bits w6 whi wlo wbits):=by
 rw[qbpm];unfold quz qd8
 simp only[qbhg,oB_s]
 cases decide (bits>wbits)<;>rfl
theorem qbr0 (s:LU)(lo hi:Int)(hs:s.length<=9223372036854775807):qs7 s lo hi=some (decide ((s.length:Int)>=lo)&&(decide ((s.length:Int)<=hi)&&qok s)):=by
 rw[qbid];unfold qos
 have e:qr8 s (s.length:Int) (fun(_:Unit)=>some true) FU 0=some (qok s):=by
  rw[q7c,qf2 s hs (qgf s (s.length:Int) fun _=>some true) (fun i nx=>qge s (s.length:Int) i nx fun _=>some true) (fun _ _=>rfl) (fun r=>some (qok r))]
  · intro nx;simp[qge,qok]
  · intro i y r nx h1 h2 h3 h4 h5
    have h6:(i:Int)<(s.length:Int):=by omega
    unfold qge
    simp only[h6,decide_true,cond_t,ixB_nat,h2,oB_s,h4,h5,qok,List.all_cons]
    by_cases a1:(y.toNat:Int)<33
    · have a2:¬33<=y.toNat:=by omega
      simp[a1,a2]
    · have a2:33<=y.toNat:=by omega
      by_cases b1:(y.toNat:Int)>126
      · have b2:¬y.toNat<=126:=by omega
        simp[a1,a2,b1,b2]
      · have b2:y.toNat<=126:=by omega
        simp[a1,a2,b1,b2]
 rw[e]
 by_cases h1:(s.length:Int)<lo
 · have:¬(s.length:Int)>=lo:=by omega
   simp[h1,this]
 · have h1':(s.length:Int)>=lo:=by omega
   by_cases h2:(s.length:Int)>hi
   · have:¬(s.length:Int)<=hi:=by omega
     simp[h1,h2,this]
   · have:(s.length:Int)<=hi:=by omega
     simp[h1,h2,this,h1']
def qbou (y:AV):Int:=bif !qpx y then 3 else bif !mayB y then 1 else 0
theorem qb32 (y:AV)(hy:qoj y):qwx (gB y.cells 0) (gI y.cells 1) (gI y.cells 2) (gI y.cells 3) (gI y.cells 4) (gS y.cells 5) (gS y.cells 6) (gI y.cells 7)=some (qbou y):=by
 have hw:q26 (gB y.cells 0) (gI y.cells 1) (gI y.cells 2) (gI y.cells 3)=some (qi (gB y.cells 0)):=by
  rw[qbmj];unfold qs6 qi;cases gB y.cells 0<;>rfl
 rw[qbmk];unfold qs8 qbou qpx mayB
 simp only[qbco,ql0,q4n,qbr0 _ _ _ hy.2.2.2.1,qbr0 _ _ _ hy.2.2.2.2,hw,oB_s]
 have e1:decide (((gS y.cells 6).length:Int)>=0)=true:=by simp
 rw[e1]
 cases qc0 (gB y.cells 0) (gI y.cells 1) (gI y.cells 2) (gI y.cells 3)
 · rfl
 · have e2:decide (gI y.cells 7<0)= !decide (gI y.cells 7>=0):=by rw[Bool.eq_iff_iff];simp
   have e3:decide (gI y.cells 7>4294967295)= !decide (gI y.cells 7<=4294967295):=by rw[Bool.eq_iff_iff];simp
   rw[e2,e3]
   cases decide (gI y.cells 4<1)<;>cases decide (gI y.cells 4>3)<;>cases(gI y.cells 4==3)<;>cases(gI y.cells 3 != qi (gB y.cells 0))<;>simp only[cond_t,cond_f,Bool.not_true,Bool.not_false]<;>
    cases decide (((gS y.cells 5).length:Int)>=1)<;>cases decide (((gS y.cells 5).length:Int)<=63)<;>cases qok (gS y.cells 5)<;>cases decide (((gS y.cells 6).length:Int)<=32)<;>cases qok (gS y.cells 6)<;>cases decide (gI y.cells 7>=0)<;>cases decide (gI y.cells 7<=4294967295)<;>rfl
def admF (ko kb:Int):Bool:=bif ko==1 then true else bif ko==2 then kb==3 else false
theorem qb1o (y z:AV):q05 (gB z.cells 0) (gI z.cells 1) (gI z.cells 2) (gI z.cells 3) (gI z.cells 4) (gS z.cells 5) (gS z.cells 6) (gI z.cells 7) (gB y.cells 0) (gI y.cells 1) (gI y.cells 2) (gI y.cells 3) (gI y.cells 4) (gS y.cells 5) (gS y.cells 6) (gI y.cells 7)=some (admF (gI z.cells 4) (gI y.cells 4)):=by
 rw[qbkr];unfold qq4 admF
 simp only[qpw]
def misY (y z:AV):Bool:=qz3 y z&& !admF (gI z.cells 4) (gI y.cells 4)
theorem qb33 {y z:AV}(hz:mayB z=true):misY y z=qbm y z:=by
 have hk:1<=gI z.cells 4/\gI z.cells 4<=3:=by
  unfold mayB at hz
  by_cases h1:gI z.cells 4<1
  · simp[h1]at hz
  · by_cases h2:gI z.cells 4>3
    · simp[h1,h2]at hz
    · omega
 unfold misY qbm qz3 admF
 have h3:gI z.cells 4=1\/gI z.cells 4=2\/gI z.cells 4=3:=by omega
 rcases h3 with h|h|h<;>rw[h]<;>cases qbqf y z<;>cases decide (gI y.cells 3>gI z.cells 3)<;>cases hh:gI y.cells 4==3<;>simp[hh,bne]
theorem qs0 (q:AV->Bool)(l:LA):decide (idxI q l>=0)=l.any q:=by
 unfold idxI
 have:(idxO q l).isSome=l.any q:=by
  induction l with
  |nil=>rfl
  |cons y r ih=>unfold idxO;cases hq:q y<;>simp[hq,ih]
 cases h:idxO q l with
 |none=>rw[h]at this;simp at this⊢;simpa using this
 |some k=>rw[h]at this;simp at this⊢;simpa using this
theorem qbb2 {R:Type}(l:LA)(hl:qv l)(a0:Bool)(a1:Int)(a2:Int)(a3:Int)(a4:Int)(a5:LU)(a6:LU)(a7:Int)(kr:Int->Bool->Int->Int->Int->Int->List UInt8->List UInt8->Int->Option R)(q:AV->Bool)(hq:∀y,qoj y->∀kr:Bool->Bool->Int->Int->Int->Int->List UInt8->List UInt8->Int->Option R,qsa (gB y.cells 0) (gI y.cells 1) (gI y.cells 2) (gI y.cells 3) (gI y.cells 4) (gS y.cells 5) (gS y.cells 6) (gI y.cells 7) a0 a1 a2 a3 a4 a5 a6 a7 kr=kr (q y) a0 a1 a2 a3 a4 a5 a6 a7):
 qb2 l a0 a1 a2 a3 a4 a5 a6 a7 kr=kr (idxI q l) a0 a1 a2 a3 a4 a5 a6 a7:=by
 rw[qhb];unfold qbk
 rw[qf4]
 have key:=qcq l hl.1 (fun n i (s:Bool×Int×Int×Int×Int×(List UInt8)×(List UInt8)×Int)=>qu l (l.length:Int) (fun c0 c1 c2 c3 c4 c5 c6 c7=>kr (-1:Int) c0 c1 c2 c3 c4 c5 c6 c7) kr n i s.1 s.2.1 s.2.2.1 s.2.2.2.1 s.2.2.2.2.1 s.2.2.2.2.2.1 s.2.2.2.2.2.2.1 s.2.2.2.2.2.2.2)
  (fun i s nx=>qt l (l.length:Int) i s.1 s.2.1 s.2.2.1 s.2.2.2.1 s.2.2.2.2.1 s.2.2.2.2.2.1 s.2.2.2.2.2.2.1 s.2.2.2.2.2.2.2 (fun i c0 c1 c2 c3 c4 c5 c6 c7=>nx i (c0,c1,c2,c3,c4,c5,c6,c7)) (fun c0 c1 c2 c3 c4 c5 c6 c7=>kr (-1:Int) c0 c1 c2 c3 c4 c5 c6 c7) kr) (fun _ _ _=>rfl)
  (fun i s=>s=(a0,a1,a2,a3,a4,a5,a6,a7)) (fun r s=>kr (match idxO q r with|some k=>((l.length-r.length+k:Nat):Int)|none=> -1) a0 a1 a2 a3 a4 a5 a6 a7) ?_ ?_ (a0,a1,a2,a3,a4,a5,a6,a7) FU rfl (qcz (by have:=hl.1;omega))
 · refine key.trans ?_
   unfold idxI
   cases idxO q l<;>simp
 · intro s nx hs
   subst hs
   simp[qt,idxO]
 · rintro i y r _ nx h1 h2 h3 h4 rfl h5
   have hy:=hl.2 y (List.mem_of_getElem? h2)
   have h6:(i:Int)<(l.length:Int):=by omega
   have hr:r.length=l.length-(i+1):=by
    have:=congrArg List.length h1
    simp at this
    omega
   unfold qt
   simp only[h6,decide_true,cond_t,ixB_nat,h2,oB_s,hy.1,hq y hy,h4]
   unfold idxO
   cases hqq:q y with
   |true=>
    simp only[cond_t,if_true]
    congr 1
    simp
    omega
   |false=>
    simp only[cond_f,Bool.false_eq_true,if_false]
    rw[h5 _ rfl]
    cases idxO q r with
    |none=>rfl
    |some k=>
     simp
     congr 1
     omega
theorem qbwf (l:LA)(hl:qv l)(y:AV):qou l (gB y.cells 0) (gI y.cells 1) (gI y.cells 2) (gI y.cells 3) (gI y.cells 4) (gS y.cells 5) (gS y.cells 6) (gI y.cells 7)=some (l.any (misY y)):=by
 rw[qbcp];unfold ql2
 rw[qf6];unfold qbg
 rw[qbb2 l hl _ _ _ _ _ _ _ _ _ (misY y),qs0]
 intro z hz kr
 rw[q7f];unfold qj9
 simp only[qbu7,qb1o,oB_s]
 have e:qd8 (gB y.cells 0) (gI y.cells 1) (gI y.cells 2) (gI y.cells 3) (gB z.cells 0) (gI z.cells 1) (gI z.cells 2) (gI z.cells 3)=qz3 y z:=rfl
 rw[e]
 unfold misY
 cases qz3 y z<;>simp
def qpy (pre:LA)(q:AV->Bool):Bool:=match pre.getLast? with
 |some x=>q x
 |none=>false
def q2p (pre:LA)(y:AV):Int:=
 bif !qpx y then 3 else bif !mayB y then 1 else bif qpy pre (fun x=>decide (cmpY x y>0))then 7 else bif qpy pre (fun x=>samP x y)then 12 else bif pre.any (qbm y)then 24 else 0
def chkR:List AV->List AV->Int
 |_,[]=>0
 |pre,y::r=>bif q2p pre y != 0 then q2p pre y else chkR (pre++[y]) r
def qs1 (l:LA):Int:=bif decide ((l.length:Int)>512)then 9 else chkR [] l
theorem qbov {pre:LA}{y:AV}:q2p pre y=0↔qpx y=true/\mayB y=true/\qpy pre (fun x=>decide (cmpY x y>0))=false/\qpy pre (fun x=>samP x y)=false/\pre.any (qbm y)=false:=by
 unfold q2p
 cases qpx y<;>cases mayB y<;>cases qpy pre (fun x=>decide (cmpY x y>0))<;>cases qpy pre (fun x=>samP x y)<;>cases pre.any (qbm y)<;>simp
theorem q58 {α:Type}{l:List α}{i:Nat}(h:i+1<=l.length):(l.take (i+1)).getLast? =l[i]?:=by
 rw[List.getLast?_eq_getElem?]
 have:(l.take (i+1)).length=i+1:=by simp;omega
 rw[this,List.getElem?_take]
 simp
theorem qbu8 {α:Type}{l r:List α}{a:α}{i:Nat}(h:l.drop i=a::r):l.length-(a::r).length=i/\l.length-r.length=i+1:=by
 have h1:=congrArg List.length h
 have h2:i<l.length:=by
  rcases Nat.lt_or_ge i l.length with h3|h3
  · exact h3
  · rw[List.drop_of_length_le h3]at h;cases h
 simp at h1⊢
 omega
theorem qbz1 {α:Type}{l:List α}{i:Nat}{a:α}(h:l[i]?=some a):l.take (i+1)=l.take i++[a]:=by
 rw[List.take_add_one,h];rfl
theorem qbz2 (l:LA)(hl:qv l):qy1 l=some (qs1 l):=by
 rw[qbje];unfold qpd qs1
 by_cases hlen:(l.length:Int)>512
 · simp[hlen]
 · simp only[hlen,decide_false,cond_f]
   rw[q72,qf2 l hl.1 (fun n i=>qgo l (fun _=>some 0) n i) (fun i nx=>qgn l i nx fun _=>some 0) (fun _ _=>rfl) (fun r=>some (chkR (l.take (l.length-r.length)) r))]
   · simp
   · intro nx;simp[qgn,chkR]
   · intro i y r nx h1 h2 h3 h4 h5
     have hy:=hl.2 y (List.mem_of_getElem? h2)
     have h6:(i:Int)<(l.length:Int):=by omega
     obtain⟨e1,e2⟩:=qbu8 h1
     rw[e1]
     have inner:qsh l (i:Int) (fun _=>nx (IntKind.i64.wrap ((i:Int)+1))) FU 0=bif(l.take i).any (qbm y)then some 24 else nx ((i+1:Nat):Int):=by
      have hti:(l.take i).length=i:=by simp;omega
      rw[q71,qf2 (l.take i) (by have:=hl.1;omega) (qgm l (i:Int) fun _=>nx (IntKind.i64.wrap ((i:Int)+1))) (fun k nx'=>qgl l (i:Int) k nx' fun _=>nx (IntKind.i64.wrap ((i:Int)+1))) (fun _ _=>rfl) (fun r=>bif r.any (qbm y)then some 24 else nx ((i+1:Nat):Int))]
      · intro nx'
        unfold qgl
        rw[hti]
        simp[h4]
      · intro k z r nx' g1 g2 g3 g4 g5
        have g6:(k:Int)<(i:Int):=by omega
        have g7:l[k]?=some z:=by rw[List.getElem?_take]at g2;split at g2;exact g2;cases g2
        have hz:=hl.2 z (List.mem_of_getElem? g7)
        unfold qgl
        simp only[g6,decide_true,cond_t,ixB_nat,h2,g7,oB_s,hy.1,hz.1,qbu4 y z hy,g4,g5,List.any_cons]
        cases qbm y z<;>simp
     unfold qgn chkR
     simp only[h6,decide_true,cond_t,ixB_nat,h2,oB_s,hy.1,qwo,qb20 y hy,inner,h5]
     rw[show l.take i++[y]=l.take (l.length-r.length) by rw[e2];exact(qbz1 h2).symm]
     rw[show qc0 (gB y.cells 0) (gI y.cells 1) (gI y.cells 2) (gI y.cells 3)=qpx y from rfl]
     have fin:(bif(l.take i).any (qbm y)then some (24:Int)else some (chkR (l.take (l.length-r.length)) r))=some (bif((bif(l.take i).any (qbm y)then(24:Int)else 0) != 0)then(bif(l.take i).any (qbm y)then(24:Int)else 0)else chkR (l.take (l.length-r.length)) r):=by
      cases(l.take i).any (qbm y)<;>simp
     unfold q2p
     cases qpx y with
     |false=>simp
     |true=>
      cases mayB y with
      |false=>simp
      |true=>
       simp only[Bool.not_true,cond_f,q7y,qkd,q70,qke]
       cases i with
       |zero=>
        have e0:∀q,qpy (l.take 0) q=false:=fun q=>by simp[qpy]
        simp only[e0,cond_f,Int.natCast_zero,Int.lt_irrefl,gt_iff_lt,decide_false]
        exact fin
       |succ i=>
        have hpos:((i+1:Nat):Int)>0:=by omega
        have hw:IntKind.i64.wrap (((i+1:Nat):Int)-1)=(i:Int):=by rw[w64 (by omega) (by have:=hl.1;omega)];omega
        obtain⟨x,hx⟩:∃x,l[i]?=some x:=⟨l[i],by simp⟩
        have hxf:=hl.2 x (List.mem_of_getElem? hx)
        have e0:∀q,qpy (l.take (i+1)) q=q x:=fun q=>by unfold qpy;rw[q58 (by omega),hx]
        simp only[hpos,decide_true,cond_t,hw,ixB_nat,hx,h2,oB_s,hxf.1,hy.1,qbzz,e0]
        rw[show cmpP (gB x.cells 0) (gI x.cells 1) (gI x.cells 2) (gI x.cells 3) (gB y.cells 0) (gI y.cells 1) (gI y.cells 2) (gI y.cells 3)=cmpY x y from rfl]
        rw[show((gB x.cells 0==gB y.cells 0)&&((gI x.cells 1==gI y.cells 1)&&((gI x.cells 2==gI y.cells 2)&&((gI x.cells 3==gI y.cells 3)&&true))))=samP x y from rfl]
        cases decide (cmpY x y>0)with
        |true=>simp
        |false=>
         cases samP x y with
         |true=>simp
         |false=>
          simp only[cond_f]
          exact fin
theorem qbr1:∀(r pre:LA),chkR pre r=0↔∀(i:Nat) (y:AV),r[i]?=some y->q2p (pre++r.take i) y=0
 |[],pre=>by simp[chkR]
 |y::r,pre=>by
  unfold chkR
  by_cases he:q2p pre y=0
  · have he2:(q2p pre y != 0)=false:=by simpa using he
    rw[he2,cond_f,qbr1 r (pre++[y])]
    constructor
    · intro h i z hz
      cases i with
      |zero=>simp at hz;subst hz;simpa using he
      |succ i=>
       have:=h i z (by simpa using hz)
       simpa using this
    · intro h i z hz
      have:=h (i+1) z (by simpa using hz)
      simpa using this
  · have he2:(q2p pre y != 0)=true:=by simpa using he
    rw[he2,cond_t]
    constructor
    · intro h;exact absurd h he
    · intro h;exact absurd (by simpa using h 0 y rfl) he
theorem qbr2 {l:LA}(hlen:l.length<=512):qs1 l=0↔qdx l:=by
 unfold qs1
 have h0:¬(l.length:Int)>512:=by omega
 simp only[h0,decide_false,cond_f]
 rw[qbr1]
 simp only[List.nil_append]
 have hs:∀x y:AV,(cmpY x y>0\/samP x y=true)↔¬ltY x y:=fun x y=>by
  obtain⟨_,_,s3⟩:=qoq x y
  rw[qbb1,<-s3]
  omega
 constructor
 · intro h j y hy
   obtain⟨h1,h2,h3,h4,h5⟩:=qbov.1 (h j y hy)
   have hjl:j<l.length:=(List.getElem?_eq_some_iff.1 hy).1
   refine⟨h1,h2,fun i z hj hz=> ?_,fun k z hk hz=> ?_⟩
   · subst hj
     unfold qpy at h3 h4
     rw[q58 (by omega),hz]at h3 h4
     simp only[decide_eq_false_iff_not]at h3
     apply Classical.byContradiction
     intro hn
     rcases(hs z y).2 hn with h|h
     · exact h3 h
     · have h4':samP z y=false:=h4
       rw[h]at h4';cases h4'
   · rw[List.any_eq_false]at h5
     have:=h5 z (List.mem_of_getElem? (i:=k) (by rw[List.getElem?_take,if_pos hk];exact hz))
     simpa using this
 · intro h j y hy
   have hr:=h j y hy
   have hjl:j<l.length:=(List.getElem?_eq_some_iff.1 hy).1
   refine qbov.2 ⟨hr.p,hr.may,?_,?_,?_⟩
   · cases j with
     |zero=>simp[qpy]
     |succ i=>
      obtain⟨x,hx⟩:∃x,l[i]?=some x:=⟨l[i],by simp⟩
      unfold qpy
      rw[q58 (by omega),hx]
      simp only[decide_eq_false_iff_not]
      exact fun hc=>(hs x y).1 (.inl hc) (hr.lt i x rfl hx)
   · cases j with
     |zero=>simp[qpy]
     |succ i=>
      obtain⟨x,hx⟩:∃x,l[i]?=some x:=⟨l[i],by simp⟩
      unfold qpy
      rw[q58 (by omega),hx]
      simp only
      rw[Bool.eq_false_iff]
      exact fun hc=>(hs x y).1 (.inr hc) (hr.lt i x rfl hx)
   · rw[List.any_eq_false]
     intro z hz
     obtain⟨k,hk⟩:=List.getElem?_of_mem hz
     rw[List.getElem?_take]at hk
     split at hk
     · rename_i hkj
       have:=hr.bar k z hkj hk
       simp[this]
     · cases hk
def mkB (b0:Bool)(b1 b2 b3 b4:Int)(b5 b6:LU)(b7:Int):AV:=.agg [(.bool b0),(.int .u64 b1),(.int .u64 b2),(.int .i64 b3),(.int .i64 b4),(.str b5),(.str b6),(.int .i64 b7)]
def mkP (b0:Bool)(b1 b2 b3:Int):AV:=.agg [(.bool b0),(.int .u64 b1),(.int .u64 b2),(.int .i64 b3)]
theorem qb6e {cs:LA}(h:fitC qb cs=true):cs=(mkB (gB cs 0) (gI cs 1) (gI cs 2) (gI cs 3) (gI cs 4) (gS cs 5) (gS cs 6) (gI cs 7)).cells:=by
 have:=qtu (ls:=qb) (by decide) h
 exact this.symm
theorem qnb {y:AV}(h:fitC qb y.cells=true):mkB (gB y.cells 0) (gI y.cells 1) (gI y.cells 2) (gI y.cells 3) (gI y.cells 4) (gS y.cells 5) (gS y.cells 6) (gI y.cells 7)=y:=by
 have h1:=qb6e h
 cases y with
 |agg cs=>
  simp only[AV.cells]at h1⊢
  unfold mkB at h1⊢
  simp only[AV.cells]at h1
  rw[<-h1]
 |_=>
  have h2:=congrArg List.length h1
  simp[AV.cells,mkB]at h2
theorem qbz3 {y:AV}(h:fitC qb y.cells=true):blkV y=y:=qnb h
def occF (l:LA)(v:Bool)(hi lo bits:Int):Bool:=l.any fun y=>qd8 (gB y.cells 0) (gI y.cells 1) (gI y.cells 2) (gI y.cells 3) v hi lo bits
theorem qbef {R:Type}(l:LA)(hl:qv l)(a0:Bool)(a1:Int)(a2:Int)(a3:Int)(kr:Int->Bool->Int->Int->Int->Option R)(q:AV->Bool)(hq:∀y,qoj y->∀kr:Bool->Bool->Int->Int->Int->Option R,qt3 (gB y.cells 0) (gI y.cells 1) (gI y.cells 2) (gI y.cells 3) (gI y.cells 4) (gS y.cells 5) (gS y.cells 6) (gI y.cells 7) a0 a1 a2 a3 kr=kr (q y) a0 a1 a2 a3):
 qcb l a0 a1 a2 a3 kr=kr (idxI q l) a0 a1 a2 a3:=by
 rw[qhq];unfold qbn
 rw[qf9]
 have key:=qcq l hl.1 (fun n i (s:Bool×Int×Int×Int)=>qx l (l.length:Int) (fun c0 c1 c2 c3=>kr (-1:Int) c0 c1 c2 c3) kr n i s.1 s.2.1 s.2.2.1 s.2.2.2)
  (fun i s nx=>qw l (l.length:Int) i s.1 s.2.1 s.2.2.1 s.2.2.2 (fun i c0 c1 c2 c3=>nx i (c0,c1,c2,c3)) (fun c0 c1 c2 c3=>kr (-1:Int) c0 c1 c2 c3) kr) (fun _ _ _=>rfl)
  (fun i s=>s=(a0,a1,a2,a3)) (fun r s=>kr (match idxO q r with|some k=>((l.length-r.length+k:Nat):Int)|none=> -1) a0 a1 a2 a3) ?_ ?_ (a0,a1,a2,a3) FU rfl (qcz (by have:=hl.1;omega))
 · refine key.trans ?_
   unfold idxI
   cases idxO q l<;>simp
 · intro s nx hs
   subst hs
   simp[qw,idxO]
 · rintro i y r _ nx h1 h2 h3 h4 rfl h5
   have hy:=hl.2 y (List.mem_of_getElem? h2)
   have h6:(i:Int)<(l.length:Int):=by omega
   have hr:r.length=l.length-(i+1):=by
    have:=congrArg List.length h1
    simp at this
    omega
   unfold qw
   simp only[h6,decide_true,cond_t,ixB_nat,h2,oB_s,hy.1,hq y hy,h4]
   unfold idxO
   cases hqq:q y with
   |true=>
    simp only[cond_t,if_true]
    congr 1
    simp
    omega
   |false=>
    simp only[cond_f,Bool.false_eq_true,if_false]
    rw[h5 _ rfl]
    cases idxO q r with
    |none=>rfl
    |some k=>
     simp
     congr 1
     omega
theorem qbow (l:LA)(hl:qv l)(v:Bool)(hi lo bits:Int):qq5 l v hi lo bits=some (occF l v hi lo bits):=by
 rw[qbeo];unfold qne
 rw[qgb];unfold qbh
 rw[qbef l hl _ _ _ _ _ (fun y=>qd8 (gB y.cells 0) (gI y.cells 1) (gI y.cells 2) (gI y.cells 3) v hi lo bits),qs0]
 · rfl
 · intro z hz kr
   rw[q9t];unfold qla
   simp only[qbu7,oB_s]
theorem qbox (v6:Bool)(hi lo bits:Int)(w6:Bool)(whi wlo wbits:Int)(u1:uok hi)(u2:uok lo):qkt v6 hi lo bits w6 whi wlo wbits=some (qd8 v6 hi lo bits w6 whi wlo wbits):=by
 rw[q7w];unfold qqb qd8
 simp only[q0w _ _ _ _ _ _ _ _ u1 u2,oB_s]
 rw[Bool.and_comm]
theorem qb1p (l:LA)(hl:qv l)(v:Bool)(hi lo bits:Int):qy4 l v hi lo bits=some (occF l v hi lo bits):=by
 rw[qbjn];unfold qpm
 rw[qbaq,qf2 l hl.1 (qh2 l v hi lo bits fun _=>some false) (fun i nx=>qh1 l i v hi lo bits nx fun _=>some false) (fun _ _=>rfl) (fun r=>some (occF r v hi lo bits))]
 · intro nx;simp[qh1,occF]
 · intro i y r nx h1 h2 h3 h4 h5
   have hy:=hl.2 y (List.mem_of_getElem? h2)
   have h6:(i:Int)<(l.length:Int):=by omega
   unfold qh1
   simp only[h6,decide_true,cond_t,ixB_nat,h2,oB_s,hy.1,qbox _ _ _ _ _ _ _ _ hy.2.1 hy.2.2.1,h4,h5]
   unfold occF
   rw[List.any_cons]
   cases qd8 (gB y.cells 0) (gI y.cells 1) (gI y.cells 2) (gI y.cells 3) v hi lo bits<;>simp
def insF (b:AV):List AV->List AV
 |[]=>[b]
 |y::r=>bif decide (cmpY y b>0)then b::y::r else y::insF b r
theorem q0x (b y:AV)(r:LA):insF b (y::r)=bif decide (cmpY y b>0)then b::y::r else y::insF b r:=rfl
theorem qbl8 (b:AV):∀l,(insF b l).length=l.length+1
 |[]=>rfl
 |y::r=>by unfold insF;cases decide (cmpY y b>0)<;>simp[qbl8 b r]
theorem qs2 {b y:AV}:∀{l:LA},y∈insF b l↔y=b\/y∈l
 |[]=>by simp[insF]
 |z::r=>by
  unfold insF
  cases decide (cmpY z b>0)
  · simp only[cond_f,List.mem_cons,qs2 (l:=r)]
    constructor
    · rintro(h|h|h)
      · exact .inr (.inl h)
      · exact .inl h
      · exact .inr (.inr h)
    · rintro(h|h|h)
      · exact .inr (.inl h)
      · exact .inl h
      · exact .inr (.inr h)
  · simp
theorem qbu9 (b:AV):∀l,insF b l=l.take ((idxO (fun y=>decide (cmpY y b>0)) l).getD l.length)++[b]++l.drop ((idxO (fun y=>decide (cmpY y b>0)) l).getD l.length)
 |[]=>rfl
 |y::r=>by
  unfold insF idxO
  have ih:=qbu9 b r
  cases h:decide (cmpY y b>0)with
  |true=>simp
  |false=>
   simp only[cond_f,Bool.false_eq_true,if_false]
   rw[ih]
   cases idxO (fun y=>decide (cmpY y b>0)) r<;>simp
theorem qbjx {R:Type}(l:LA)(hl:qv l)(a0:Bool)(a1:Int)(a2:Int)(a3:Int)(a4:Int)(a5:LU)(a6:LU)(a7:Int)(kr:Int->Bool->Int->Int->Int->Int->List UInt8->List UInt8->Int->Option R)(q:AV->Bool)(hq:∀y,qoj y->∀kr:Bool->Bool->Int->Int->Int->Int->List UInt8->List UInt8->Int->Option R,qwy (gB y.cells 0) (gI y.cells 1) (gI y.cells 2) (gI y.cells 3) (gI y.cells 4) (gS y.cells 5) (gS y.cells 6) (gI y.cells 7) a0 a1 a2 a3 a4 a5 a6 a7 kr=kr (q y) a0 a1 a2 a3 a4 a5 a6 a7):
 qcd l a0 a1 a2 a3 a4 a5 a6 a7 kr=kr (idxI q l) a0 a1 a2 a3 a4 a5 a6 a7:=by
 rw[qh7];unfold qbr
 rw[qhc]
 have key:=qcq l hl.1 (fun n i (s:Bool×Int×Int×Int×Int×(List UInt8)×(List UInt8)×Int)=>qz l (l.length:Int) (fun c0 c1 c2 c3 c4 c5 c6 c7=>kr (-1:Int) c0 c1 c2 c3 c4 c5 c6 c7) kr n i s.1 s.2.1 s.2.2.1 s.2.2.2.1 s.2.2.2.2.1 s.2.2.2.2.2.1 s.2.2.2.2.2.2.1 s.2.2.2.2.2.2.2)
  (fun i s nx=>qy l (l.length:Int) i s.1 s.2.1 s.2.2.1 s.2.2.2.1 s.2.2.2.2.1 s.2.2.2.2.2.1 s.2.2.2.2.2.2.1 s.2.2.2.2.2.2.2 (fun i c0 c1 c2 c3 c4 c5 c6 c7=>nx i (c0,c1,c2,c3,c4,c5,c6,c7)) (fun c0 c1 c2 c3 c4 c5 c6 c7=>kr (-1:Int) c0 c1 c2 c3 c4 c5 c6 c7) kr) (fun _ _ _=>rfl)
  (fun i s=>s=(a0,a1,a2,a3,a4,a5,a6,a7)) (fun r s=>kr (match idxO q r with|some k=>((l.length-r.length+k:Nat):Int)|none=> -1) a0 a1 a2 a3 a4 a5 a6 a7) ?_ ?_ (a0,a1,a2,a3,a4,a5,a6,a7) FU rfl (qcz (by have:=hl.1;omega))
 · refine key.trans ?_
   unfold idxI
   cases idxO q l<;>simp
 · intro s nx hs
   subst hs
   simp[qy,idxO]
 · rintro i y r _ nx h1 h2 h3 h4 rfl h5
   have hy:=hl.2 y (List.mem_of_getElem? h2)
   have h6:(i:Int)<(l.length:Int):=by omega
   have hr:r.length=l.length-(i+1):=by
    have:=congrArg List.length h1
    simp at this
    omega
   unfold qy
   simp only[h6,decide_true,cond_t,ixB_nat,h2,oB_s,hy.1,hq y hy,h4]
   unfold idxO
   cases hqq:q y with
   |true=>
    simp only[cond_t,if_true]
    congr 1
    simp
    omega
   |false=>
    simp only[cond_f,Bool.false_eq_true,if_false]
    rw[h5 _ rfl]
    cases idxO q r with
    |none=>rfl
    |some k=>
     simp
     congr 1
     omega
theorem qb1q (l:LA)(hl:qv l)(hn:l.length<=100000)(b0:Bool)(b1 b2 b3 b4:Int)(b5 b6:LU)(b7:Int):q06 l b0 b1 b2 b3 b4 b5 b6 b7=some (insF (mkB b0 b1 b2 b3 b4 b5 b6 b7) l):=by
 rw[qbkt];unfold qq6
 rw[qbjx l hl _ _ _ _ _ _ _ _ _ (fun y=>decide (cmpY y (mkB b0 b1 b2 b3 b4 b5 b6 b7)>0))]
 · have hc:qr l=some l:=by
    unfold qr q0t
    have:l.length*80<=140737488355328:=by omega
    simp[this]
   rw[qbcs];unfold ql3
   have fin:∀k:Nat,k<=l.length->qoi 80 l (k:Int) [mkB b0 b1 b2 b3 b4 b5 b6 b7]=some (l.take k++[mkB b0 b1 b2 b3 b4 b5 b6 b7]++l.drop k):=fun k hk=>by
    unfold qoi
    have:(l.length+1)*80<=140737488355328:=by omega
    simp[hk,this]
   show(bif decide (idxI (fun y=>decide (cmpY y (mkB b0 b1 b2 b3 b4 b5 b6 b7)>0)) l<0)then(oB (qr l) fun r11=>(bif hd r11 r11.length then(bif hd [mkB b0 b1 b2 b3 b4 b5 b6 b7] ([mkB b0 b1 b2 b3 b4 b5 b6 b7].length)then(oB (qoi 80 r11 (l.length:Int) [mkB b0 b1 b2 b3 b4 b5 b6 b7]) fun r12=>(bif hd r12 r12.length then(some r12)else none))else none)else none))else(oB (qr l) fun r11=>(bif hd r11 r11.length then(bif hd [mkB b0 b1 b2 b3 b4 b5 b6 b7] ([mkB b0 b1 b2 b3 b4 b5 b6 b7].length)then(oB (qoi 80 r11 (idxI (fun y=>decide (cmpY y (mkB b0 b1 b2 b3 b4 b5 b6 b7)>0)) l) [mkB b0 b1 b2 b3 b4 b5 b6 b7]) fun r12=>(bif hd r12 r12.length then(some r12)else none))else none)else none)))=_
   rw[qbu9,hc]
   unfold idxI
   cases hq:idxO (fun y=>decide (cmpY y (mkB b0 b1 b2 b3 b4 b5 b6 b7)>0)) l with
   |none=>
    simp only[oB_s,hd_self,cond_t,Option.getD_none]
    rw[fin l.length (Nat.le_refl _)]
    simp
   |some k=>
    obtain⟨y,hy,_⟩:=qm7 l k hq
    have hk:=(List.getElem?_eq_some_iff.1 hy).1
    have h0:¬((k:Int)<0):=by omega
    simp only[oB_s,hd_self,cond_t,h0,decide_false,cond_f,Option.getD_some]
    rw[fin k (by omega)]
    simp
 · intro z hz kr
   rw[qbeq];unfold qnf
   simp only[qb5d,oB_s]
   rfl
theorem q4o {R:Type}{a:LA}(x:AV)(h:(a.length+1)*80<=140737488355328)(k:Option R):(bif decide ((a.length+([x]:List AV).length)*80<=140737488355328)then k else none)=k:=by
 rw[show([x]:List AV).length=1 from rfl,decide_eq_true h];rfl
theorem qb34 (l:LA)(d:Bool)(i:Nat)(b0:Bool)(b1 b2 b3 b4:Int)(b5 b6:LU)(b7:Int)(a:LA)(kn:Bool->List AV->Option (List AV)){y:AV}(hy:l[i]?=some y)(hf:fitC qb y.cells=true)(ha:(a.length+1)*80<=140737488355328):
 qvr l d (i:Int) b0 b1 b2 b3 b4 b5 b6 b7 a kn=bif(!d&&decide (cmpY y (mkB b0 b1 b2 b3 b4 b5 b6 b7)>0))then kn true (a++[mkB b0 b1 b2 b3 b4 b5 b6 b7])else kn d a:=by
 rw[qbdw];unfold qms
 rw[qbdu];unfold qmr
 simp only[hd_self,Bool.and_self,cond_t,ixB_nat,hy,oB_s,hf,qbzz]
 rw[show decide (cmpP (gB y.cells 0) (gI y.cells 1) (gI y.cells 2) (gI y.cells 3) b0 b1 b2 b3>0)=decide (cmpY y (mkB b0 b1 b2 b3 b4 b5 b6 b7)>0)from rfl]
 rw[q4o _ ha]
 cases d<;>cases decide (cmpY y (mkB b0 b1 b2 b3 b4 b5 b6 b7)>0)<;>rfl
theorem qb1r (l:LA)(d:Bool)(i:Nat)(b0:Bool)(b1 b2 b3 b4:Int)(b5 b6:LU)(b7:Int)(a:LA)(nx:Bool->Int->List AV->Option (List AV))(kx:Bool->List AV->Option (List AV)){y:AV}(hy:l[i]?=some y)(hf:fitC qb y.cells=true)(hl:l.length<=100000)(ha:(a.length+2)*80<=140737488355328):
 qft l d (i:Int) b0 b1 b2 b3 b4 b5 b6 b7 a nx kx=bif(!d&&decide (cmpY y (mkB b0 b1 b2 b3 b4 b5 b6 b7)>0))then nx true ((i+1:Nat):Int) (a++[mkB b0 b1 b2 b3 b4 b5 b6 b7]++[y])else nx d ((i+1:Nat):Int) (a++[y]):=by
 have hi:=(List.getElem?_eq_some_iff.1 hy).1
 have h6:(i:Int)<(l.length:Int):=by omega
 have h4:IntKind.i64.wrap ((i:Int)+1)=((i+1:Nat):Int):=w64 (by omega) (by omega)
 have hyy:=qnb hf
 unfold mkB at hyy
 unfold qft
 rw[qb34 l d i b0 b1 b2 b3 b4 b5 b6 b7 a _ hy hf (by omega),decide_eq_true h6]
 simp only[cond_t,hd_self,Bool.and_self,ixB_nat,hy,oB_s,hf,h4,hyy]
 rw[q4o y (a:=a) (by omega),q4o y (a:=a++[mkB b0 b1 b2 b3 b4 b5 b6 b7]) (by simp;omega)]
theorem qb5e (l:LA)(hl:qv l)(hn:l.length<=100000)(b0:Bool)(b1 b2 b3 b4:Int)(b5 b6:LU)(b7:Int):q3w l b0 b1 b2 b3 b4 b5 b6 b7=some (insF (mkB b0 b1 b2 b3 b4 b5 b6 b7) l):=by
 rw[qbm7];unfold qtn
 simp only[qqe,List.length_nil,Bool.and_self,cond_t]
 rw[qbdx]
 have fin:∀(kx:Bool->List AV->Option (List AV)),(∀d a,a.length<=200000->kx d a=some (bif d then a else a++[mkB b0 b1 b2 b3 b4 b5 b6 b7]))->
  qfu l b0 b1 b2 b3 b4 b5 b6 b7 kx FU false 0 []=some (insF (mkB b0 b1 b2 b3 b4 b5 b6 b7) l):=by
  intro kx hkx
  have key:=qcq (σ:=Bool×List AV) l hl.1 (fun n i s=>qfu l b0 b1 b2 b3 b4 b5 b6 b7 kx n s.1 i s.2) (fun i s nx=>qft l s.1 i b0 b1 b2 b3 b4 b5 b6 b7 s.2 (fun d i a=>nx i (d,a)) kx) (fun _ _ _=>rfl)
   (fun i s=>s.2.length<=2*i) (fun r s=>some (s.2++(bif s.1 then r else insF (mkB b0 b1 b2 b3 b4 b5 b6 b7) r))) ?_ ?_ (false,[]) FU (by simp) (qcz (by have:=hl.1;omega))
  · simpa using key
  · rintro⟨d,a⟩ nx hJ
    simp only at hJ⊢
    unfold qft
    simp only[Int.lt_irrefl,decide_false,cond_f]
    rw[hkx d a (by omega)]
    cases d<;>simp[insF]
  · rintro i y r ⟨d,a⟩ nx h1 h2 h3 h4 hJ h5
    have hy:=hl.2 y (List.mem_of_getElem? h2)
    simp only at hJ⊢
    rw[qb1r l d i b0 b1 b2 b3 b4 b5 b6 b7 a _ kx h2 hy.1 hn (by omega)]
    have e1:=h5 (true,a++[mkB b0 b1 b2 b3 b4 b5 b6 b7]++[y]) (by simp;omega)
    have e2:=h5 (d,a++[y]) (by simp;omega)
    simp only at e1 e2
    rw[e1,e2]
    rw[q0x]
    cases d<;>cases decide (cmpY y (mkB b0 b1 b2 b3 b4 b5 b6 b7)>0)<;>simp
 refine fin _ fun d a ha=> ?_
 cases d
 · simp only[Bool.not_false,cond_t,hd_self,cond_f]
   rw[q4o _ (by omega)]
   rfl
 · simp
def remF (l:LA)(v:Bool)(hi lo bits:Int):List AV:=l.filter fun y=> !atP v hi lo bits y
theorem qbya (l:LA)(hl:qv l)(hn:l.length<=100000)(v:Bool)(hi lo bits:Int):qvt l v hi lo bits=some (remF l v hi lo bits):=by
 rw[qbd0];unfold qmt
 simp only[qqe,List.length_nil,Bool.and_self,cond_t]
 rw[q6s]
 have key:=qcq (σ:=List AV) l hl.1 (fun n i s=>qfw l v hi lo bits (fun a0q1=>bif hd a0q1 a0q1.length then some a0q1 else none) n i s) (fun i s nx=>qfv l i v hi lo bits s nx (fun a0q1=>bif hd a0q1 a0q1.length then some a0q1 else none)) (fun _ _ _=>rfl)
  (fun i s=>s.length<=i) (fun r s=>some (s++remF r v hi lo bits)) ?_ ?_ [] FU (by simp) (qcz (by have:=hl.1;omega))
 · simpa using key
 · intro a nx hJ;simp[qfv,remF]
 · intro i y r a nx h1 h2 h3 h4 hJ h5
   have hy:=hl.2 y (List.mem_of_getElem? h2)
   have h6:(i:Int)<(l.length:Int):=by omega
   have hyy:=qnb hy.1
   unfold mkB at hyy
   have g1:(a.length+1)*80<=140737488355328:=by omega
   unfold qfv
   simp only[h6,decide_true,cond_t,hd_self,ixB_nat,h2,oB_s,hy.1,h4,hyy,List.length_cons,List.length_nil,Nat.zero_add,g1]
   rw[show((gB y.cells 0==v)&&((gI y.cells 1==hi)&&((gI y.cells 2==lo)&&((gI y.cells 3==bits)&&true))))=atP v hi lo bits y from rfl]
   unfold remF
   cases hq:atP v hi lo bits y with
   |true=>
    simp only[Bool.not_true,cond_f]
    rw[h5 a (by omega)]
    simp[hq,remF]
   |false=>
    simp only[Bool.not_false,cond_t,hd_one]
    rw[h5 (a++[y]) (by simp;omega)]
    simp[hq,remF]
theorem qboy {q:AV->Bool}:∀(l:LA) (k:Nat),idxO q l=some k->(∀(j:Nat) (y:AV),k<j->l[j]?=some y->q y=false)->l.take k++l.drop (k+1)=l.filter fun y=> !q y
 |[],k,h,_=>by simp[idxO]at h
 |y::r,k,h,hu=>by
  unfold idxO at h
  cases hq:q y with
  |true=>
   simp[hq]at h
   subst h
   simp only[List.take_zero,List.drop_succ_cons,List.drop_zero,List.nil_append]
   rw[List.filter_cons,hq]
   simp only[Bool.not_true,Bool.false_eq_true,if_false]
   refine(List.filter_eq_self.2 fun z hz=> ?_).symm
   obtain⟨j,hj⟩:=List.getElem?_of_mem hz
   rw[hu (j+1) z (by omega) (by simpa using hj)];rfl
  |false=>
   simp[hq]at h
   obtain⟨k',h1,rfl⟩:=h
   have ih:=qboy r k' h1 (fun j z hj hz=>hu (j+1) z (by omega) (by simpa using hz))
   rw[List.filter_cons,hq]
   simp only[Bool.not_false,if_true,List.take_succ_cons,List.drop_succ_cons,List.cons_append]
   rw[ih]
theorem qdx.uniq {l:LA}(h:qdx l){v:Bool}{hi lo bits:Int}{i j:Nat}{y z:AV}(hy:l[i]?=some y)(hz:l[j]?=some z)(h1:atP v hi lo bits y=true)(h2:atP v hi lo bits z=true):i=j:=by
 have key:∀{i j:Nat} {y z:AV},l[i]?=some y->l[j]?=some z->atP v hi lo bits y=true->atP v hi lo bits z=true->¬i<j:=fun hy hz h1 h2 hij=>by
  have:=h.sorted _ _ hy _ _ hij hz
  obtain⟨a,b,c,d⟩:=qol.1 h1
  obtain⟨a',b',c',d'⟩:=qol.1 h2
  unfold ltY at this
  rw[a,b,c,d,a',b',c',d']at this
  exact qir this
 have a:=key hy hz h1 h2
 have b:=key hz hy h2 h1
 omega
theorem qbz4 (l:LA)(hn:l.length<=100000)(k:Nat)(hk:k<l.length):qtc l (k:Int)=some (l.take k++l.drop (k+1)):=by
 rw[qbik];unfold qox
 have hc:qr l=some l:=by
  unfold qr q0t
  have:l.length*80<=140737488355328:=by omega
  simp[this]
 have hw:IntKind.i64.wrap ((k:Int)+1)=((k+1:Nat):Int):=w64 (by omega) (by omega)
 have hd':qwn l (k:Int) ((k+1:Nat):Int)=some (l.take k++l.drop (k+1)):=by
  unfold qwn
  have:((0:Int)<=(k:Int)/\(k:Int)<((k+1:Nat):Int)/\((k+1:Nat):Int)<=(l.length:Int)/\l.length<=9223372036854775807):=⟨by omega,by omega,by omega,by omega⟩
  simp only[this,and_self,decide_true,cond_t,Int.toNat_natCast]
 simp only[hc,oB_s,hd_self,cond_t,hw,hd']
theorem qbyb (l:LA)(hn:l.length<=100000)(ht:qdx l){v:Bool}{hi lo bits:Int}{k:Nat}(hk:idxO (atP v hi lo bits) l=some k):qtc l (k:Int)=some (remF l v hi lo bits):=by
 obtain⟨y,hy,hf⟩:=qm7 l k hk
 rw[qbz4 l hn k (List.getElem?_eq_some_iff.1 hy).1]
 congr 1
 have hq:=List.find?_some hf
 refine qboy l k hk fun j z hj hz=> ?_
 rw[Bool.eq_false_iff]
 intro h2
 have:=ht.uniq hy hz hq h2
 omega
def qdd (l:LA)(v:Bool)(hi lo bits:Int):List AV×Int:=
 bif !(l.any (atP v hi lo bits))then([],11)else bif occF l v hi lo bits then([],25)else(remF l v hi lo bits,0)
theorem qb35 (q:AV->Bool)(l:LA):decide (idxI q l<0)= !(l.any q):=by
 rw[<-qs0,Bool.eq_iff_iff]
 simp
theorem qb36 {q:AV->Bool}{l:LA}(h:l.any q=true):∃k,idxO q l=some k/\idxI q l=(k:Int):=by
 rw[<-qs0]at h
 unfold idxI at*
 cases hq:idxO q l with
 |none=>rw[hq]at h;simp at h
 |some k=>exact⟨k,rfl,rfl⟩
theorem qb1s (l:LA)(hl:qv l)(hn:l.length<=100000)(ht:qdx l)(v:Bool)(hi lo bits:Int):q07 l v hi lo bits=some (qdd l v hi lo bits):=by
 rw[qbkw];unfold qq7 qdd
 simp only[qbl7 l hl,oB_s,qbow l hl,qb35]
 cases ha:l.any (atP v hi lo bits)with
 |false=>rfl
 |true=>
  obtain⟨k,h1,h2⟩:=qb36 ha
  simp only[Bool.not_true,cond_f]
  cases occF l v hi lo bits with
  |true=>rfl
  |false=>
   simp only[cond_f,h2,qbyb l hn ht h1,oB_s]
theorem qbr3 (l:LA)(v:Bool)(hi lo bits:Int):(qn6 l v hi lo bits).2=l.any (atP v hi lo bits):=by
 unfold qn6
 cases hf:l.find? (atP v hi lo bits)with
 |none=>
  simp only
  symm
  rw[List.any_eq_false]
  intro y hy
  simpa using List.find?_eq_none.1 hf y hy
 |some y=>
  simp only
  symm
  rw[List.any_eq_true]
  exact⟨y,List.mem_of_find?_eq_some hf,List.find?_some hf⟩
theorem qbz5 (l:LA)(hl:qv l)(hn:l.length<=100000)(v:Bool)(hi lo bits:Int):qxl l v hi lo bits=some (qdd l v hi lo bits):=by
 rw[qbf3];unfold qnx qdd
 simp only[q9m l hl,oB_s,qb1p l hl,qbr3,qbya l hl hn]
 cases l.any (atP v hi lo bits)<;>simp<;>cases occF l v hi lo bits<;>simp
def addF (l:LA)(b:AV):List AV×Int:=
 bif !qpx b then([],3)else bif !mayB b then([],1)else bif l.any (atP (gB b.cells 0) (gI b.cells 1) (gI b.cells 2) (gI b.cells 3))then([],12)else
 bif l.any (qbm b)||occF l (gB b.cells 0) (gI b.cells 1) (gI b.cells 2) (gI b.cells 3)then([],24)else bif decide ((l.length:Int)>=512)then([],9)else(insF b l,0)
theorem qdx.may {l:LA}(ht:qdx l){y:AV}(hy:y∈l):mayB y=true:=by
 obtain⟨j,hj⟩:=List.getElem?_of_mem hy
 exact(ht j y hj).may
theorem qdx.mis {l:LA}(ht:qdx l)(b:AV):l.any (misY b)=l.any (qbm b):=by
 rw[Bool.eq_iff_iff,List.any_eq_true,List.any_eq_true]
 constructor<;>(rintro⟨z,hz,hb⟩;refine⟨z,hz,?_⟩;simpa[qb33 (ht.may hz)]using hb)
theorem qb21 (l:LA)(hl:qv l)(hn:l.length<=100000)(ht:qdx l)(b0:Bool)(b1 b2 b3 b4:Int)(b5 b6:LU)(b7:Int)(hb:qoj (mkB b0 b1 b2 b3 b4 b5 b6 b7)):q2a l b0 b1 b2 b3 b4 b5 b6 b7=some (addF l (mkB b0 b1 b2 b3 b4 b5 b6 b7)):=by
 have h1:qwx b0 b1 b2 b3 b4 b5 b6 b7=some (qbou (mkB b0 b1 b2 b3 b4 b5 b6 b7)):=qb32 (mkB b0 b1 b2 b3 b4 b5 b6 b7) hb
 have h2:qou l b0 b1 b2 b3 b4 b5 b6 b7=some (l.any (misY (mkB b0 b1 b2 b3 b4 b5 b6 b7))):=qbwf l hl (mkB b0 b1 b2 b3 b4 b5 b6 b7)
 rw[qbsp];unfold qwz addF
 simp only[h1,oB_s,qbij,qow,h2,qbl7 l hl,qs0,qbow l hl,qb1q l hl hn,ht.mis]
 rw[show(gB (mkB b0 b1 b2 b3 b4 b5 b6 b7).cells 0)=b0 from rfl,show(gI (mkB b0 b1 b2 b3 b4 b5 b6 b7).cells 1)=b1 from rfl,show(gI (mkB b0 b1 b2 b3 b4 b5 b6 b7).cells 2)=b2 from rfl,show(gI (mkB b0 b1 b2 b3 b4 b5 b6 b7).cells 3)=b3 from rfl]
 unfold qbou
 cases qpx (mkB b0 b1 b2 b3 b4 b5 b6 b7)with
 |false=>rfl
 |true=>
  cases mayB (mkB b0 b1 b2 b3 b4 b5 b6 b7)with
  |false=>rfl
  |true=>
   simp only[Bool.not_true,cond_f,bne_self_eq_false]
   cases l.any (atP b0 b1 b2 b3)<;>cases l.any (qbm (mkB b0 b1 b2 b3 b4 b5 b6 b7))<;>cases occF l b0 b1 b2 b3<;>cases decide ((l.length:Int)>=512)<;>rfl
theorem qbva (l:LA)(hl:qv l)(hn:l.length<=100000)(b0:Bool)(b1 b2 b3 b4:Int)(b5 b6:LU)(b7:Int)(hb:qoj (mkB b0 b1 b2 b3 b4 b5 b6 b7)):qxk l b0 b1 b2 b3 b4 b5 b6 b7=some (addF l (mkB b0 b1 b2 b3 b4 b5 b6 b7)):=by
 have h1:qsg b0 b1 b2 b3 b4 b5 b6 b7=some (mayB (mkB b0 b1 b2 b3 b4 b5 b6 b7)):=qb20 (mkB b0 b1 b2 b3 b4 b5 b6 b7) hb
 have h2:∀z,qmh b0 b1 b2 b3 b4 b5 b6 b7 (gB z.cells 0) (gI z.cells 1) (gI z.cells 2) (gI z.cells 3) (gI z.cells 4) (gS z.cells 5) (gS z.cells 6) (gI z.cells 7)=some (qbm (mkB b0 b1 b2 b3 b4 b5 b6 b7) z):=fun z=>qbu4 (mkB b0 b1 b2 b3 b4 b5 b6 b7) z hb
 rw[qbm8];unfold qto addF
 have lp:∀kx:Unit->Option (List AV×Int),qvs l b0 b1 b2 b3 b4 b5 b6 b7 kx FU 0=bif l.any (fun z=>qbm (mkB b0 b1 b2 b3 b4 b5 b6 b7) z||qd8 (gB z.cells 0) (gI z.cells 1) (gI z.cells 2) (gI z.cells 3) b0 b1 b2 b3)then some ([],24)else kx ():=by
  intro kx
  rw[qbdy,qf2 l hl.1 (qi4 l b0 b1 b2 b3 b4 b5 b6 b7 kx) (fun i nx=>qi3 l i b0 b1 b2 b3 b4 b5 b6 b7 nx kx) (fun _ _=>rfl) (fun r=>bif r.any (fun z=>qbm (mkB b0 b1 b2 b3 b4 b5 b6 b7) z||qd8 (gB z.cells 0) (gI z.cells 1) (gI z.cells 2) (gI z.cells 3) b0 b1 b2 b3)then some ([],24)else kx ())]
  · intro nx;simp[qi3]
  · intro i y r nx g1 g2 g3 g4 g5
    have hy:=hl.2 y (List.mem_of_getElem? g2)
    have g6:(i:Int)<(l.length:Int):=by omega
    unfold qi3
    simp only[g6,decide_true,cond_t,ixB_nat,g2,oB_s,hy.1,h2,qbox _ _ _ _ _ _ _ _ hy.2.1 hy.2.2.1,g4,g5,List.any_cons]
    cases qbm (mkB b0 b1 b2 b3 b4 b5 b6 b7) y<;>cases qd8 (gB y.cells 0) (gI y.cells 1) (gI y.cells 2) (gI y.cells 3) b0 b1 b2 b3<;>simp
 simp only[qwo,oB_s,h1,q9m l hl,qbr3,lp,qb5e l hl hn]
 rw[show(gB (mkB b0 b1 b2 b3 b4 b5 b6 b7).cells 0)=b0 from rfl,show(gI (mkB b0 b1 b2 b3 b4 b5 b6 b7).cells 1)=b1 from rfl,show(gI (mkB b0 b1 b2 b3 b4 b5 b6 b7).cells 2)=b2 from rfl,show(gI (mkB b0 b1 b2 b3 b4 b5 b6 b7).cells 3)=b3 from rfl]
 rw[show qpx (mkB b0 b1 b2 b3 b4 b5 b6 b7)=qc0 b0 b1 b2 b3 from rfl]
 have ho:l.any (fun z=>qbm (mkB b0 b1 b2 b3 b4 b5 b6 b7) z||qd8 (gB z.cells 0) (gI z.cells 1) (gI z.cells 2) (gI z.cells 3) b0 b1 b2 b3)=(l.any (qbm (mkB b0 b1 b2 b3 b4 b5 b6 b7))||occF l b0 b1 b2 b3):=by
  unfold occF
  clear hl hn lp
  induction l with
  |nil=>rfl
  |cons y r ih=>simp only[List.any_cons,ih];cases qbm (mkB b0 b1 b2 b3 b4 b5 b6 b7) y<;>cases qd8 (gB y.cells 0) (gI y.cells 1) (gI y.cells 2) (gI y.cells 3) b0 b1 b2 b3<;>simp
 rw[ho]
 cases qc0 b0 b1 b2 b3<;>simp only[Bool.not_true,Bool.not_false,cond_t,cond_f]
 cases mayB (mkB b0 b1 b2 b3 b4 b5 b6 b7)<;>simp only[Bool.not_true,Bool.not_false,cond_t,cond_f]
 cases l.any (atP b0 b1 b2 b3)<;>simp only[cond_t,cond_f]
 cases(l.any (qbm (mkB b0 b1 b2 b3 b4 b5 b6 b7))||occF l b0 b1 b2 b3)<;>simp only[cond_t,cond_f]
 cases decide ((l.length:Int)>=512)<;>rfl
theorem qbvb {x:Int}(h:uok x):qbi .or .u64 x 0=x:=by
 have:=qbhf h (y:=0) ⟨by omega,by omega⟩ (qz2 h)
 omega
def shl1 (p:Int×Int):Int×Int:=(IntKind.u64.wrap (IntKind.u64.wrap (p.1*2)+IntKind.u64.wrap (p.2.tdiv 9223372036854775808)),IntKind.u64.wrap (p.2*2))
def shlN:Nat->Int×Int->Int×Int
 |0,p=>p
 |n+1,p=>shlN n (shl1 p)
theorem qbr4:∀n,shlN n (0,0)=(0,0)
 |0=>rfl
 |n+1=>by unfold shlN;rw[show shl1 (0,0)=(0,0) by decide];exact qbr4 n
theorem qbqi:∀n:Fin 64,shlN n (0,1)=(0,((2^n.val:Nat):Int)):=by decide+kernel
theorem qbl9:∀n:Fin 64,shlN (n.val+64) (0,1)=(((2^n.val:Nat):Int),0):=by decide+kernel
theorem qb37:∀n:Fin 128,(0<=(shlN n (0,1)).1/\(shlN n (0,1)).1<=18446744073709551615)/\(0<=(shlN n (0,1)).2/\(shlN n (0,1)).2<=18446744073709551615):=by decide+kernel
theorem qb38 {n:Nat}(h:n<128):numP (shlN n (0,1)).1 (shlN n (0,1)).2=2^n:=by
 unfold numP
 rcases Nat.lt_or_ge n 64 with h1|h1
 · rw[qbqi ⟨n,h1⟩]
   show(0:Int).toNat*18446744073709551616+(((2^n:Nat):Int)).toNat=2^n
   rw[Int.toNat_natCast]
   simp
 · obtain⟨j,rfl⟩:∃j,n=j+64:=⟨n-64,by omega⟩
   rw[qbl9 ⟨j,by omega⟩,Nat.pow_add,qbbz]
   show(((2^j:Nat):Int)).toNat*18446744073709551616+(0:Int).toNat=_
   rw[Int.toNat_natCast]
   simp
theorem qb1t (n:Int)(v:Bool)(hi lo bits:Int)(c0:Bool)(c1 c2 c3:Int)(kx:Int->Int->Option (AV×Bool)):∀(k:Nat) (p:Int×Int) (i:Int),-1000<=i->(qi v-i).toNat=k->
 ∀m,k<m->qee n v hi lo bits c0 c1 c2 c3 kx m p.1 p.2 i=kx (shlN k p).1 (shlN k p).2:=by
 intro k
 have hl:=qe8 v
 induction k with
 |zero=>
  intro p i h0 hk m hm
  obtain⟨m,rfl⟩:∃j,m=j+1:=⟨m-1,by omega⟩
  have:¬i<qi v:=by omega
  simp only[qee,qlm,qbhc,oB_s,this,decide_false,cond_f]
  rfl
 |succ k ih=>
  intro p i h0 hk m hm
  obtain⟨m,rfl⟩:∃j,m=j+1:=⟨m-1,by omega⟩
  have:i<qi v:=by omega
  have hw:IntKind.i64.wrap (i+1)=i+1:=w64 (by omega) (by omega)
  simp only[qee,qlm,qbhc,oB_s,this,decide_true,cond_t,hw]
  exact ih (shl1 p) (i+1) (by omega) (by omega) m (by omega)
def qn7:AV:=mkP false 0 0 0
def qj7 (v:Bool)(hi lo bits n:Int):Bool:=qc0 v hi lo bits&&(decide (bits<=n)&&decide (n<=qi v))
theorem qbhj {v:Bool}{hi lo bits n:Int}(h:qj7 v hi lo bits n=true):qc0 v hi lo bits=true/\0<=bits/\bits<=n/\n<=qi v/\n<=128:=by
 unfold qj7 at h
 simp only[Bool.and_eq_true,decide_eq_true_eq]at h
 have h1:=qd7 h.1
 have:=qe8 v
 exact⟨h.1,h1.1,h.2.1,h.2.2,by omega⟩
theorem qb1u {v:Bool}{hi lo bits n i:Int}(c0:Bool)(c1 c2 c3:Int)(kn:Bool->Option (AV×Bool)):qvv n i v hi lo bits c0 c1 c2 c3 kn=kn (!qj7 v hi lo bits n):=by
 rw[qbd5];unfold qmv qj7
 simp only[qwo,qbhc,oB_s]
 have e1:decide (n<bits)= !decide (bits<=n):=by rw[Bool.eq_iff_iff];simp
 have e2:decide (n>qi v)= !decide (n<=qi v):=by rw[Bool.eq_iff_iff];simp
 rw[e1,e2]
 cases qc0 v hi lo bits<;>cases decide (bits<=n)<;>rfl
theorem qbw7 {v:Bool}{hi lo bits n i:Int}:qhk v hi lo bits n i=some (bif !qj7 v hi lo bits n then(qn7,false)else bif decide (i>(qdw (n-bits).toNat).2)then(qn7,false)else
 (mkP v (IntKind.u64.wrap (hi+(shlN (qi v-n).toNat (0,i)).1)) (IntKind.u64.wrap (lo+(shlN (qi v-n).toNat (0,i)).2)) n,true)):=by
 rw[qblq];unfold qrv
 rw[qb1u]
 cases hp:qj7 v hi lo bits n with
 |false=>rfl
 |true=>
  obtain⟨h1,h2,h3,h4,h5⟩:=qbhj hp
  have hw:IntKind.i64.wrap (n-bits)=n-bits:=w64 (by omega) (by omega)
  have hm:(min (n-bits) 128).toNat=(n-bits).toNat:=by congr 1;omega
  simp only[Bool.not_true,cond_f,hw,qbu2,oB_s,hm]
  rw[qbat]
  rw[qb1t n v hi lo bits false 0 0 0 _ _ (0,i) n (by omega) rfl FU (qcz (by have:=qe8 v;omega))]
  cases decide (i>(qdw (n-bits).toNat).2)<;>rfl
theorem qbb3 {v:Bool}{hi lo bits n:Int}(u1:uok hi)(u2:uok lo):qhk v hi lo bits n 0=some (bif qj7 v hi lo bits n then(mkP v hi lo n,true)else(qn7,false)):=by
 rw[qbw7]
 cases hp:qj7 v hi lo bits n with
 |false=>rfl
 |true=>
  obtain⟨h1,h2,h3,h4,h5⟩:=qbhj hp
  have h6:=(qb1m ⟨(n-bits).toNat,by omega⟩).2.1
  have h7:¬(0:Int)>(qdw (n-bits).toNat).2:=by simp only at h6;omega
  rw[qbr4]
  simp only[Bool.not_true,cond_f,h7,decide_false,Int.add_zero,cond_t]
  rw[wu64 u1.1 u1.2,wu64 u2.1 u2.2]
theorem qbvc {v:Bool}{hi lo bits n i:Int}(c0:Bool)(c1 c2 c3:Int)(kn:Bool->Option (AV×Bool)):qyv n i v hi lo bits c0 c1 c2 c3 kn=kn (!qj7 v hi lo bits n):=by
 rw[qbit];unfold qo0 qj7
 simp only[q4n,q4m,oB_s]
 have e1:decide (n<bits)= !decide (bits<=n):=by rw[Bool.eq_iff_iff];simp
 have e2:decide (n>qi v)= !decide (n<=qi v):=by rw[Bool.eq_iff_iff];simp
 rw[e1,e2]
 cases qc0 v hi lo bits<;>cases decide (bits<=n)<;>rfl
theorem qbb4 {v:Bool}{hi lo bits n:Int}(u1:uok hi)(u2:uok lo):qea v hi lo bits n 0=some (bif qj7 v hi lo bits n then(mkP v hi lo n,true)else(qn7,false)):=by
 rw[q7j];unfold qp2
 rw[qbvc]
 cases hp:qj7 v hi lo bits n with
 |false=>rfl
 |true=>
  obtain⟨h1,h2,h3,h4,h5⟩:=qbhj hp
  have hw:IntKind.i64.wrap (n-bits)=n-bits:=w64 (by omega) (by omega)
  have hw2:IntKind.i64.wrap (qi v-n)=qi v-n:=w64 (by have:=qe8 v;omega) (by have:=qe8 v;omega)
  have hu:IntKind.u64.wrap (n-bits)=n-bits:=wu64 (by omega) (by omega)
  have hu2:IntKind.u64.wrap (qi v-n)=qi v-n:=wu64 (by omega) (by have:=qe8 v;omega)
  have a0:¬n-bits<0:=by omega
  simp only[Bool.not_true,cond_f,cond_t,hw,qz5,qju,hu,a0,decide_false,Int.zero_fdiv,bne_self_eq_false,q4m,oB_s,hw2,hu2]
  have fin:(bif decide (n-bits<64)then ql4 n 0 (qi v-n) 0 0 v hi lo bits false 0 0 0 (fun a b=>some (mkP v (qbi .or .u64 hi a) (qbi .or .u64 lo b) n,true))else ql4 n 0 (qi v-n) 0 0 v hi lo bits false 0 0 0 (fun a b=>some (mkP v (qbi .or .u64 hi a) (qbi .or .u64 lo b) n,true)))=some (mkP v hi lo n,true):=by
   have e:ql4 n 0 (qi v-n) 0 0 v hi lo bits false 0 0 0 (fun a b=>some (mkP v (qbi .or .u64 hi a) (qbi .or .u64 lo b) n,true))=some (mkP v hi lo n,true):=by
    rw[qz6];unfold qjv
    have q0:IntKind.u64.wrap 0=0:=by decide
    have hnn:∀x,¬IntKind.u64.wrap x<0:=fun x=>by
     have:0<=IntKind.u64.wrap x:=by simp[IntKind.wrap,IntKind.signed];omega
     omega
    have a1:¬qi v-n<0:=by omega
    simp only[Int.zero_mul,Int.zero_fdiv,q0,hnn,a1,decide_false,cond_f,qbvb u1,qbvb u2]
    cases decide (qi v-n>=64)<;>cases decide (qi v-n>0)<;>rfl
   rw[e];cases decide (n-bits<64)<;>rfl
  exact fin
def qj8 (v:Bool)(hi lo bits:Int):Bool:=qc0 v hi lo bits&&decide (bits<qi v)
def bitP (v:Bool)(bits:Int):Int×Int:=shlN (qi v-bits-1).toNat (0,1)
def lowP (v:Bool)(hi lo bits:Int):AV:=mkP v hi lo (bits+1)
def qx4 (v:Bool)(hi lo bits:Int):AV:=mkP v (qbi .or .u64 hi (bitP v bits).1) (qbi .or .u64 lo (bitP v bits).2) (bits+1)
def qqj (v:Bool)(hi lo bits:Int):AV×AV×Bool:=bif qj8 v hi lo bits then(lowP v hi lo bits,qx4 v hi lo bits,true)else(qn7,qn7,false)
theorem q0y {v:Bool}{hi lo bits:Int}(h:qj8 v hi lo bits=true):qc0 v hi lo bits=true/\0<=bits/\bits<qi v/\bits<128:=by
 unfold qj8 at h
 simp only[Bool.and_eq_true,decide_eq_true_eq]at h
 have:=qe8 v
 exact⟨h.1,(qd7 h.1).1,h.2,by omega⟩
theorem qbvd {v:Bool}{bits:Int}(h0:0<=bits)(h:bits<qi v):uok (bitP v bits).1/\uok (bitP v bits).2:=by
 have:=qe8 v
 exact qb37 ⟨(qi v-bits-1).toNat,by omega⟩
theorem qbhk {v:Bool}{hi lo bits:Int}:qj7 v hi lo bits (IntKind.i64.wrap (bits+1))=qj8 v hi lo bits:=by
 unfold qj7 qj8
 cases hp:qc0 v hi lo bits with
 |false=>rfl
 |true=>
  obtain⟨h1,h2,_⟩:=qd7 hp
  have:=qe8 v
  rw[w64 (by omega) (by omega)]
  simp only[Bool.true_and]
  have:bits<=bits+1:=by omega
  simp[this]
  omega
theorem qbve {v:Bool}{hi lo bits:Int}(h:qj8 v hi lo bits=true)(u1:uok hi)(u2:uok lo):qbi .and .u64 hi (bitP v bits).1=0/\qbi .and .u64 lo (bitP v bits).2=0:=by
 obtain⟨h1,h2,h3,h4⟩:=q0y h
 obtain⟨_,_,_,h5⟩:=(qx3 u1 u2).1 h1
 have hl:=qe8 v
 obtain⟨k,hk⟩:∃k,kOf v bits=k+1:=⟨(qi v-bits-1).toNat,by unfold kOf;omega⟩
 have hk2:(qi v-bits-1).toNat=k:=by unfold kOf at hk;omega
 have hk3:k<128:=by omega
 unfold bitP
 rw[hk2]
 rw[hk]at h5
 obtain⟨a1,a2⟩:=u1
 obtain⟨b1,b2⟩:=u2
 have mask:∀{x:Int} (j:Nat),uok x->j<64->x.toNat%2^(j+1)=0->qbi .and .u64 x ((2^j:Nat):Int)=0:=by
  intro x j hx hj hm
  have hp:(2:Nat)^j<2^64:=Nat.pow_lt_pow_right (by decide) hj
  have h0:0<(2:Nat)^j:=Nat.two_pow_pos j
  rw[qbhd]
  have e1:=q2m hx
  have e2:=q2m (x:=((2^j:Nat):Int)) ⟨by omega,by rw[qbbz]at hp;omega⟩
  rw[BitVec.toNat_and]
  have e3:(BitVec.ofInt 64 x).toNat=x.toNat:=by omega
  have e4:(BitVec.ofInt 64 ((2^j:Nat):Int)).toNat=2^j:=by omega
  rw[e3,e4]
  have:x.toNat.testBit j=false:=by
   rw[Nat.testBit_eq_decide_div_mod_eq]
   have h6:x.toNat / 2^j%2=0:=by
    rw[Nat.pow_succ,]at hm
    have:=Nat.mod_mul_right_div_self x.toNat (2^j) 2
    rw[hm]at this
    simpa using this.symm
   simp[h6]
  have h7:x.toNat&&& 2^j=0:=by
   refine Nat.eq_of_testBit_eq fun i=> ?_
   rw[Nat.testBit_and,Nat.testBit_two_pow]
   by_cases hij:j=i
   · subst hij;simp[this]
   · simp[hij]
  rw[h7];rfl
 rcases Nat.lt_or_ge k 64 with h6|h6
 · rw[qbqi ⟨k,h6⟩]
   refine⟨qz2 ⟨a1,a2⟩,mask k ⟨b1,b2⟩ h6 ?_⟩
   have:=qbhi hi.toNat lo.toNat (k+1) (by omega)
   unfold numP at h5
   omega
 · obtain⟨j,rfl⟩:∃j,k=j+64:=⟨k-64,by omega⟩
   rw[qbl9 ⟨j,by omega⟩]
   refine⟨mask j ⟨a1,a2⟩ (by omega) ?_,qz2 ⟨b1,b2⟩⟩
   have:=qbqg hi.toNat lo.toNat (j+1) (by omega)
   unfold numP at h5
   rw[show j+64+1=j+1+64 by omega,this]at h5
   revert h5
   generalize hi.toNat%2^(j+1)=q
   omega
theorem qbr5 (v:Bool)(hi lo bits:Int)(u1:uok hi)(u2:uok lo):qrw v hi lo bits=some (qqj v hi lo bits):=by
 rw[qbf6];unfold qnz qqj
 rw[qbb3 u1 u2,qbw7,qbhk]
 cases hh:qj8 v hi lo bits with
 |false=>rfl
 |true=>
  obtain⟨h1,h2,h3,h4⟩:=q0y hh
  have hw:IntKind.i64.wrap (bits+1)=bits+1:=w64 (by omega) (by omega)
  rw[hw]
  have e1:(bits+1-bits).toNat=1:=by omega
  have e2:(qi v-(bits+1)).toNat=(qi v-bits-1).toNat:=by omega
  have e3:decide ((1:Int)>(qdw 1).2)=false:=by decide
  obtain⟨o1,o2⟩:=qbvd h2 h3
  obtain⟨f1,f2⟩:=qbve hh u1 u2
  simp only[Bool.not_true,cond_f,cond_t,oB_s,e1,e3,e2]
  rw[show shlN (qi v-bits-1).toNat (0,1)=bitP v bits from rfl]
  rw[qbhf u1 o1 f1,qbhf u2 o2 f2,wu64 (q9l _ _).1 (q9l _ _).2,wu64 (q9l _ _).1 (q9l _ _).2]
  rfl
theorem qb1v {v:Bool}{hi lo bits:Int}(h:qj8 v hi lo bits=true):qea v hi lo bits (bits+1) 1=some (qx4 v hi lo bits,true):=by
 obtain⟨h1,h2,h3,h4⟩:=q0y h
 have hw0:IntKind.i64.wrap (bits+1)=bits+1:=w64 (by omega) (by omega)
 have hp:=qbhk (v:=v) (hi:=hi) (lo:=lo) (bits:=bits)
 rw[hw0,h]at hp
 rw[q7j];unfold qp2
 rw[qbvc,hp]
 have hl:=qe8 v
 have e1:IntKind.i64.wrap (bits+1-bits)=1:=by rw[w64 (by omega) (by omega)];omega
 have e2:IntKind.i64.wrap (qi v-(bits+1))=qi v-bits-1:=by rw[w64 (by omega) (by omega)];omega
 have e3:IntKind.u64.wrap (qi v-bits-1)=qi v-bits-1:=wu64 (by omega) (by omega)
 simp only[Bool.not_true,cond_f,e1,qz5,qju,q4m,oB_s,e2,e3]
 rw[show decide ((1:Int)<64)=true by decide,show decide (IntKind.u64.wrap 1<0)=false by decide,show((1:Int).fdiv (2^min (IntKind.u64.wrap 1).toNat IntKind.u64.bits) != 0)=false by decide]
 simp only[cond_t,cond_f]
 rw[qz6];unfold qjv
 obtain⟨k,hk⟩:∃k:Nat,qi v-bits-1=k:=⟨(qi v-bits-1).toNat,by omega⟩
 have hk3:k<128:=by omega
 unfold qx4 bitP
 rw[hk,Int.toNat_natCast]
 rcases Nat.lt_or_ge k 64 with h6|h6
 · have a1:¬(k:Int)>=64:=by omega
   rw[qbqi ⟨k,h6⟩]
   simp only[a1,decide_false,cond_f]
   by_cases hk0:k=0
   · subst hk0;rfl
   · have a2:(k:Int)>0:=by omega
     have a3:¬(k:Int)<0:=by omega
     have fin:∀j:Fin 64,j.val≠0->¬IntKind.u64.wrap (64-(j.val:Int))<0/\(1:Int).fdiv (2^min (IntKind.u64.wrap (64-(j.val:Int))).toNat IntKind.u64.bits)=0/\IntKind.u64.wrap (1*2^min j.val IntKind.u64.bits)=((2^j.val:Nat):Int):=by decide+kernel
     obtain⟨f1,f2,f3⟩:=fin ⟨k,h6⟩ hk0
     simp only at f1 f2 f3
     simp only[a2,decide_true,cond_t,a3,decide_false,cond_f,f1,f2,f3]
     rfl
 · obtain⟨j,rfl⟩:∃j,k=j+64:=⟨k-64,by omega⟩
   have a1:((j+64:Nat):Int)>=64:=by omega
   rw[qbl9 ⟨j,by omega⟩]
   have fin:∀j:Fin 64,¬IntKind.u64.wrap (((j.val+64:Nat):Int)-64)<0/\IntKind.u64.wrap (1*2^min (IntKind.u64.wrap (((j.val+64:Nat):Int)-64)).toNat IntKind.u64.bits)=((2^j.val:Nat):Int):=by decide+kernel
   obtain⟨f1,f2⟩:=fin ⟨j,by omega⟩
   simp only at f1 f2
   simp only[a1,decide_true,cond_t,f1,f2,decide_false,cond_f]
   rfl
theorem qbr6 (v:Bool)(hi lo bits:Int)(u1:uok hi)(u2:uok lo):qjr v hi lo bits=some (qqj v hi lo bits):=by
 rw[qbk0];unfold qrb qqj
 rw[qbb4 u1 u2,qbhk]
 simp only[qbcu,ql5,q4n,oB_s]
 cases hh:qj8 v hi lo bits with
 |false=>rfl
 |true=>
  obtain⟨h1,h2,h3,h4⟩:=q0y hh
  have hw:IntKind.i64.wrap (bits+1)=bits+1:=w64 (by omega) (by omega)
  simp only[cond_t,Bool.not_true,cond_f,h1,hw,qb1v hh,oB_s]
  rfl
theorem qb1w {v:Bool}{hi lo bits:Int}(h:qj8 v hi lo bits=true)(u1:uok hi)(u2:uok lo):
 numP (qbi .or .u64 hi (bitP v bits).1) (qbi .or .u64 lo (bitP v bits).2)=numP hi lo+2^kOf v (bits+1):=by
 obtain⟨h1,h2,h3,h4⟩:=q0y h
 obtain⟨o1,o2⟩:=qbvd h2 h3
 obtain⟨f1,f2⟩:=qbve h u1 u2
 have hl:=qe8 v
 have hk:kOf v (bits+1)=(qi v-bits-1).toNat:=by unfold kOf;congr 1;omega
 rw[<-qbhf u1 o1 f1,<-qbhf u2 o2 f2,hk,<-qb38 (n:=(qi v-bits-1).toNat) (by omega)]
 unfold bitP at o1 o2⊢
 unfold numP
 obtain⟨a1,a2⟩:=u1
 obtain⟨b1,b2⟩:=u2
 obtain⟨c1,c2⟩:=o1
 obtain⟨d1,d2⟩:=o2
 rw[Int.toNat_add a1 c1,Int.toNat_add b1 d1]
 omega
def mkA (b0:Bool)(b1 b2:Int):AV:=.agg [(.bool b0),(.int .u64 b1),(.int .u64 b2)]
def qbb5 (q:AV->Bool):Option AV->List AV->Option AV
 |b,[]=>b
 |b,y::r=>qbb5 q (bif q y&&(match b with|none=>true|some x=>decide (gI y.cells 3>gI x.cells 3))then some y else b) r
def outC:Option AV->AV×Bool
 |some y=>(y,true)
 |none=>(blk0,false)
def qv1 (q:AV->Bool)(l:LA):AV×Bool:=outC (qbb5 q none l)
theorem qb1x (l:LA)(hl:qv l)(v:Bool)(ahi alo:Int):q08 l v ahi alo=some (qv1 (fun y=>qiq (gB y.cells 0) (gI y.cells 1) (gI y.cells 2) (gI y.cells 3) v ahi alo) l):=by
 rw[qbkx];unfold qq8
 rw[qt5];unfold qdu
 rw[qqn]
 have key:∀kx:Bool->Bool->Int->Int->Int->Int->List UInt8->List UInt8->Int->Bool->Int->Int->Bool->Int->Int->Int->Int->List UInt8->List UInt8->Int->Bool->Int->Int->Int->Int->List UInt8->List UInt8->Int->Option (AV×Bool),(∀(e:Bool) (a0:Bool) (a1 a2 a3 a4:Int) (a5 a6:LU) (a7:Int) (b0:Bool) (b1 b2:Int) (c0:Bool) (c1 c2 c3 c4:Int) (c5 c6:LU) (c7:Int) (d0:Bool) (d1 d2 d3 d4:Int) (d5 d6:LU) (d7:Int),kx e a0 a1 a2 a3 a4 a5 a6 a7 b0 b1 b2 c0 c1 c2 c3 c4 c5 c6 c7 d0 d1 d2 d3 d4 d5 d6 d7=some (mkB d0 d1 d2 d3 d4 d5 d6 d7,e))->
  qbx l (l.length:Int) kx FU false 0 false 0 0 0 0 [] [] 0 v ahi alo false 0 0 0 0 [] [] 0 false 0 0 0 0 [] [] 0=some (qv1 (fun y=>qiq (gB y.cells 0) (gI y.cells 1) (gI y.cells 2) (gI y.cells 3) v ahi alo) l):=by
  intro kx hkx
  have key:=qcq (σ:=Bool×AV×AV×AV×AV) l hl.1 (fun n i s=>qbx l (l.length:Int) kx n s.1 i (gB s.2.1.cells 0) (gI s.2.1.cells 1) (gI s.2.1.cells 2) (gI s.2.1.cells 3) (gI s.2.1.cells 4) (gS s.2.1.cells 5) (gS s.2.1.cells 6) (gI s.2.1.cells 7) (gB s.2.2.1.cells 0) (gI s.2.2.1.cells 1) (gI s.2.2.1.cells 2) (gB s.2.2.2.1.cells 0) (gI s.2.2.2.1.cells 1) (gI s.2.2.2.1.cells 2) (gI s.2.2.2.1.cells 3) (gI s.2.2.2.1.cells 4) (gS s.2.2.2.1.cells 5) (gS s.2.2.2.1.cells 6) (gI s.2.2.2.1.cells 7) (gB s.2.2.2.2.cells 0) (gI s.2.2.2.2.cells 1) (gI s.2.2.2.2.cells 2) (gI s.2.2.2.2.cells 3) (gI s.2.2.2.2.cells 4) (gS s.2.2.2.2.cells 5) (gS s.2.2.2.2.cells 6) (gI s.2.2.2.2.cells 7)) (fun i s nx=>qb4 s.1 l (l.length:Int) i (gB s.2.1.cells 0) (gI s.2.1.cells 1) (gI s.2.1.cells 2) (gI s.2.1.cells 3) (gI s.2.1.cells 4) (gS s.2.1.cells 5) (gS s.2.1.cells 6) (gI s.2.1.cells 7) (gB s.2.2.1.cells 0) (gI s.2.2.1.cells 1) (gI s.2.2.1.cells 2) (gB s.2.2.2.1.cells 0) (gI s.2.2.2.1.cells 1) (gI s.2.2.2.1.cells 2) (gI s.2.2.2.1.cells 3) (gI s.2.2.2.1.cells 4) (gS s.2.2.2.1.cells 5) (gS s.2.2.2.1.cells 6) (gI s.2.2.2.1.cells 7) (gB s.2.2.2.2.cells 0) (gI s.2.2.2.2.cells 1) (gI s.2.2.2.2.cells 2) (gI s.2.2.2.2.cells 3) (gI s.2.2.2.2.cells 4) (gS s.2.2.2.2.cells 5) (gS s.2.2.2.2.cells 6) (gI s.2.2.2.2.cells 7) (fun e i a0 a1 a2 a3 a4 a5 a6 a7 b0 b1 b2 c0 c1 c2 c3 c4 c5 c6 c7 d0 d1 d2 d3 d4 d5 d6 d7=>nx i (e,mkB a0 a1 a2 a3 a4 a5 a6 a7,mkA b0 b1 b2,mkB c0 c1 c2 c3 c4 c5 c6 c7,mkB d0 d1 d2 d3 d4 d5 d6 d7)) kx) (fun _ _ _=>rfl)
   (fun i s=>s.2.1=blk0/\s.2.2.1=mkA v ahi alo/\s.2.2.2.1=blk0/\(s.1=false->s.2.2.2.2=blk0)/\(s.1=true->fitC qb s.2.2.2.2.cells=true)) (fun r s=>some (outC (qbb5 (fun y=>qiq (gB y.cells 0) (gI y.cells 1) (gI y.cells 2) (gI y.cells 3) v ahi alo) (bif s.1 then some s.2.2.2.2 else none) r))) ?_ ?_ (false,blk0,mkA v ahi alo,blk0,blk0) FU ⟨rfl,rfl,rfl,fun _=>rfl,fun h=>by cases h⟩ (qcz (by have:=hl.1;omega))
  · exact key
  · rintro⟨e,s1,s2,s3,s4⟩ nx ⟨h1,h2,h3,h4,h5⟩
    simp only at h1 h2 h3 h4 h5
    subst h1 h2 h3
    unfold qb4
    simp only[Int.lt_irrefl,decide_false,cond_f,hkx]
    cases e with
    |false=>rw[h4 rfl];rfl
    |true=>rw[qnb (h5 rfl)];rfl
  · rintro i y r ⟨e,s1,s2,s3,s4⟩ nx g1 g2 g3 g4 ⟨h1,h2,h3,h4,h5⟩ hn
    simp only at h1 h2 h3 h4 h5
    subst h1 h2 h3
    have hy:=hl.2 y (List.mem_of_getElem? g2)
    have h6:(i:Int)<(l.length:Int):=by omega
    unfold qb4
    simp only[h6,decide_true,cond_t,ixB_nat,g2,oB_s,hy.1,g4,qqm,qc1,qbeu,qng,qbke]
    rw[qnb hy.1]
    have n1:=hn (true,blk0,mkA v ahi alo,blk0,y) ⟨rfl,rfl,rfl,fun h=>(by cases h),fun _=>hy.1⟩
    have n2:=hn (e,blk0,mkA v ahi alo,blk0,s4) ⟨rfl,rfl,rfl,h4,h5⟩
    have hs:mkB (gB s4.cells 0) (gI s4.cells 1) (gI s4.cells 2) (gI s4.cells 3) (gI s4.cells 4) (gS s4.cells 5) (gS s4.cells 6) (gI s4.cells 7)=s4:=by
     cases e with
     |false=>rw[h4 rfl];rfl
     |true=>exact qnb (h5 rfl)
    rw[hs]
    unfold qbb5
    show(bif qiq (gB y.cells 0) (gI y.cells 1) (gI y.cells 2) (gI y.cells 3) v ahi alo then _ else _)=_
    cases hq:qiq (gB y.cells 0) (gI y.cells 1) (gI y.cells 2) (gI y.cells 3) v ahi alo with
    |false=>exact n2
    |true=>
     cases e with
     |false=>exact n1
     |true=>
      simp only[cond_t,Bool.not_true,cond_f,Bool.true_and]
      cases hc:decide (gI y.cells 3>gI s4.cells 3)with
      |true=>exact n1
      |false=>exact n2
 exact key _ (fun _ _ _ _ _ _ _ _ _ _ _ _ _ _ _ _ _ _ _ _ _ _ _ _ _ _ _ _=>rfl)
theorem qbz6 (l:LA)(hl:qv l)(v:Bool)(ahi alo:Int)(u1:uok ahi)(u2:uok alo):qxg l v ahi alo=some (qv1 (fun y=>qiq (gB y.cells 0) (gI y.cells 1) (gI y.cells 2) (gI y.cells 3) v ahi alo) l):=by
 rw[qbfv];unfold qnw
 rw[q8g]
 have key:∀kx:Int->Option (AV×Bool),(∀j:Int,kx j=(match(if j<0 then none else l[j.toNat]?)with|some y=>some (y,true)|none=>if j<0 then some (blk0,false)else none))->qev l v ahi alo false 0 0 0 0 [] [] 0 kx FU (-1) 0=some (qv1 (fun y=>qiq (gB y.cells 0) (gI y.cells 1) (gI y.cells 2) (gI y.cells 3) v ahi alo) l):=by
  intro kx hkx
  have key:=qcq (σ:=Int) l hl.1 (fun n i s=>qev l v ahi alo false 0 0 0 0 [] [] 0 kx n s i) (fun i s nx=>qgt l s i v ahi alo false 0 0 0 0 [] [] 0 (fun s i=>nx i s) kx) (fun _ _ _=>rfl)
   (fun i s=>s= -1\/∃(j:Nat) (x:AV),s=j/\l[j]?=some x) (fun r s=>some (outC (qbb5 (fun y=>qiq (gB y.cells 0) (gI y.cells 1) (gI y.cells 2) (gI y.cells 3) v ahi alo) (bif decide (s<0)then none else l[s.toNat]?) r))) ?_ ?_ (-1) FU (.inl rfl) (qcz (by have:=hl.1;omega))
  · exact key
  · rintro s nx hJ
    unfold qgt
    simp only[Int.lt_irrefl,decide_false,cond_f,hkx]
    rcases hJ with rfl|⟨j,x,rfl,hx⟩
    · rfl
    · have h0:¬(j:Int)<0:=by omega
      simp only[h0,if_false,decide_false,cond_f,Int.toNat_natCast,hx]
      rfl
  · rintro i y r s nx g1 g2 g3 g4 hJ hn
    have hy:=hl.2 y (List.mem_of_getElem? g2)
    have h6:(i:Int)<(l.length:Int):=by omega
    have hi0:¬(i:Int)<0:=by omega
    have n1:=hn (i:Int) (.inr ⟨i,y,rfl,g2⟩)
    have n2:=hn s hJ
    simp only[hi0,decide_false,cond_f,Int.toNat_natCast,g2]at n1
    unfold qgt
    simp only[h6,decide_true,cond_t,ixB_nat,g2,oB_s,hy.1,g4,q6r,qjk,qbkf _ _ _ _ _ _ _ u1 u2]
    rcases hJ with rfl|⟨j,x,rfl,hx⟩
    · have e1:decide ((-1:Int)<0)=true:=by decide
      simp only[e1,cond_t]at n2⊢
      unfold qbb5
      simp only[Bool.and_true]
      cases hq:qiq (gB y.cells 0) (gI y.cells 1) (gI y.cells 2) (gI y.cells 3) v ahi alo with
      |false=>exact n2
      |true=>exact n1
    · have h0:¬(j:Int)<0:=by omega
      have hxf:=hl.2 x (List.mem_of_getElem? hx)
      simp only[h0,decide_false,cond_f,Int.toNat_natCast,hx,ixB_nat,oB_s,hxf.1,cond_t]at n2⊢
      unfold qbb5
      cases hq:qiq (gB y.cells 0) (gI y.cells 1) (gI y.cells 2) (gI y.cells 3) v ahi alo with
      |false=>exact n2
      |true=>
       simp only[cond_t,Bool.true_and]
       cases decide (gI y.cells 3>gI x.cells 3)with
       |true=>exact n1
       |false=>exact n2
 refine key _ fun j=> ?_
 by_cases hj:j<0
 · simp only[hj,decide_true,cond_t,if_true];rfl
 · simp only[hj,decide_false,cond_f,if_false]
   have:ixB l j=l[j.toNat]?:=by unfold ixB;rw[if_pos (by omega)]
   rw[this]
   cases hx:l[j.toNat]? with
   |none=>rfl
   |some y=>
    have hy:=hl.2 y (List.mem_of_getElem? hx)
    simp only[oB_s,hy.1,cond_t]
    rw[show(AV.agg [(.bool (gB y.cells 0)),(.int .u64 (gI y.cells 1)),(.int .u64 (gI y.cells 2)),(.int .i64 (gI y.cells 3)),(.int .i64 (gI y.cells 4)),(.str (gS y.cells 5)),(.str (gS y.cells 6)),(.int .i64 (gI y.cells 7))])=y from qnb hy.1]
def qbh3 (l:LA)(v:Bool)(hi lo bits:Int)(y:AV):Bool:=qd8 (gB y.cells 0) (gI y.cells 1) (gI y.cells 2) (gI y.cells 3) v hi lo bits&& !(l.any fun o=>qd8 (gB o.cells 0) (gI o.cells 1) (gI o.cells 2) (gI o.cells 3) v hi lo bits&&qz3 y o)
def qx5 (l:LA)(v:Bool)(hi lo bits:Int):List AV:=l.filter (qbh3 l v hi lo bits)
theorem qbwg (l:LA)(hl:qv l)(hn:l.length<=100000)(v:Bool)(hi lo bits:Int):qt8 l v hi lo bits=some (qx5 l v hi lo bits):=by
 rw[qbas];unfold qll
 simp only[qqe,List.length_nil,Bool.and_self,cond_t]
 rw[q48]
 have key:=qcq (σ:=List AV) l hl.1 (fun n i s=>qff l v hi lo bits (fun a0q1=>bif hd a0q1 a0q1.length then some a0q1 else none) n i s) (fun i s nx=>qfe l i v hi lo bits s nx (fun a0q1=>bif hd a0q1 a0q1.length then some a0q1 else none)) (fun _ _ _=>rfl)
  (fun i s=>s.length<=i) (fun r s=>some (s++r.filter (qbh3 l v hi lo bits))) ?_ ?_ [] FU (by simp) (qcz (by have:=hl.1;omega))
 · exact key
 · intro a nx h2;simp[qfe]
 · intro i y r a nx g1 g2 g3 g4 h2 h5
   have hy:=hl.2 y (List.mem_of_getElem? g2)
   have h6:(i:Int)<(l.length:Int):=by omega
   have n1:=h5 (a++[y]) (by simp;omega)
   have n2:=h5 a (by omega)
   have hyy:=qnb hy.1
   unfold mkB at hyy
   have inner:∀kx:Bool->Option (List AV),qoe l (i:Int) v hi lo bits a kx FU true 0=kx (!(l.any fun o=>qd8 (gB o.cells 0) (gI o.cells 1) (gI o.cells 2) (gI o.cells 3) v hi lo bits&&qz3 y o)):=by
    intro kx
    rw[q3y]
    have key:=qcq (σ:=Bool) l hl.1 (fun n k s=>qe0 l (i:Int) v hi lo bits a kx n s k) (fun k s nx=>qez l (i:Int) s k v hi lo bits a (fun s k=>nx k s) kx) (fun _ _ _=>rfl)
     (fun _ _=>True) (fun r s=>kx (s&& !(r.any fun o=>qd8 (gB o.cells 0) (gI o.cells 1) (gI o.cells 2) (gI o.cells 3) v hi lo bits&&qz3 y o))) ?_ ?_ true FU trivial (qcz (by have:=hl.1;omega))
    · exact key
    · intro s nx _;simp[qez]
    · intro k z r s nx f1 f2 f3 f4 _ f5
      have hz:=hl.2 z (List.mem_of_getElem? f2)
      have f6:(k:Int)<(l.length:Int):=by omega
      unfold qez
      simp only[f6,decide_true,cond_t,ixB_nat,f2,g2,oB_s,hz.1,hy.1,f4,qbox _ _ _ _ _ _ _ _ hz.2.1 hz.2.2.1,qbox _ _ _ _ _ _ _ _ hy.2.1 hy.2.2.1,f5 _ trivial]
      rw[show qd8 (gB y.cells 0) (gI y.cells 1) (gI y.cells 2) (gI y.cells 3) (gB z.cells 0) (gI z.cells 1) (gI z.cells 2) (gI z.cells 3)=qz3 y z from rfl,List.any_cons]
      cases qd8 (gB z.cells 0) (gI z.cells 1) (gI z.cells 2) (gI z.cells 3) v hi lo bits<;>cases qz3 y z<;>simp
   unfold qfe
   simp only[h6,decide_true,cond_t,ixB_nat,g2,oB_s,hy.1,g4,hd_self,Bool.and_self,qbox _ _ _ _ _ _ _ _ hy.2.1 hy.2.2.1,inner,hyy]
   rw[q4o y (a:=a) (by omega),List.filter_cons,n2,n1]
   unfold qbh3
   cases qd8 (gB y.cells 0) (gI y.cells 1) (gI y.cells 2) (gI y.cells 3) v hi lo bits<;>cases(l.any fun o=>qd8 (gB o.cells 0) (gI o.cells 1) (gI o.cells 2) (gI o.cells 3) v hi lo bits&&qz3 y o)<;>simp
theorem Np.sub_range {p q:Np}(hp:p.ok)(hq:q.ok):p.sub q↔p.v=q.v/\p.k<=q.k/\q.n<=p.n/\p.n<q.n+2^q.k:=by
 unfold Np.sub
 have h0:=Nat.two_pow_pos q.k
 have h1:=Nat.mod_lt p.n h0
 have h2:=Nat.mod_le p.n (2^q.k)
 constructor
 · rintro⟨a,b,c⟩;exact⟨a,b,by omega,by omega⟩
 · rintro⟨a,b,c,d⟩
   refine⟨a,b,?_⟩
   obtain⟨u,hu⟩:=Nat.dvd_of_mod_eq_zero hq
   have:p.n / 2^q.k=u:=by
    rw[Nat.div_eq_iff h0]
    rw[hu]at c d
    constructor
    · rw[Nat.mul_comm];omega
    · rw[Nat.mul_comm];omega
   have h3:=Nat.div_add_mod p.n (2^q.k)
   rw[this]at h3
   omega
def Np.low (p:Np):Np:=⟨p.v,p.n,p.k-1⟩
def Np.high (p:Np):Np:=⟨p.v,p.n+2^(p.k-1),p.k-1⟩
theorem qbma {k:Nat}(h:0<k):2^k=2^(k-1)+2^(k-1):=by
 obtain⟨j,rfl⟩:∃j,k=j+1:=⟨k-1,by omega⟩
 rw[Nat.pow_succ];simp;omega
theorem Np.low_ok {p:Np}(hp:p.ok)(hk:0<p.k):p.low.ok:=by
 unfold Np.ok Np.low at*
 simp only
 have:2^(p.k-1) ∣ 2^p.k:=qbh2 (by omega)
 exact Nat.mod_eq_zero_of_dvd (Nat.dvd_trans this (Nat.dvd_of_mod_eq_zero hp))
theorem Np.high_ok {p:Np}(hp:p.ok)(hk:0<p.k):p.high.ok:=by
 have h1:=Np.low_ok hp hk
 unfold Np.ok Np.high Np.low at*
 simp only at*
 rw[Nat.add_mod_right];exact h1
theorem Np.low_sub {p:Np}(hp:p.ok)(hk:0<p.k):p.low.sub p:=by
 refine(Np.sub_range (Np.low_ok hp hk) hp).2 ⟨rfl,Nat.sub_le _ _,Nat.le_refl _,?_⟩
 have:=Nat.two_pow_pos p.k
 show p.n<_
 omega
theorem Np.high_sub {p:Np}(hp:p.ok)(hk:0<p.k):p.high.sub p:=by
 refine(Np.sub_range (Np.high_ok hp hk) hp).2 ⟨rfl,Nat.sub_le _ _,Nat.le_add_right _ _,?_⟩
 have:=qbma hk
 have h0:=Nat.two_pow_pos (p.k-1)
 show p.n+2^(p.k-1)<_
 omega
theorem Np.not_both {p q:Np}(hp:p.ok)(hq:q.ok)(hp0:0<p.k)(h1:q.sub p.low)(h2:q.sub p.high):False:=by
 obtain⟨_,_,c,d⟩:=(Np.sub_range hq (Np.low_ok hp hp0)).1 h1
 obtain⟨_,_,c',d'⟩:=(Np.sub_range hq (Np.high_ok hp hp0)).1 h2
 simp only[Np.low,Np.high]at*
 omega
theorem Np.both {p q:Np}(hp:p.ok)(hq:q.ok)(hp0:0<p.k)(h1:p.low.sub q)(h2:p.high.sub q):p.sub q:=by
 have e:=qbma hp0
 have hle:p.k-1<=q.k:=h1.2.1
 rcases Nat.lt_or_ge q.k p.k with hk|hk
 · exfalso
   have hqk:q.k=p.k-1:=by have:=h1.2.1;simp only[Np.low]at this;omega
   obtain⟨_,_,c,d⟩:=(Np.sub_range (Np.low_ok hp hp0) hq).1 h1
   obtain⟨_,_,c',d'⟩:=(Np.sub_range (Np.high_ok hp hp0) hq).1 h2
   simp only[Np.low,Np.high]at*
   rw[hqk]at d d'
   omega
 · exact Np.nest (Np.low_sub hp hp0) h1 hk
structure Pq where
 v:Bool
 hi:Int
 lo:Int
 bits:Int
def Pq.good (p:Pq):Prop:=qc0 p.v p.hi p.lo p.bits=true/\uok p.hi/\uok p.lo
def Pq.np (p:Pq):Np:=⟨p.v,numP p.hi p.lo,kOf p.v p.bits⟩
def Pq.av (p:Pq):AV:=mkP p.v p.hi p.lo p.bits
def pqY (y:AV):Pq:=⟨gB y.cells 0,gI y.cells 1,gI y.cells 2,gI y.cells 3⟩
def winP (p q:Pq):Bool:=qk4 p.v p.hi p.lo p.bits q.v q.hi q.lo q.bits
def ovP (p q:Pq):Bool:=winP p q||winP q p
theorem Pq.good.np_ok {p:Pq}(h:p.good):p.np.ok:=((qx3 h.2.1 h.2.2).1 h.1).2.2.2
theorem Pq.good.range {p:Pq}(h:p.good):0<=p.bits/\p.bits<=qi p.v/\(p.np.k:Int)=qi p.v-p.bits/\p.np.k<=128:=by
 obtain⟨h1,h2,_⟩:=qd7 h.1
 have:=qe8 p.v
 refine⟨h1,h2,?_,?_⟩
 · show((kOf p.v p.bits:Nat):Int)=_
   unfold kOf;omega
 · show kOf p.v p.bits<=128
   unfold kOf;omega
theorem qg9 {p q:Pq}(hp:p.good)(hq:q.good):winP p q=true↔p.np.sub q.np:=by
 unfold winP qk4 Np.sub
 rw[hp.1]
 simp only[Bool.true_and,Bool.and_eq_true,decide_eq_true_eq]
 rw[qbz0 hq.2.1 hq.2.2 hp.2.1 hp.2.2]
 obtain⟨a1,a2,a3,_⟩:=hp.range
 obtain⟨b1,b2,b3,_⟩:=hq.range
 have ha:=(qd7 hp.1).2.2
 constructor
 · rintro⟨h1,h2,h3,h4,h5⟩
   refine⟨h4.symm,?_,h5.symm⟩
   rw[h4]at b3;omega
 · rintro⟨h1,h2,h3⟩
   refine⟨?_,hq.1,ha,h1.symm,h3.symm⟩
   have h1':p.v=q.v:=h1
   rw[h1']at a3;omega
def Pq.low (p:Pq):Pq:=⟨p.v,p.hi,p.lo,p.bits+1⟩
def Pq.high (p:Pq):Pq:=⟨p.v,qbi .or .u64 p.hi (bitP p.v p.bits).1,qbi .or .u64 p.lo (bitP p.v p.bits).2,p.bits+1⟩
def Pq.half (p:Pq):Bool:=qj8 p.v p.hi p.lo p.bits
theorem Pq.half_iff {p:Pq}(hp:p.good):p.half=true↔0<p.np.k:=by
 obtain⟨a1,a2,a3,_⟩:=hp.range
 unfold Pq.half qj8
 rw[hp.1]
 simp only[Bool.true_and,decide_eq_true_eq]
 omega
theorem Pq.low_np {p:Pq}(hp:p.good)(h:p.half=true):p.low.np=p.np.low:=by
 obtain⟨a1,a2,a3,_⟩:=hp.range
 have hk:=(Pq.half_iff hp).1 h
 have:kOf p.v (p.bits+1)=kOf p.v p.bits-1:=by unfold kOf;omega
 unfold Pq.np Pq.low Np.low
 simp only[this]
theorem Pq.high_np {p:Pq}(hp:p.good)(h:p.half=true):p.high.np=p.np.high:=by
 obtain⟨a1,a2,a3,_⟩:=hp.range
 have hk:=(Pq.half_iff hp).1 h
 have:kOf p.v (p.bits+1)=kOf p.v p.bits-1:=by unfold kOf;omega
 unfold Pq.np Pq.high Np.high
 simp only
 rw[qb1w h hp.2.1 hp.2.2,this]
theorem qboz {v:Bool}{hi lo:Int}(u1:uok hi)(u2:uok lo):qe1 v hi lo=true↔(v=true\/numP hi lo<2^32):=by
 unfold qe1 numP
 obtain⟨a1,a2⟩:=u1
 obtain⟨b1,b2⟩:=u2
 cases v with
 |true=>simp
 |false=>
  have e:(2:Nat)^32=4294967296:=by decide
  rw[e]
  simp only[Bool.false_or,Bool.and_eq_true,beq_iff_eq,decide_eq_true_eq,Bool.false_eq_true,false_or]
  omega
theorem Pq.low_good {p:Pq}(hp:p.good)(h:p.half=true):p.low.good:=by
 have hk:=(Pq.half_iff hp).1 h
 obtain⟨a1,a2,a3,_⟩:=hp.range
 refine⟨(qx3 hp.2.1 hp.2.2).2 ⟨(qd7 hp.1).2.2,by show 0<=p.bits+1;omega,by show p.bits+1<=qi p.v;omega,?_⟩,hp.2⟩
 have:=Np.low_ok hp.np_ok hk
 rw[<-Pq.low_np hp h]at this
 exact this
theorem Pq.high_good {p:Pq}(hp:p.good)(h:p.half=true):p.high.good:=by
 have hk:=(Pq.half_iff hp).1 h
 obtain⟨a1,a2,a3,a4⟩:=hp.range
 have u1:uok p.high.hi:=q9l _ _
 have u2:uok p.high.lo:=q9l _ _
 have hn:=Pq.high_np hp h
 refine⟨(qx3 u1 u2).2 ⟨(qboz u1 u2).2 ?_,by show 0<=p.bits+1;omega,by show p.bits+1<=qi p.v;omega,?_⟩,u1,u2⟩
 · rcases(qboz hp.2.1 hp.2.2).1 (qd7 hp.1).2.2 with h1|h1
   · exact .inl h1
   · cases hv:p.v with
     |true=>exact .inl hv
     |false=>
      right
      have e:numP p.high.hi p.high.lo=p.np.n+2^(p.np.k-1):=congrArg Np.n hn
      rw[e]
      have hk32:p.np.k<=32:=by rw[hv]at a3;simp[qi]at a3;omega
      have hpo:=hp.np_ok
      have hlt:p.np.n<2^32:=h1
      obtain⟨u,hu⟩:=Nat.dvd_of_mod_eq_zero hpo
      obtain⟨c,hc⟩:=qbh2 hk32
      have hlt2:u<c:=by
       rw[hu,hc]at hlt
       exact Nat.lt_of_mul_lt_mul_left hlt
      have:2^p.np.k*(u+1)<=2^p.np.k*c:=Nat.mul_le_mul_left _ hlt2
      rw[Nat.mul_add,<-hu,<-hc,qbma hk]at this
      have h0:=Nat.two_pow_pos (p.np.k-1)
      omega
 · have:=Np.high_ok hp.np_ok hk
   rw[<-hn]at this
   exact this
def qde (l:LA):Nat->Pq->List Pq
 |0,_=>[]
 |n+1,p=>bif l.any (fun b=>winP p (pqY b))then[]else bif !(l.any fun b=>ovP (pqY b) p)then[p]else bif p.half then qde l n p.low++qde l n p.high else[]
def qd9 (l:LA):Prop:=∀y,y∈l->(pqY y).good
theorem qbhl {p q b:Pq}(hp:p.good)(hq:q.good)(hb:b.good)(h:q.np.sub p.np)(ho:ovP b q=true):ovP b p=true:=by
 unfold ovP at*
 rw[Bool.or_eq_true,qg9 hb hq,qg9 hq hb]at ho
 rw[Bool.or_eq_true,qg9 hb hp,qg9 hp hb]
 rcases ho with ho|ho
 · exact .inl (Np.sub_trans ho h)
 · rcases Nat.lt_or_ge b.np.k p.np.k with hk|hk
   · exact .inl (Np.nest ho h (by omega))
   · exact .inr (Np.nest h ho hk)
theorem qz4 {l l':LA}(hl:qd9 l)(hl':qd9 l'){c:Pq}(hc:c.good)
 (hW:∀q:Pq,q.good->q.np.sub c.np->(l.any fun b=>winP q (pqY b))=l'.any fun b=>winP q (pqY b)) (hO:∀q:Pq,q.good->q.np.sub c.np->(l.any fun b=>ovP (pqY b) q)=l'.any fun b=>ovP (pqY b) q):
 ∀(n:Nat) (p:Pq),p.good->p.np.sub c.np->qde l n p=qde l' n p
 |0,p,_,_=>rfl
 |n+1,p,hp,hs=>by
  unfold qde
  rw[hW p hp hs,hO p hp hs]
  cases hh:p.half with
  |false=>rfl
  |true=>
   have hk:=(Pq.half_iff hp).1 hh
   have h1:p.low.np.sub p.np:=by rw[Pq.low_np hp hh];exact Np.low_sub hp.np_ok hk
   have h2:p.high.np.sub p.np:=by rw[Pq.high_np hp hh];exact Np.high_sub hp.np_ok hk
   rw[qz4 hl hl' hc hW hO n p.low (Pq.low_good hp hh) (Np.sub_trans h1 hs),qz4 hl hl' hc hW hO n p.high (Pq.high_good hp hh) (Np.sub_trans h2 hs)]
theorem qbhm {l:LA}(hl:qd9 l){c:Pq}(hc:c.good)(n:Nat)(p:Pq)(hp:p.good)(hs:p.np.sub c.np):qde (l.filter fun b=>ovP (pqY b) c) n p=qde l n p:=by
 refine qz4 (fun y hy=>hl y ((List.mem_filter.1 hy).1)) hl hc (fun q hq hqc=> ?_) (fun q hq hqc=> ?_) n p hp hs
 · rw[Bool.eq_iff_iff,List.any_eq_true,List.any_eq_true]
   constructor
   · rintro⟨b,hb,h⟩;exact⟨b,(List.mem_filter.1 hb).1,h⟩
   · rintro⟨b,hb,h⟩
     refine⟨b,List.mem_filter.2 ⟨hb,qbhl hc hq (hl b hb) hqc ?_⟩,h⟩
     unfold ovP;rw[h,Bool.or_true]
 · rw[Bool.eq_iff_iff,List.any_eq_true,List.any_eq_true]
   constructor
   · rintro⟨b,hb,h⟩;exact⟨b,(List.mem_filter.1 hb).1,h⟩
   · rintro⟨b,hb,h⟩
     exact⟨b,List.mem_filter.2 ⟨hb,qbhl hc hq (hl b hb) hqc h⟩,h⟩
theorem qbr7 {α:Type}{A B C:α->Bool}:∀(l:List α),(∀b,b∈l->A b=true->C b=true)->(∀b,b∈l->B b=true->C b=true)->(∀b,b∈l->A b=true->B b=true->False)->(l.filter A).length+(l.filter B).length<=(l.filter C).length
 |[],_,_,_=>by simp
 |b::r,h1,h2,h3=>by
  have ih:=qbr7 r (fun x hx=>h1 x (List.mem_cons_of_mem _ hx)) (fun x hx=>h2 x (List.mem_cons_of_mem _ hx)) (fun x hx=>h3 x (List.mem_cons_of_mem _ hx))
  have k1:=h1 b List.mem_cons_self
  have k2:=h2 b List.mem_cons_self
  have k3:=h3 b List.mem_cons_self
  rw[List.filter_cons,List.filter_cons,List.filter_cons]
  cases hA:A b<;>cases hB:B b
  · cases C b<;>simp<;>omega
  · rw[k2 hB];simp;omega
  · rw[k1 hA];simp;omega
  · exact(k3 hA hB).elim
theorem qbhn {l:LA}(hl:qd9 l):∀(n:Nat) (p:Pq),p.good->(qde l n p).length<=(l.filter fun b=>ovP (pqY b) p).length*n+1
 |0,p,_=>by simp[qde]
 |n+1,p,hp=>by
  unfold qde
  cases hW:l.any fun b=>winP p (pqY b)with
  |true=>simp
  |false=>
   cases hO:l.any fun b=>ovP (pqY b) p with
   |false=>simp
   |true=>
    cases hh:p.half with
    |false=>simp
    |true=>
     have hk:=(Pq.half_iff hp).1 hh
     have hlg:=Pq.low_good hp hh
     have hhg:=Pq.high_good hp hh
     have h1:p.low.np.sub p.np:=by rw[Pq.low_np hp hh];exact Np.low_sub hp.np_ok hk
     have h2:p.high.np.sub p.np:=by rw[Pq.high_np hp hh];exact Np.high_sub hp.np_ok hk
     have i1:=qbhn hl n p.low hlg
     have i2:=qbhn hl n p.high hhg
     have hc:=qbr7 (A:=fun b=>ovP (pqY b) p.low) (B:=fun b=>ovP (pqY b) p.high) (C:=fun b=>ovP (pqY b) p) l (fun b hb h=>qbhl hp hlg (hl b hb) h1 h) (fun b hb h=>qbhl hp hhg (hl b hb) h2 h) (fun b hb ha hb'=>by
      have hbg:=hl b hb
      have hnw:winP p (pqY b)=false:=by
       rw[List.any_eq_false]at hW
       simpa using hW b hb
      have hns:¬p.np.sub (pqY b).np:=fun h=>by rw[(qg9 hp hbg).2 h]at hnw;cases hnw
      unfold ovP at ha hb'
      rw[Bool.or_eq_true,qg9 hbg hlg,qg9 hlg hbg,Pq.low_np hp hh]at ha
      rw[Bool.or_eq_true,qg9 hbg hhg,qg9 hhg hbg,Pq.high_np hp hh]at hb'
      have hlo:=Np.low_ok hp.np_ok hk
      have hho:=Np.high_ok hp.np_ok hk
      rcases ha with ha|ha<;>rcases hb' with hb'|hb'
      · exact Np.not_both hp.np_ok hbg.np_ok hk ha hb'
      · exact Np.not_both hp.np_ok hho hk (Np.sub_trans hb' ha) (Np.sub_refl hho)
      · exact Np.not_both hp.np_ok hlo hk (Np.sub_refl hlo) (Np.sub_trans ha hb')
      · exact hns (Np.both hp.np_ok hbg.np_ok hk ha hb'))
     have hpos:0<(l.filter fun b=>ovP (pqY b) p).length:=by
      obtain⟨b,hb,h⟩:=List.any_eq_true.1 hO
      exact List.length_pos_of_mem (List.mem_filter.2 ⟨hb,h⟩)
     simp only[Bool.not_true,cond_f,cond_t,List.length_append]
     generalize (l.filter fun b=>ovP (pqY b) p).length=c at*
     generalize (l.filter fun b=>ovP (pqY b) p.low).length=c1 at*
     generalize (l.filter fun b=>ovP (pqY b) p.high).length=c2 at*
     have e1:(c1+c2)*n<=c*n:=Nat.mul_le_mul_right _ hc
     rw[Nat.add_mul]at e1
     rw[Nat.mul_add]
     omega
theorem qbmb {l:LA}(hl:qd9 l)(hn:l.length<=1000){n:Nat}(hn2:n<=200){p:Pq}(hp:p.good):(qde l n p).length<=200001:=by
 have h1:=qbhn hl n p hp
 have h2:(l.filter fun b=>ovP (pqY b) p).length<=1000:=Nat.le_trans (List.length_filter_le _ _) hn
 have h3:(l.filter fun b=>ovP (pqY b) p).length*n<=1000*200:=Nat.mul_le_mul h2 hn2
 omega
theorem qbyc (v6:Bool)(hi lo bits:Int)(w6:Bool)(whi wlo wbits:Int):qyu v6 hi lo bits w6 whi wlo wbits=some (ovP ⟨v6,hi,lo,bits⟩ ⟨w6,whi,wlo,wbits⟩):=by
 rw[qbir];unfold qoz ovP winP
 simp only[qbhg,oB_s]
 cases qk4 v6 hi lo bits w6 whi wlo wbits<;>simp
theorem qbyd (v6:Bool)(hi lo bits:Int)(w6:Bool)(whi wlo wbits:Int)(u1:uok hi)(u2:uok lo)(u3:uok whi)(u4:uok wlo):qvu v6 hi lo bits w6 whi wlo wbits=some (ovP ⟨v6,hi,lo,bits⟩ ⟨w6,whi,wlo,wbits⟩):=by
 rw[qbd3];unfold qmu ovP winP
 simp only[q0w _ _ _ _ _ _ _ _ u1 u2,q0w _ _ _ _ _ _ _ _ u3 u4,oB_s]
 cases qk4 v6 hi lo bits w6 whi wlo wbits<;>simp
theorem qb1y (p q:Pq):ovP p q=ovP q p:=by unfold ovP;rw[Bool.or_comm]
theorem qb39 {R:Type}{a:LA}(x:AV)(h:(a.length+1)*32<=140737488355328)(k:Option R):(bif decide ((a.length+([x]:List AV).length)*32<=140737488355328)then k else none)=k:=by
 rw[show([x]:List AV).length=1 from rfl,decide_eq_true h];rfl
theorem qbz7 (rec:List AV->List AV->Bool->Int->Int->Int->Option (List AV))(l:LA)(hl:qv l)(hn:l.length<=1000)(a:LA)(p:Pq)(kx:List AV->Option (List AV)):
 qob rec l (l.length:Int) a p.v p.hi p.lo p.bits kx FU 0 []=bif l.any (fun b=>winP p (pqY b))then some a else kx (l.filter fun b=>ovP (pqY b) p):=by
 rw[q1o]
 have key:=qcq (σ:=List AV) l hl.1 (fun n i s=>qo1 rec l (l.length:Int) a p.v p.hi p.lo p.bits kx n i s) (fun i s nx=>qib rec l (l.length:Int) i a p.v p.hi p.lo p.bits s nx kx) (fun _ _ _=>rfl)
  (fun i s=>s.length<=i) (fun r s=>bif r.any (fun b=>winP p (pqY b))then some a else kx (s++r.filter fun b=>ovP (pqY b) p)) ?_ ?_ [] FU (by simp) (qcz (by have:=hl.1;omega))
 · exact key
 · intro s nx _;simp[qib]
 · intro i y r s nx g1 g2 g3 g4 h2 h5
   have hy:=hl.2 y (List.mem_of_getElem? g2)
   have h6:(i:Int)<(l.length:Int):=by omega
   have hyy:=qnb hy.1
   unfold mkB at hyy
   have n1:=h5 (s++[y]) (by simp;omega)
   have n2:=h5 s (by omega)
   unfold qib
   simp only[h6,decide_true,cond_t,ixB_nat,g2,oB_s,hy.1,g4,qbhg,qbyc,hyy,hd_self]
   rw[q4o y (a:=s) (by omega),n1,n2,List.any_cons,List.filter_cons]
   rw[show qk4 p.v p.hi p.lo p.bits (gB y.cells 0) (gI y.cells 1) (gI y.cells 2) (gI y.cells 3)=winP p (pqY y)from rfl]
   rw[show ovP ⟨gB y.cells 0,gI y.cells 1,gI y.cells 2,gI y.cells 3⟩ ⟨p.v,p.hi,p.lo,p.bits⟩=ovP (pqY y) p from rfl]
   cases winP p (pqY y)<;>cases ovP (pqY y) p<;>simp
theorem qb1z {α:Type}(l:List α)(q:α->Bool):(((l.filter q).length:Int)==0)= !(l.any q):=by
 rw[Bool.eq_iff_iff]
 simp only[beq_iff_eq,Bool.not_eq_true',List.any_eq_false]
 constructor
 · intro h x hx
   have:l.filter q=[]:=List.eq_nil_of_length_eq_zero (by omega)
   simpa using List.filter_eq_nil_iff.1 this x hx
 · intro h
   have:l.filter q=[]:=List.filter_eq_nil_iff.2 h
   rw[this];rfl
theorem qbvf:∀(n:Nat) (p:Pq),p.good->p.np.k+1=n->∀(m:Nat),n<=m->∀(a l:LA),qv l->qd9 l->l.length<=1000->a.length+(qde l n p).length<=1000000000->
 qd5 m a l p.v p.hi p.lo p.bits=some (a++(qde l n p).map Pq.av)
 |0,p,hp,hk,_,_,_,_,_,_,_,_=>by omega
 |n+1,p,hp,hk,m,hm,a,l,hl,hg,hn,hsz=>by
  obtain⟨m,rfl⟩:∃j,m=j+1:=⟨m-1,by omega⟩
  show qu3 (qd5 m) a l p.v p.hi p.lo p.bits=_
  unfold qu3
  simp only[hd_self,qqe,List.length_nil,Bool.and_self,cond_t]
  rw[qbz7 _ l hl hn,qb1z]
  unfold qde at hsz⊢
  cases hW:l.any fun b=>winP p (pqY b)with
  |true=>simp
  |false=>
   simp only[hW,cond_f]at hsz⊢
   cases hO:l.any fun b=>ovP (pqY b) p with
   |false=>
    have hsz':a.length+1<=1000000000:=by simpa[hO]using hsz
    simp only[hO,Bool.not_false,cond_t,hd_self]
    rw[qb39 _ (by omega)]
    rfl
   |true=>
    simp only[hO,Bool.not_true,cond_f]at hsz⊢
    rw[qbr6 p.v p.hi p.lo p.bits hp.2.1 hp.2.2]
    simp only[oB_s]
    unfold qqj
    cases hh:qj8 p.v p.hi p.lo p.bits with
    |false=>
     have hh':p.half=false:=hh
     simp only[hh',cond_f,Bool.not_false,cond_t]
     simp
    |true=>
     have hh':p.half=true:=hh
     have hkk:=(Pq.half_iff hp).1 hh'
     have hlg:=Pq.low_good hp hh'
     have hhg:=Pq.high_good hp hh'
     have h1:p.low.np.sub p.np:=by rw[Pq.low_np hp hh'];exact Np.low_sub hp.np_ok hkk
     have h2:p.high.np.sub p.np:=by rw[Pq.high_np hp hh'];exact Np.high_sub hp.np_ok hkk
     have k1:p.low.np.k+1=n:=by rw[Pq.low_np hp hh'];show p.np.k-1+1=n;omega
     have k2:p.high.np.k+1=n:=by rw[Pq.high_np hp hh'];show p.np.k-1+1=n;omega
     have f1:=qbhm hg hp n p.low hlg h1
     have f2:=qbhm hg hp n p.high hhg h2
     have hf:qv (l.filter fun b=>ovP (pqY b) p):=⟨Nat.le_trans (List.length_filter_le _ _) hl.1,fun y hy=>hl.2 y (List.mem_filter.1 hy).1⟩
     have hfg:qd9 (l.filter fun b=>ovP (pqY b) p):=fun y hy=>hg y (List.mem_filter.1 hy).1
     have hfn:(l.filter fun b=>ovP (pqY b) p).length<=1000:=Nat.le_trans (List.length_filter_le _ _) hn
     simp only[hh',cond_t,List.length_append]at hsz⊢
     have r1:=qbvf n p.low hlg k1 m (by omega) a _ hf hfg hfn (by rw[f1];omega)
     have r2:=qbvf n p.high hhg k2 m (by omega) (a++(qde l n p.low).map Pq.av) _ hf hfg hfn (by rw[f2];simp only[List.length_append,List.length_map];omega)
     rw[f1]at r1
     rw[f2]at r2
     simp only[Bool.not_true,cond_f,hd_self,cond_t,Bool.and_self]
     rw[show qd5 m a (l.filter fun b=>ovP (pqY b) p) (gB (lowP p.v p.hi p.lo p.bits).cells 0) (gI (lowP p.v p.hi p.lo p.bits).cells 1) (gI (lowP p.v p.hi p.lo p.bits).cells 2) (gI (lowP p.v p.hi p.lo p.bits).cells 3)=some (a++(qde l n p.low).map Pq.av)from r1]
     simp only[oB_s,hd_self,cond_t]
     rw[show qd5 m (a++(qde l n p.low).map Pq.av) (l.filter fun b=>ovP (pqY b) p) (gB (qx4 p.v p.hi p.lo p.bits).cells 0) (gI (qx4 p.v p.hi p.lo p.bits).cells 1) (gI (qx4 p.v p.hi p.lo p.bits).cells 2) (gI (qx4 p.v p.hi p.lo p.bits).cells 3)=some (a++(qde l n p.low).map Pq.av++(qde l n p.high).map Pq.av)from r2]
     simp
theorem qbye (rec:List AV->Bool->Int->Int->Int->Option (List AV))(l:LA)(hl:qv l)(p:Pq)(u1:uok p.hi)(u2:uok p.lo)(kx:Bool->Option (List AV)):
 qk8 rec l p.v p.hi p.lo p.bits kx FU false 0=bif l.any (fun b=>winP p (pqY b))then some []else kx (l.any fun b=>ovP (pqY b) p):=by
 rw[qyh]
 have key:=qcq (σ:=Bool) l hl.1 (fun n i s=>qmw rec l p.v p.hi p.lo p.bits kx n s i) (fun i s nx=>qfx rec l s i p.v p.hi p.lo p.bits (fun s i=>nx i s) kx) (fun _ _ _=>rfl)
  (fun _ _=>True) (fun r s=>bif r.any (fun b=>winP p (pqY b))then some []else kx (s||r.any fun b=>ovP (pqY b) p)) ?_ ?_ false FU trivial (qcz (by have:=hl.1;omega))
 · exact key
 · intro s nx _;simp[qfx]
 · intro i y r s nx g1 g2 g3 g4 _ h5
   have hy:=hl.2 y (List.mem_of_getElem? g2)
   have h6:(i:Int)<(l.length:Int):=by omega
   unfold qfx
   simp only[h6,decide_true,cond_t,ixB_nat,g2,oB_s,hy.1,g4,q0w _ _ _ _ _ _ _ _ u1 u2,qbyd _ _ _ _ _ _ _ _ u1 u2 hy.2.1 hy.2.2.1,hd_self,List.any_cons,h5 _ trivial]
   rw[show qk4 p.v p.hi p.lo p.bits (gB y.cells 0) (gI y.cells 1) (gI y.cells 2) (gI y.cells 3)=winP p (pqY y)from rfl]
   rw[show ovP ⟨p.v,p.hi,p.lo,p.bits⟩ ⟨gB y.cells 0,gI y.cells 1,gI y.cells 2,gI y.cells 3⟩=ovP (pqY y) p from qb1y _ _]
   cases winP p (pqY y)<;>cases ovP (pqY y) p<;>simp
theorem qbqj:∀(n:Nat) (p:Pq),p.good->p.np.k+1=n->∀(m:Nat),n<=m->∀(l:LA),qv l->qd9 l->(qde l n p).length<=1000000000->
 qcn m l p.v p.hi p.lo p.bits=some ((qde l n p).map Pq.av)
 |0,p,hp,hk,_,_,_,_,_,_=>by omega
 |n+1,p,hp,hk,m,hm,l,hl,hg,hsz=>by
  obtain⟨m,rfl⟩:∃j,m=j+1:=⟨m-1,by omega⟩
  show qmx (qcn m) l p.v p.hi p.lo p.bits=_
  unfold qmx
  rw[qbye _ l hl p hp.2.1 hp.2.2]
  unfold qde at hsz⊢
  cases hW:l.any fun b=>winP p (pqY b)with
  |true=>simp
  |false=>
   simp only[hW,cond_f]at hsz⊢
   cases hO:l.any fun b=>ovP (pqY b) p with
   |false=>rfl
   |true=>
    simp only[hO,Bool.not_true,cond_f]at hsz⊢
    rw[qbr5 p.v p.hi p.lo p.bits hp.2.1 hp.2.2]
    simp only[oB_s]
    unfold qqj
    cases hh:qj8 p.v p.hi p.lo p.bits with
    |false=>
     have hh':p.half=false:=hh
     simp only[hh',cond_f,Bool.not_false,cond_t]
     simp
    |true=>
     have hh':p.half=true:=hh
     have hkk:=(Pq.half_iff hp).1 hh'
     have hlg:=Pq.low_good hp hh'
     have hhg:=Pq.high_good hp hh'
     have k1:p.low.np.k+1=n:=by rw[Pq.low_np hp hh'];show p.np.k-1+1=n;omega
     have k2:p.high.np.k+1=n:=by rw[Pq.high_np hp hh'];show p.np.k-1+1=n;omega
     simp only[hh',cond_t,List.length_append]at hsz
     simp only[hh',cond_t]
     have r1:=qbqj n p.low hlg k1 m (by omega) l hl hg (by omega)
     have r2:=qbqj n p.high hhg k2 m (by omega) l hl hg (by omega)
     simp only[Bool.not_true,cond_f]
     rw[show qcn m l (gB (lowP p.v p.hi p.lo p.bits).cells 0) (gI (lowP p.v p.hi p.lo p.bits).cells 1) (gI (lowP p.v p.hi p.lo p.bits).cells 2) (gI (lowP p.v p.hi p.lo p.bits).cells 3)=some ((qde l n p.low).map Pq.av)from r1]
     rw[show qcn m l (gB (qx4 p.v p.hi p.lo p.bits).cells 0) (gI (qx4 p.v p.hi p.lo p.bits).cells 1) (gI (qx4 p.v p.hi p.lo p.bits).cells 2) (gI (qx4 p.v p.hi p.lo p.bits).cells 3)=some ((qde l n p.high).map Pq.av)from r2]
     have g1:(([]:List AV).length+((qde l n p.low).map Pq.av).length)*32<=140737488355328:=by simp;omega
     have g2:(((qde l n p.low).map Pq.av).length+((qde l n p.high).map Pq.av).length)*32<=140737488355328:=by simp;omega
     simp only[oB_s,hd_self,cond_t,g1,g2,decide_true]
     rw[List.map_append]
theorem q2q {l:LA}(hl:qv l)(ht:qdx l):qd9 l:=fun y hy=>by
 obtain⟨j,hj⟩:=List.getElem?_of_mem hy
 exact⟨(ht j y hj).p,(hl.2 y hy).2.1,(hl.2 y hy).2.2.1⟩
theorem qpz {p q:Pq}(hp:p.good)(hq:q.good):qd8 p.v p.hi p.lo p.bits q.v q.hi q.lo q.bits=true↔p.np.sub q.np/\p.np.k<q.np.k:=by
 unfold qd8
 rw[Bool.and_eq_true,decide_eq_true_eq,show qk4 p.v p.hi p.lo p.bits q.v q.hi q.lo q.bits=winP p q from rfl,qg9 hp hq]
 obtain⟨a1,a2,a3,_⟩:=hp.range
 obtain⟨b1,b2,b3,_⟩:=hq.range
 constructor
 · rintro⟨h1,h2⟩
   refine⟨h2,?_⟩
   have:p.v=q.v:=h2.1
   rw[this]at a3;omega
 · rintro⟨h1,h2⟩
   refine⟨?_,h1⟩
   have:p.v=q.v:=h1.1
   rw[this]at a3;omega
def qm8 (l:LA)(p:Pq):List AV:=l.filter fun y=>qd8 (gB y.cells 0) (gI y.cells 1) (gI y.cells 2) (gI y.cells 3) p.v p.hi p.lo p.bits
theorem qbmc {l:LA}(hg:qd9 l){p:Pq}(hp:p.good):∀(n:Nat) (y:AV),y∈l->(pqY y).np.sub p.np->(pqY y).np.k<p.np.k->p.np.k-(pqY y).np.k<=n->∃c,c∈qx5 l p.v p.hi p.lo p.bits/\(pqY y).np.sub (pqY c).np
 |0,y,hy,h1,h2,h3=>by omega
 |n+1,y,hy,h1,h2,h3=>by
  have hyg:=hg y hy
  by_cases hc:qbh3 l p.v p.hi p.lo p.bits y=true
  · exact⟨y,List.mem_filter.2 ⟨hy,hc⟩,Np.sub_refl hyg.np_ok⟩
  · unfold qbh3 at hc
    have hlp:qd8 (gB y.cells 0) (gI y.cells 1) (gI y.cells 2) (gI y.cells 3) p.v p.hi p.lo p.bits=true:=(qpz hyg hp).2 ⟨h1,h2⟩
    rw[hlp]at hc
    simp only[Bool.true_and,Bool.not_eq_true',Bool.not_eq_false,List.any_eq_true]at hc
    obtain⟨o,ho,hoo⟩:=hc
    rw[Bool.and_eq_true]at hoo
    have hog:=hg o ho
    obtain⟨a1,a2⟩:=(qpz hog hp).1 hoo.1
    obtain⟨b1,b2⟩:=(qpz hyg hog).1 (show qd8 (pqY y).v (pqY y).hi (pqY y).lo (pqY y).bits (pqY o).v (pqY o).hi (pqY o).lo (pqY o).bits=true from hoo.2)
    obtain⟨c,hc1,hc2⟩:=qbmc hg hp n o ho a1 a2 (by omega)
    exact⟨c,hc1,Np.sub_trans b1 hc2⟩
theorem qbs6 {l:LA}(hg:qd9 l){p:Pq}(hp:p.good):qde (qm8 l p) (p.np.k+1) p=qde (qx5 l p.v p.hi p.lo p.bits) (p.np.k+1) p:=by
 have hd:∀y,y∈qm8 l p↔y∈l/\(pqY y).np.sub p.np/\(pqY y).np.k<p.np.k:=fun y=>by
  unfold qm8
  rw[List.mem_filter]
  constructor
  · rintro⟨h1,h2⟩;exact⟨h1,(qpz (hg y h1) hp).1 h2⟩
  · rintro⟨h1,h2⟩;exact⟨h1,(qpz (hg y h1) hp).2 h2⟩
 have hcd:∀y,y∈qx5 l p.v p.hi p.lo p.bits->y∈qm8 l p:=fun y hy=>by
  unfold qx5 at hy
  rw[List.mem_filter]at hy
  unfold qbh3 at hy
  simp only[Bool.and_eq_true]at hy
  exact List.mem_filter.2 ⟨hy.1,hy.2.1⟩
 have hgd:qd9 (qm8 l p):=fun y hy=>hg y ((hd y).1 hy).1
 have hgc:qd9 (qx5 l p.v p.hi p.lo p.bits):=fun y hy=>hgd y (hcd y hy)
 refine qz4 hgd hgc hp (fun q hq hs=> ?_) (fun q hq hs=> ?_) _ p hp (Np.sub_refl hp.np_ok)
 · rw[Bool.eq_iff_iff,List.any_eq_true,List.any_eq_true]
   constructor
   · rintro⟨b,hb,h⟩
     obtain⟨h1,h2,h3⟩:=(hd b).1 hb
     obtain⟨c,hc,hs2⟩:=qbmc hg hp _ b h1 h2 h3 (Nat.le_refl _)
     exact⟨c,hc,(qg9 hq (hgc c hc)).2 (Np.sub_trans ((qg9 hq (hgd b hb)).1 h) hs2)⟩
   · rintro⟨c,hc,h⟩;exact⟨c,hcd c hc,h⟩
 · rw[Bool.eq_iff_iff,List.any_eq_true,List.any_eq_true]
   constructor
   · rintro⟨b,hb,h⟩
     obtain⟨h1,h2,h3⟩:=(hd b).1 hb
     obtain⟨c,hc,hs2⟩:=qbmc hg hp _ b h1 h2 h3 (Nat.le_refl _)
     refine⟨c,hc,?_⟩
     unfold ovP at h⊢
     rw[Bool.or_eq_true,qg9 (hgd b hb) hq,qg9 hq (hgd b hb)]at h
     rw[Bool.or_eq_true,qg9 (hgc c hc) hq,qg9 hq (hgc c hc)]
     rcases h with h|h
     · rcases Nat.lt_or_ge (pqY c).np.k q.np.k with hk|hk
       · exact .inl (Np.nest hs2 h (by omega))
       · exact .inr (Np.nest h hs2 hk)
     · exact .inr (Np.sub_trans h hs2)
   · rintro⟨c,hc,h⟩;exact⟨c,hcd c hc,h⟩
def qbh4 (l:LA)(p:Pq):List AV:=
 bif(match l.find? (atP p.v p.hi p.lo p.bits)with|some y=>gI y.cells 4==1|none=>false)then(qde (qm8 l p) (p.np.k+1) p).map Pq.av else[]
theorem q0z {l:LA}(hg:qd9 l){p:Pq}{y:AV}(hy:l.find? (atP p.v p.hi p.lo p.bits)=some y):p.good/\pqY y=p:=by
 have h1:=List.find?_some hy
 obtain⟨a,b,c,d⟩:=qol.1 h1
 have e:pqY y=p:=by unfold pqY;rw[a,b,c,d]
 have:=hg y (List.mem_of_find?_eq_some hy)
 rw[e]at this
 exact⟨this,e⟩
theorem qb22 {n:Nat}(h:n<=1000):n<=FU:=by rw[qb2v];omega
theorem qbr8 (y:AV):gI (blkV y).cells 4=gI y.cells 4:=rfl
theorem qb5f (l:LA)(hl:qv l)(hg:qd9 l)(hn:l.length<=1000)(p:Pq):qzr l p.v p.hi p.lo p.bits=some (qbh4 l p):=by
 rw[qbpq];unfold qu4 qbh4
 rw[qbh1 l hl]
 simp only[oB_s]
 unfold qn6
 cases hf:l.find? (atP p.v p.hi p.lo p.bits)with
 |none=>rfl
 |some y=>
  obtain⟨hp,_⟩:=q0z hg hf
  simp only[qbr8,Bool.not_true,Bool.false_or]
  cases hk:gI y.cells 4==1 with
  |false=>
   have:(gI y.cells 4 != 1)=true:=by unfold bne;rw[hk];rfl
   rw[this];rfl
  |true=>
   have:(gI y.cells 4 != 1)=false:=by unfold bne;rw[hk];rfl
   rw[this]
   simp only[cond_f,qqe,List.length_nil,Bool.and_self,cond_t]
   have lp:∀kx:List AV->Option (List AV),qw3 l (l.length:Int) p.v p.hi p.lo p.bits kx FU 0 []=kx (qm8 l p):=by
    intro kx
    rw[qbe2]
    have key:=qcq (σ:=List AV) l hl.1 (fun n i s=>qjx l (l.length:Int) p.v p.hi p.lo p.bits kx n i s) (fun i s nx=>qjw l (l.length:Int) i p.v p.hi p.lo p.bits s nx kx) (fun _ _ _=>rfl)
     (fun i s=>s.length<=i) (fun r s=>kx (s++qm8 r p)) ?_ ?_ [] FU (by simp) (qcz (by have:=hl.1;omega))
    · exact key
    · intro s nx _;simp[qjw,qm8]
    · intro i y r s nx g1 g2 g3 g4 h2 h5
      have hy:=hl.2 y (List.mem_of_getElem? g2)
      have h6:(i:Int)<(l.length:Int):=by omega
      have hyy:=qnb hy.1
      unfold mkB at hyy
      have n1:=h5 (s++[y]) (by simp;omega)
      have n2:=h5 s (by omega)
      unfold qjw
      simp only[h6,decide_true,cond_t,ixB_nat,g2,oB_s,hy.1,g4,qbu7,hyy,hd_self]
      rw[q4o y (a:=s) (by omega),n1,n2]
      unfold qm8
      rw[List.filter_cons]
      cases qd8 (gB y.cells 0) (gI y.cells 1) (gI y.cells 2) (gI y.cells 3) p.v p.hi p.lo p.bits<;>simp
   rw[lp]
   simp only[hd_self,cond_t]
   have hf2:qv (qm8 l p):=⟨Nat.le_trans (List.length_filter_le _ _) hl.1,fun y hy=>hl.2 y (List.mem_filter.1 hy).1⟩
   have hfg:qd9 (qm8 l p):=fun y hy=>hg y (List.mem_filter.1 hy).1
   have hfn:(qm8 l p).length<=1000:=Nat.le_trans (List.length_filter_le _ _) hn
   have hk2:=hp.range.2.2.2
   have:=qbvf (p.np.k+1) p hp rfl FU (qb22 (by omega)) [] (qm8 l p) hf2 hfg hfn (by have:=qbmb hfg hfn (n:=p.np.k+1) (by omega) hp;simp;omega)
   rw[q7k,this]
   simp
theorem qb4a (l:LA)(hl:qv l)(hg:qd9 l)(hn:l.length<=1000)(p:Pq):qvd l p.v p.hi p.lo p.bits=some (qbh4 l p):=by
 rw[qbls];unfold qrx qbh4
 rw[q9m l hl]
 simp only[oB_s]
 unfold qn6
 cases hf:l.find? (atP p.v p.hi p.lo p.bits)with
 |none=>simp only[qyi,qi5];rfl
 |some y=>
  obtain⟨hp,_⟩:=q0z hg hf
  simp only[qyi,qi5,qbr8,Bool.not_true,Bool.false_or]
  cases hk:gI y.cells 4==1 with
  |false=>
   have:(gI y.cells 4 != 1)=true:=by unfold bne;rw[hk];rfl
   rw[this];rfl
  |true=>
   have:(gI y.cells 4 != 1)=false:=by unfold bne;rw[hk];rfl
   rw[this]
   simp only[cond_f,qwo,hp.1,oB_s,Bool.not_true,qbwg l hl (by omega),cond_t]
   have hcd:∀y,y∈qx5 l p.v p.hi p.lo p.bits->y∈l:=fun y hy=>(List.mem_filter.1 hy).1
   have hf2:qv (qx5 l p.v p.hi p.lo p.bits):=⟨Nat.le_trans (List.length_filter_le _ _) hl.1,fun y hy=>hl.2 y (hcd y hy)⟩
   have hfg:qd9 (qx5 l p.v p.hi p.lo p.bits):=fun y hy=>hg y (hcd y hy)
   have hfn:(qx5 l p.v p.hi p.lo p.bits).length<=1000:=Nat.le_trans (List.length_filter_le _ _) hn
   have hk2:=hp.range.2.2.2
   have:=qbqj (p.np.k+1) p hp rfl FU (qb22 (by omega)) (qx5 l p.v p.hi p.lo p.bits) hf2 hfg (by have:=qbmb hfg hfn (n:=p.np.k+1) (by omega) hp;omega)
   rw[q3z,this,qbs6 hg hp]
   rfl
theorem q2r {l:LA}:qdx l↔(∀y,y∈l->qpx y=true/\mayB y=true)/\l.Pairwise fun x y=>ltY x y/\qbm y x=false:=by
 constructor
 · intro h
   refine⟨fun y hy=> ?_,List.pairwise_iff_getElem.2 fun i j hi hj hij=> ?_⟩
   · obtain⟨j,hj⟩:=List.getElem?_of_mem hy
     exact⟨(h j y hj).p,(h j y hj).may⟩
   · have h1:l[i]?=some l[i]:=by simp
     have h2:l[j]?=some l[j]:=by simp
     exact⟨h.sorted i _ h1 j _ hij h2,(h j _ h2).bar i _ hij h1⟩
 · rintro⟨h1,h2⟩ j y hy
   rw[List.pairwise_iff_getElem]at h2
   obtain⟨hj,rfl⟩:=List.getElem?_eq_some_iff.1 hy
   refine⟨(h1 _ (List.getElem_mem hj)).1,(h1 _ (List.getElem_mem hj)).2,fun i z hji hz=> ?_,fun k z hk hz=> ?_⟩
   · obtain⟨hi,rfl⟩:=List.getElem?_eq_some_iff.1 hz
     exact(h2 i j hi hj (by omega)).1
   · obtain⟨hi,rfl⟩:=List.getElem?_eq_some_iff.1 hz
     exact(h2 k j hi hj hk).2
theorem qdx.rem {l:LA}(ht:qdx l)(v:Bool)(hi lo bits:Int):qdx (remF l v hi lo bits):=by
 rw[q2r]at ht⊢
 exact⟨fun y hy=>ht.1 y (List.mem_filter.1 hy).1,ht.2.filter _⟩
theorem qb10 {l:LA}(hl:qv l)(v:Bool)(hi lo bits:Int):qv (remF l v hi lo bits):=⟨Nat.le_trans (List.length_filter_le _ _) hl.1,fun y hy=>hl.2 y (List.mem_filter.1 hy).1⟩
theorem qb11 {l:LA}(hl:qv l)(hn:l.length<=100000){b:AV}(hb:qoj b):qv (insF b l):=⟨by rw[qbl8];omega,fun y hy=>by
 rcases qs2.1 hy with rfl|h
 · exact hb
 · exact hl.2 y h⟩
theorem qbb6 {l:LA}(hl:qv l){v:Bool}{hi lo bits:Int}{y:AV}(h:l.find? (atP v hi lo bits)=some y):qn6 l v hi lo bits=(y,true):=by
 unfold qn6;rw[h];simp only
 rw[qbz3 (hl.2 y (List.mem_of_find?_eq_some h)).1]
theorem qbo0 {l:LA}{v:Bool}{hi lo bits:Int}(h:l.find? (atP v hi lo bits)=none):qn6 l v hi lo bits=(blk0,false):=by
 unfold qn6;rw[h]
theorem pick {l:LA}{n:Int}(hn:0<=n/\n<=255)(h0:0<l.length)(hl:l.length<=1000):
 ∃y,ixB l ((IntKind.i64.wrap n).tmod (l.length:Int))=some y/\y∈l:=by
 obtain⟨m,rfl⟩:=Int.eq_ofNat_of_zero_le hn.1
 rw[w64 (by omega) (by omega),<-Int.ofNat_tmod,ixB_nat]
 have hlt:=Nat.mod_lt m h0
 refine⟨l[m%l.length],?_,List.getElem_mem _⟩
 simp[hlt]
def atY (b y:AV):Bool:=atP (gB b.cells 0) (gI b.cells 1) (gI b.cells 2) (gI b.cells 3) y
theorem qbqk {b y:AV}:atY b y=true↔pqY y=pqY b:=by
 unfold atY;rw[qol];unfold pqY
 constructor
 · rintro⟨h1,h2,h3,h4⟩;rw[h1,h2,h3,h4]
 · intro h;injection h with h1 h2 h3 h4;exact⟨h1,h2,h3,h4⟩
theorem qb5g {y b:AV}(h:cmpY y b>0):ltY b y:=(qoq b y).2.2.1 ((qoq y b).1.1 h)
theorem qb5h {y b:AV}(h:¬cmpY y b>0)(hne:atY b y=false):ltY y b:=by
 refine(qoq y b).2.2.1 ?_
 have:cmpY y b≠0:=fun h0=>by
  have:=qbb0.1 (qbb1.2 h0)
  rw[show atY b y=true from qol.2 this]at hne;cases hne
 omega
theorem qb5i {y b:AV}(h:ltY y b):¬cmpY y b>0:=by
 have:=(qoq y b).2.2.2 h
 omega
theorem qbql {y b:AV}(h:ltY b y):cmpY y b>0:=(qoq y b).1.2 ((qoq b y).2.2.2 h)
theorem qbr9 {b:AV}:∀{l:LA},l.Pairwise (fun x y=>ltY x y/\qbm y x=false)->(∀z,z∈l->atY b z=false/\qbm b z=false/\qbm z b=false)->(insF b l).Pairwise fun x y=>ltY x y/\qbm y x=false
 |[],_,_=>by simp[insF]
 |y::r,hp,h=>by
  rw[List.pairwise_cons]at hp
  rw[q0x]
  by_cases hc:cmpY y b>0
  · simp only[hc,decide_true,cond_t]
    have hby:=qb5g hc
    refine List.pairwise_cons.2 ⟨fun z hz=> ?_,List.pairwise_cons.2 hp⟩
    refine⟨?_,(h z hz).2.2⟩
    rcases List.mem_cons.1 hz with rfl|hz'
    · exact hby
    · exact q57 hby (hp.1 z hz').1
  · simp only[hc,decide_false,cond_f]
    have h0:=h y (by simp)
    refine List.pairwise_cons.2 ⟨fun z hz=> ?_,qbr9 hp.2 fun z hz=>h z (List.mem_cons_of_mem _ hz)⟩
    rcases qs2.1 hz with rfl|hz'
    · exact⟨qb5h hc h0.1,h0.2.1⟩
    · exact hp.1 z hz'
theorem qdx.ins {l:LA}(ht:qdx l){b:AV}(h1:qpx b=true)(h2:mayB b=true)(h:∀z,z∈l->atY b z=false/\qbm b z=false/\qbm z b=false):qdx (insF b l):=by
 obtain⟨a1,a2⟩:=q2r.1 ht
 refine q2r.2 ⟨fun y hy=> ?_,qbr9 a2 h⟩
 rcases qs2.1 hy with rfl|hy'
 · exact⟨h1,h2⟩
 · exact a1 y hy'
theorem qbvg {q:AV->Bool}{b:AV}(hb:q b=false):∀l:List AV,(insF b l).filter q=l.filter q
 |[]=>by simp[insF,hb]
 |y::r=>by
  rw[q0x]
  cases decide (cmpY y b>0)with
  |true=>simp only[cond_t];rw[List.filter_cons];simp[hb]
  |false=>simp only[cond_f];rw[List.filter_cons,List.filter_cons,qbvg hb r]
theorem qbo1 {q:AV->Bool}{l:LA}(h:∀z,z∈l->q z=true):l.filter q=l:=List.filter_eq_self.2 h
theorem qbw8 {y:AV}:∀{l:LA},l.Pairwise ltY->y∈l->insF y (l.filter fun z=> !atY y z)=l
 |[],_,h=>by simp at h
 |x::r,hp,hm=>by
  rw[List.pairwise_cons]at hp
  have hyy:atY y y=true:=qbqk.2 rfl
  have nat:∀a b:AV,ltY a b->atY b a=false/\atY a b=false:=fun a b hab=>by
   constructor
   · cases hq:atY b a with
     |false=>rfl
     |true=>
      have:=qbql hab
      have h0:=qbb1.1 (qbb0.2 (qol.1 hq))
      have h1:=(qoq a b).2.2.2 hab
      omega
   · cases hq:atY a b with
     |false=>rfl
     |true=>
      have h0:=qbb1.1 (qbb0.2 (qol.1 hq))
      have:=qbql hab
      omega
  rcases List.mem_cons.1 hm with rfl|hm'
  · have e:(r.filter fun z=> !atY y z)=r:=qbo1 fun z hz=>by rw[(nat y z (hp.1 z hz)).2];rfl
    rw[List.filter_cons,hyy]
    simp only[Bool.not_true,Bool.false_eq_true,if_false,e]
    cases r with
    |nil=>rfl
    |cons z r=>rw[q0x];simp only[qbql (hp.1 z (by simp)),decide_true,cond_t]
  · have hxy:=hp.1 y hm'
    rw[List.filter_cons,(nat x y hxy).1]
    simp only[Bool.not_false,if_true]
    rw[q0x]
    simp only[qb5i hxy,decide_false,cond_f]
    rw[qbw8 hp.2 hm']
theorem qb4b {l:LA}(ht:qdx l):l.Pairwise ltY:=(q2r.1 ht).2.imp fun h=>h.1
theorem qb12 {l:LA}(ht:qdx l){y:AV}(hy:y∈l):(remF l (pqY y).v (pqY y).hi (pqY y).lo (pqY y).bits).length+1=l.length:=by
 have:=congrArg List.length (qbw8 (qb4b ht) hy)
 rw[qbl8]at this
 exact this
def barK (ky kz:Int):Bool:=bif kz==3 then true else bif kz==2 then ky != 3 else false
theorem qb4c {y z:AV}(hy:(pqY y).good)(hz:(pqY z).good):qbm y z=false↔((pqY y).np.sub (pqY z).np->(pqY y).np.k<(pqY z).np.k->barK (gI y.cells 4) (gI z.cells 4)=false):=by
 have e:qbm y z=bif qd8 (pqY y).v (pqY y).hi (pqY y).lo (pqY y).bits (pqY z).v (pqY z).hi (pqY z).lo (pqY z).bits then barK (gI y.cells 4) (gI z.cells 4)else false:=by
  unfold qbm qd8
  rw[Bool.and_comm];rfl
 rw[e]
 cases hl:qd8 (pqY y).v (pqY y).hi (pqY y).lo (pqY y).bits (pqY z).v (pqY z).hi (pqY z).lo (pqY z).bits with
 |true=>obtain⟨h1,h2⟩:=(qpz hy hz).1 hl;simp[h1,h2]
 |false=>
  simp only[cond_f,true_iff]
  intro h1 h2
  rw[(qpz hy hz).2 ⟨h1,h2⟩]at hl;cases hl
theorem qbw9 {l:LA}(hg:qd9 l){p:Pq}(hp:p.good):occF l p.v p.hi p.lo p.bits=false↔∀y,y∈l->¬((pqY y).np.sub p.np/\(pqY y).np.k<p.np.k):=by
 unfold occF
 rw[List.any_eq_false]
 constructor
 · intro h y hy h2;exact h y hy ((qpz (p:=pqY y) (hg y hy) hp).2 h2)
 · intro h y hy h2;exact h y hy ((qpz (p:=pqY y) (hg y hy) hp).1 h2)
theorem qb4d {l:LA}{b:AV}:l.any (atP (gB b.cells 0) (gI b.cells 1) (gI b.cells 2) (gI b.cells 3))=false↔∀z,z∈l->atY b z=false:=by
 rw[List.any_eq_false]
 constructor
 · intro h z hz;have:=h z hz;unfold atY;simpa using this
 · intro h z hz;have:=h z hz;unfold atY at this;rw[this];simp
theorem qb13 {l:LA}(hl:qv l)(ht:qdx l){b:AV}(hb:qoj b)(h:(addF l b).2=0):
 (addF l b).1=insF b l/\qdx (insF b l)/\qdd (insF b l) (gB b.cells 0) (gI b.cells 1) (gI b.cells 2) (gI b.cells 3)=(l,0):=by
 have hg:=q2q hl ht
 unfold addF at*
 cases hp:qpx b with
 |false=>simp[hp]at h
 |true=>
 cases hm:mayB b with
 |false=>simp[hp,hm]at h
 |true=>
 cases ha:l.any (atP (gB b.cells 0) (gI b.cells 1) (gI b.cells 2) (gI b.cells 3))with
 |true=>simp[hp,hm,ha]at h
 |false=>
 cases hbr:(l.any (qbm b)||occF l (gB b.cells 0) (gI b.cells 1) (gI b.cells 2) (gI b.cells 3))with
 |true=>simp only[hp,hm,ha,hbr,Bool.not_true,cond_f,cond_t]at h;cases h
 |false=>
 rw[hp,hm,ha,hbr]at h
 simp only[Bool.not_true,cond_f]at*
 cases h512:decide ((l.length:Int)>=512)with
 |true=>rw[h512]at h;simp at h
 |false=>
 simp only[cond_f]
 rw[Bool.or_eq_false_iff]at hbr
 have hbg:(pqY b).good:=⟨hp,hb.2.1,hb.2.2.1⟩
 have ho:=(qbw9 (p:=pqY b) hg hbg).1 hbr.2
 have hat:=qb4d.1 ha
 have key:∀z,z∈l->atY b z=false/\qbm b z=false/\qbm z b=false:=fun z hz=>by
  refine⟨hat z hz,?_,?_⟩
  · have:=List.any_eq_false.1 hbr.1 z hz;simpa using this
  · exact(qb4c (hg z hz) hbg).2 fun h1 h2=>absurd ⟨h1,h2⟩ (ho z hz)
 have hT:=ht.ins hp hm key
 refine⟨trivial,hT,?_⟩
 unfold qdd
 have e1:(insF b l).any (atP (gB b.cells 0) (gI b.cells 1) (gI b.cells 2) (gI b.cells 3))=true:=List.any_eq_true.2 ⟨b,qs2.2 (.inl rfl),qol.2 ⟨rfl,rfl,rfl,rfl⟩⟩
 have e2:occF (insF b l) (gB b.cells 0) (gI b.cells 1) (gI b.cells 2) (gI b.cells 3)=false:=by
  refine(qbw9 (p:=pqY b) (l:=insF b l) (fun y hy=> ?_) hbg).2 fun y hy=> ?_
  · rcases qs2.1 hy with rfl|hy'
    · exact hbg
    · exact hg y hy'
  · rcases qs2.1 hy with rfl|hy'
    · intro h;omega
    · exact ho y hy'
 have e3:remF (insF b l) (gB b.cells 0) (gI b.cells 1) (gI b.cells 2) (gI b.cells 3)=l:=by
  unfold remF
  rw[qbvg (b:=b) (by simp[atP]) l]
  exact qbo1 fun z hz=>by have:=hat z hz;unfold atY at this;rw[this];rfl
 rw[e1,e2,e3];rfl
theorem qbvh {p:Pq}(hp:p.good)(h:p.half=true):p.low.np.sub p.np/\p.high.np.sub p.np/\p.low.np.k+1=p.np.k/\p.high.np.k+1=p.np.k:=by
 have hk:=(Pq.half_iff hp).1 h
 rw[Pq.low_np hp h,Pq.high_np hp h]
 refine⟨Np.low_sub hp.np_ok hk,Np.high_sub hp.np_ok hk,?_,?_⟩
 · show p.np.k-1+1=p.np.k;omega
 · show p.np.k-1+1=p.np.k;omega
theorem qbz8 {l:LA}{q:AV->Bool}{y:AV}(hy:y∈l)(hq:q y=true)(h:∀z,z∈l->q z=true->z=y):l.find? q=some y:=by
 cases hf:l.find? q with
 |none=>have:=List.find?_eq_none.1 hf y hy;rw[hq]at this;simp at this
 |some z=>rw[h z (List.mem_of_find?_eq_some hf) (List.find?_some hf)]
theorem qbkh {l:LA}(hl:qv l)(ht:qdx l){v:Bool}{hi lo bits:Int}(h:(qdd l v hi lo bits).2=0):
 qv (qdd l v hi lo bits).1/\qdx (qdd l v hi lo bits).1/\(qdd l v hi lo bits).1.length+1=l.length:=by
 unfold qdd at*
 cases h1:l.any (atP v hi lo bits)with
 |false=>rw[h1]at h;cases h
 |true=>
 cases h2:occF l v hi lo bits with
 |true=>rw[h1,h2]at h;cases h
 |false=>
 simp only[Bool.not_true,cond_f]
 obtain⟨y,hy,ha⟩:=List.any_eq_true.1 h1
 obtain⟨a,b,c,d⟩:=qol.1 ha
 have:=qb12 ht hy
 unfold pqY at this
 simp only[a,b,c,d]at this
 exact⟨qb10 hl v hi lo bits,ht.rem v hi lo bits,this⟩
theorem qbyf {l:LA}(ht:qdx l){y z:AV}(hy:y∈l)(hz:z∈l)(h:pqY z=pqY y):z=y:=by
 obtain⟨i,hi⟩:=List.getElem?_of_mem hy
 obtain⟨j,hj⟩:=List.getElem?_of_mem hz
 have h1:atP (gB y.cells 0) (gI y.cells 1) (gI y.cells 2) (gI y.cells 3) z=true:=qbqk.2 h
 have:=qdx.uniq ht hi hj (qol.2 ⟨rfl,rfl,rfl,rfl⟩) h1
 subst this
 rw[hi]at hj;cases hj;rfl
theorem qbb7 {C:LA}(hC:qd9 C):∀(n:Nat) (p:Pq),p.good->∀q,q∈qde C n p->q.good/\q.np.sub p.np/\∀c,c∈C->ovP (pqY c) q=false
 |0,p,hp,q,hq=>by simp[qde]at hq
 |n+1,p,hp,q,hq=>by
  unfold qde at hq
  cases hW:C.any fun b=>winP p (pqY b)with
  |true=>simp[hW]at hq
  |false=>
   cases hO:C.any fun b=>ovP (pqY b) p with
   |false=>
    simp[hW,hO]at hq
    subst hq
    exact⟨hp,Np.sub_refl hp.np_ok,fun c hc=>by have:=List.any_eq_false.1 hO c hc;simpa using this⟩
   |true=>
    cases hh:p.half with
    |false=>simp[hW,hO,hh]at hq
    |true=>
     rw[hW,hO,hh]at hq
     simp only[cond_f,Bool.not_true,cond_t,List.mem_append]at hq
     obtain⟨s1,s2,_,_⟩:=qbvh hp hh
     rcases hq with hq|hq
     · obtain⟨a,b,c⟩:=qbb7 hC n p.low (Pq.low_good hp hh) q hq
       exact⟨a,Np.sub_trans b s1,c⟩
     · obtain⟨a,b,c⟩:=qbb7 hC n p.high (Pq.high_good hp hh) q hq
       exact⟨a,Np.sub_trans b s2,c⟩
theorem qbo2 (q:Pq):fitC qe q.av.cells=true:=rfl
theorem av_w (q:Pq):gB q.av.cells 0=q.v/\gI q.av.cells 1=q.hi/\gI q.av.cells 2=q.lo/\gI q.av.cells 3=q.bits:=⟨rfl,rfl,rfl,rfl⟩
def betQ (better:Int->Int->Bool)(b:Option Pq)(x:Pq):Bool:=match b with
 |none=>true
 |some q=>better x.bits q.bits
def qet (better:Int->Int->Bool)(bits:Int):Option Pq->List Pq->Option Pq
 |b,[]=>b
 |b,x::r=>qet better bits (bif decide (x.bits<=bits)&&betQ better b x then some x else b) r
theorem quu (better:Int->Int->Bool)(bits:Int)(b:Option Pq)(x:Pq)(r:List Pq):qet better bits b (x::r)=qet better bits (bif decide (x.bits<=bits)&&betQ better b x then some x else b) r:=rfl
def pq0:Pq:=⟨false,0,0,0⟩
def outQ:Option Pq->AV×Bool
 |some q=>(q.av,true)
 |none=>(qn7,false)
theorem q59 {better:Int->Int->Bool}{bits:Int}{q:Pq}:∀{F:List Pq} {b:Option Pq},qet better bits b F=some q->(b=some q\/(q∈F/\q.bits<=bits))
 |[],b,h=>.inl h
 |x::r,b,h=>by
  rw[quu]at h
  rcases q59 h with h1|⟨h1,h2⟩
  · cases hc:decide (x.bits<=bits)&&betQ better b x with
    |true=>
     rw[hc]at h1
     simp only[cond_t]at h1
     cases h1
     rw[Bool.and_eq_true,decide_eq_true_eq]at hc
     exact .inr ⟨by simp,hc.1⟩
    |false=>rw[hc]at h1;exact .inl h1
  · exact .inr ⟨List.mem_cons_of_mem _ h1,h2⟩
theorem q4p (F:List Pq)(hF:F.length<=1000000000)(bits:Int):qfm (F.map Pq.av) bits=some (outQ (qet (fun _ _=>false) bits none F)):=by
 rw[qtf];unfold qdm
 rw[qqt]
 have hlen:(F.map Pq.av).length=F.length:=List.length_map _
 have key:=qcq (σ:=Bool×Pq) F (by omega) (fun n i s=>qca bits (F.map Pq.av) ((F.map Pq.av).length:Int) false 0 0 0 (fun v b0 b1 b2 b3=>some ((.agg [(.bool b0),(.int .u64 b1),(.int .u64 b2),(.int .i64 b3)]),v)) n s.1 i s.2.v s.2.hi s.2.lo s.2.bits)
  (fun i s nx=>qb9 bits s.1 (F.map Pq.av) ((F.map Pq.av).length:Int) i false 0 0 0 s.2.v s.2.hi s.2.lo s.2.bits (fun e i v hi lo b=>nx i (e,⟨v,hi,lo,b⟩)) (fun v b0 b1 b2 b3=>some ((.agg [(.bool b0),(.int .u64 b1),(.int .u64 b2),(.int .i64 b3)]),v))) (fun _ _ _=>rfl)
  (fun _ s=>s.1=false->s.2=pq0) (fun r s=>some (outQ (qet (fun _ _=>false) bits (bif s.1 then some s.2 else none) r))) ?_ ?_ (false,pq0) FU (fun _=>rfl) (qcz (by omega))
 · exact key
 · rintro⟨e,q⟩ nx h
   rw[<-hlen]
   unfold qb9
   simp only[Int.lt_irrefl,decide_false,cond_f]
   cases e with
   |false=>rw[show q=pq0 from h rfl];rfl
   |true=>rfl
 · rintro i x r ⟨e,q⟩ nx g1 g2 g3 g4 h h5
   have ga:(F.map Pq.av)[i]?=some x.av:=by rw[List.getElem?_map,g2];rfl
   have h6:(i:Int)<((F.map Pq.av).length:Int):=by omega
   obtain⟨w0,w1,w2,w3⟩:=av_w x
   unfold qb9
   simp only[h6,decide_true,cond_t,ixB_nat,ga,oB_s,qbo2,w0,w1,w2,w3,g4]
   rw[qp9];unfold qct
   rw[q9w];unfold qld
   rw[quu]
   cases hb:decide (x.bits<=bits)with
   |false=>simp only[cond_f,Bool.false_and];exact h5 (e,q) h
   |true=>
    cases e with
    |false=>simp only[Bool.not_false,cond_t,cond_f,Bool.true_and,betQ];exact h5 (true,x) (fun h=>by cases h)
    |true=>
     simp only[Bool.not_true,cond_t,cond_f,Bool.true_and,betQ,oB_s]
     exact h5 (true,q) (fun h=>by cases h)
theorem q4q (F:List Pq)(hF:F.length<=1000000000)(bits:Int):qfl (F.map Pq.av) bits=some (outQ (qet (fun a b=>decide (a>b)) bits none F)):=by
 rw[qte];unfold qdl
 rw[qqr]
 have hlen:(F.map Pq.av).length=F.length:=List.length_map _
 have key:=qcq (σ:=Bool×Pq) F (by omega) (fun n i s=>qb8 bits (F.map Pq.av) ((F.map Pq.av).length:Int) false 0 0 0 (fun v b0 b1 b2 b3=>some ((.agg [(.bool b0),(.int .u64 b1),(.int .u64 b2),(.int .i64 b3)]),v)) n s.1 i s.2.v s.2.hi s.2.lo s.2.bits)
  (fun i s nx=>qb7 bits s.1 (F.map Pq.av) ((F.map Pq.av).length:Int) i false 0 0 0 s.2.v s.2.hi s.2.lo s.2.bits (fun e i v hi lo b=>nx i (e,⟨v,hi,lo,b⟩)) (fun v b0 b1 b2 b3=>some ((.agg [(.bool b0),(.int .u64 b1),(.int .u64 b2),(.int .i64 b3)]),v))) (fun _ _ _=>rfl)
  (fun _ s=>s.1=false->s.2=pq0) (fun r s=>some (outQ (qet (fun a b=>decide (a>b)) bits (bif s.1 then some s.2 else none) r))) ?_ ?_ (false,pq0) FU (fun _=>rfl) (qcz (by omega))
 · exact key
 · rintro⟨e,q⟩ nx h
   rw[<-hlen]
   unfold qb7
   simp only[Int.lt_irrefl,decide_false,cond_f]
   cases e with
   |false=>rw[show q=pq0 from h rfl];rfl
   |true=>rfl
 · rintro i x r ⟨e,q⟩ nx g1 g2 g3 g4 h h5
   have ga:(F.map Pq.av)[i]?=some x.av:=by rw[List.getElem?_map,g2];rfl
   have h6:(i:Int)<((F.map Pq.av).length:Int):=by omega
   obtain⟨w0,w1,w2,w3⟩:=av_w x
   unfold qb7
   simp only[h6,decide_true,cond_t,ixB_nat,ga,oB_s,qbo2,w0,w1,w2,w3,g4]
   rw[qp7];unfold qcs
   rw[q9v];unfold qlc
   rw[quu]
   cases hb:decide (x.bits<=bits)with
   |false=>simp only[cond_f,Bool.false_and];exact h5 (e,q) h
   |true=>
    cases e with
    |false=>simp only[Bool.not_false,cond_t,cond_f,Bool.true_and,betQ];exact h5 (true,x) (fun h=>by cases h)
    |true=>
     simp only[Bool.not_true,cond_t,cond_f,Bool.true_and,betQ,oB_s]
     by_cases hc:x.bits>q.bits
     · simp only[hc,decide_true,cond_t];exact h5 (true,x) (fun h=>by cases h)
     · simp only[hc,decide_false,cond_f];exact h5 (true,q) (fun h=>by cases h)
theorem q4r (F:List Pq)(hF:F.length<=1000000000)(bits:Int):qfk (F.map Pq.av) bits=some (outQ (qet (fun a b=>decide (a<b)) bits none F)):=by
 rw[qtd];unfold qdk
 rw[qqp]
 have hlen:(F.map Pq.av).length=F.length:=List.length_map _
 have key:=qcq (σ:=Bool×Pq) F (by omega) (fun n i s=>qb6 bits (F.map Pq.av) ((F.map Pq.av).length:Int) false 0 0 0 (fun v b0 b1 b2 b3=>some ((.agg [(.bool b0),(.int .u64 b1),(.int .u64 b2),(.int .i64 b3)]),v)) n s.1 i s.2.v s.2.hi s.2.lo s.2.bits)
  (fun i s nx=>qb5 bits s.1 (F.map Pq.av) ((F.map Pq.av).length:Int) i false 0 0 0 s.2.v s.2.hi s.2.lo s.2.bits (fun e i v hi lo b=>nx i (e,⟨v,hi,lo,b⟩)) (fun v b0 b1 b2 b3=>some ((.agg [(.bool b0),(.int .u64 b1),(.int .u64 b2),(.int .i64 b3)]),v))) (fun _ _ _=>rfl)
  (fun _ s=>s.1=false->s.2=pq0) (fun r s=>some (outQ (qet (fun a b=>decide (a<b)) bits (bif s.1 then some s.2 else none) r))) ?_ ?_ (false,pq0) FU (fun _=>rfl) (qcz (by omega))
 · exact key
 · rintro⟨e,q⟩ nx h
   rw[<-hlen]
   unfold qb5
   simp only[Int.lt_irrefl,decide_false,cond_f]
   cases e with
   |false=>rw[show q=pq0 from h rfl];rfl
   |true=>rfl
 · rintro i x r ⟨e,q⟩ nx g1 g2 g3 g4 h h5
   have ga:(F.map Pq.av)[i]?=some x.av:=by rw[List.getElem?_map,g2];rfl
   have h6:(i:Int)<((F.map Pq.av).length:Int):=by omega
   obtain⟨w0,w1,w2,w3⟩:=av_w x
   unfold qb5
   simp only[h6,decide_true,cond_t,ixB_nat,ga,oB_s,qbo2,w0,w1,w2,w3,g4]
   rw[qp5];unfold qcr
   rw[q9u];unfold qlb
   rw[quu]
   cases hb:decide (x.bits<=bits)with
   |false=>simp only[cond_f,Bool.false_and];exact h5 (e,q) h
   |true=>
    cases e with
    |false=>simp only[Bool.not_false,cond_t,cond_f,Bool.true_and,betQ];exact h5 (true,x) (fun h=>by cases h)
    |true=>
     simp only[Bool.not_true,cond_t,cond_f,Bool.true_and,betQ,oB_s]
     by_cases hc:x.bits<q.bits
     · simp only[hc,decide_true,cond_t];exact h5 (true,x) (fun h=>by cases h)
     · simp only[hc,decide_false,cond_f];exact h5 (true,q) (fun h=>by cases h)
theorem qbqm (F:List Pq)(hF:F.length<=1000000000)(bits sign:Int)(better:Int->Int->Bool)(hg:∀q,q∈F->0<=q.bits/\q.bits<=128)(hb:∀a b:Int,0<=a/\a<=128->0<=b/\b<=128->decide (IntKind.i64.wrap (IntKind.i64.wrap (a-b)*sign)>0)=better a b):
 qk1 (F.map Pq.av) bits sign=some (outQ (qet better bits none F)):=by
 rw[qbjr];unfold qpn
 rw[q8q]
 have hlen:(F.map Pq.av).length=F.length:=List.length_map _
 have key:=qcq (σ:=Bool×Pq) F (by omega) (fun n i s=>qgz (F.map Pq.av) bits sign false 0 0 0 (fun v b0 b1 b2 b3=>some ((.agg [(.bool b0),(.int .u64 b1),(.int .u64 b2),(.int .i64 b3)]),v)) n s.1 i s.2.v s.2.hi s.2.lo s.2.bits)
  (fun i s nx=>qgy (F.map Pq.av) bits sign s.1 i false 0 0 0 s.2.v s.2.hi s.2.lo s.2.bits (fun e i v hi lo b=>nx i (e,⟨v,hi,lo,b⟩)) (fun v b0 b1 b2 b3=>some ((.agg [(.bool b0),(.int .u64 b1),(.int .u64 b2),(.int .i64 b3)]),v))) (fun _ _ _=>rfl)
  (fun _ s=>(s.1=false->s.2=pq0)/\(s.1=true->0<=s.2.bits/\s.2.bits<=128)) (fun r s=>some (outQ (qet better bits (bif s.1 then some s.2 else none) r))) ?_ ?_ (false,pq0) FU ⟨fun _=>rfl,fun h=>by cases h⟩ (qcz (by omega))
 · exact key
 · rintro⟨e,q⟩ nx ⟨h,_⟩
   rw[<-hlen]
   unfold qgy
   simp only[Int.lt_irrefl,decide_false,cond_f]
   cases e with
   |false=>rw[show q=pq0 from h rfl];rfl
   |true=>rfl
 · rintro i x r ⟨e,q⟩ nx g1 g2 g3 g4 ⟨h,h'⟩ h5
   have ga:(F.map Pq.av)[i]?=some x.av:=by rw[List.getElem?_map,g2];rfl
   have h6:(i:Int)<((F.map Pq.av).length:Int):=by omega
   obtain⟨w0,w1,w2,w3⟩:=av_w x
   have hx:=hg x (List.mem_of_getElem? g2)
   unfold qgy
   simp only[h6,decide_true,cond_t]
   rw[q8p];unfold qkn
   simp only[ixB_nat,ga,oB_s,qbo2,cond_t,w0,w1,w2,w3,g4]
   rw[quu]
   have n1:=h5 (true,x) ⟨fun h=>(by cases h),fun _=>hx⟩
   have n2:=h5 (e,q) ⟨h,h'⟩
   cases hd:decide (x.bits<=bits)with
   |false=>simp only[cond_f,Bool.false_and];exact n2
   |true=>
    cases e with
    |false=>simp only[Bool.not_false,cond_t,cond_f,Bool.true_and,betQ];exact n1
    |true=>
     simp only[Bool.not_true,cond_t,cond_f,Bool.true_and,betQ]
     rw[hb x.bits q.bits hx (h' rfl)]
     cases hc:better x.bits q.bits with
     |true=>exact n1
     |false=>exact n2
def frQ (l:LA)(p:Pq):List Pq:=qde (qm8 l p) (p.np.k+1) p
def qfp (policy:Int)(a b:Int):Bool:=bif policy==1 then false else bif policy==2 then decide (a>b)else decide (a<b)
def qh5 (policy bits:Int)(q:Pq):Pq:=bif(policy==3&&decide (q.bits<bits))then q.high else q
def quv (p:Pq)(bits policy:Int):Bool:=decide (bits<p.bits)||((decide (bits>qi p.v)||decide (policy<1))||decide (policy>3))
def qbh5 (l:LA)(p:Pq)(bits policy:Int):AV×Int:=match qet (qfp policy) bits none (frQ l p)with
 |none=>(qn7,22)
 |some q=>(mkP (qh5 policy bits q).v (qh5 policy bits q).hi (qh5 policy bits q).lo bits,0)
def qdz (l:LA)(p:Pq)(bits policy:Int):AV×Int:=match l.find? (atP p.v p.hi p.lo p.bits)with
 |none=>(qn7,11)
 |some y=>bif gI y.cells 4 != 1 then(qn7,21)else bif quv p bits policy then(qn7,1)else qbh5 l p bits policy
theorem q6a {l:LA}(hg:qd9 l)(p:Pq):qd9 (qm8 l p):=fun y hy=>hg y (List.mem_filter.1 hy).1
theorem qbvi {l:LA}(hg:qd9 l){p:Pq}(hp:p.good){q:Pq}(hq:q∈frQ l p):q.good/\q.np.sub p.np:=by
 obtain⟨a,b,_⟩:=qbb7 (q6a hg p) _ p hp q hq
 exact⟨a,b⟩
theorem qbxa {l:LA}(hg:qd9 l)(hn:l.length<=1000){p:Pq}(hp:p.good):(frQ l p).length<=200001:=
 qbmb (q6a hg p) (Nat.le_trans (List.length_filter_le _ _) hn) (by have:=hp.range.2.2.2;omega) hp
theorem qbxb {s:Pq}(hs:s.good){n:Int}(h1:s.bits<=n)(h2:n<=qi s.v):qj7 s.v s.hi s.lo s.bits n=true:=by
 unfold qj7
 rw[hs.1];simp[h1,h2]
theorem qbh6 {q:Pq}(hq:q.good){n:Int}(h1:q.bits<n)(h2:n<=qi q.v):q.half=true:=by
 refine(Pq.half_iff hq).2 ?_
 obtain⟨_,_,a3,_⟩:=hq.range
 omega
theorem qbb8 {q:Pq}(hq:q.good){policy bits:Int}(h1:q.bits<=bits)(h2:bits<=qi q.v):(qh5 policy bits q).good/\(qh5 policy bits q).bits<=bits/\(qh5 policy bits q).v=q.v:=by
 unfold qh5
 cases hc:(policy==3&&decide (q.bits<bits))with
 |false=>exact⟨hq,h1,rfl⟩
 |true=>
  rw[Bool.and_eq_true,decide_eq_true_eq]at hc
  exact⟨Pq.high_good hq (qbh6 hq hc.2 h2),by show q.bits+1<=bits;omega,rfl⟩
noncomputable def qbyg (policy bits:Int)(x:AV):Option (AV×Int):=(bif((policy==(3:Int))&&(decide ((gI x.cells 3)<bits)))then(oB (qjr (gB x.cells 0) (gI x.cells 1) (gI x.cells 2) (gI x.cells 3)) fun r16=>(oB (qea (gB r16.2.1.cells 0) (gI r16.2.1.cells 1) (gI r16.2.1.cells 2) (gI r16.2.1.cells 3) bits (0:Int)) fun r17=>(some ((.agg [(.bool (gB r17.1.cells 0)),(.int .u64 (gI r17.1.cells 1)),(.int .u64 (gI r17.1.cells 2)),(.int .i64 (gI r17.1.cells 3))]),(0:Int)))))else(oB (qea (gB x.cells 0) (gI x.cells 1) (gI x.cells 2) (gI x.cells 3) bits (0:Int)) fun r18=>(some ((.agg [(.bool (gB r18.1.cells 0)),(.int .u64 (gI r18.1.cells 1)),(.int .u64 (gI r18.1.cells 2)),(.int .i64 (gI r18.1.cells 3))]),(0:Int)))))
theorem qb4e {q:Pq}(hq:q.good){policy bits:Int}(h1:q.bits<=bits)(h2:bits<=qi q.v):qbyg policy bits q.av=some (mkP (qh5 policy bits q).v (qh5 policy bits q).hi (qh5 policy bits q).lo bits,0):=by
 unfold qbyg
 obtain⟨w0,w1,w2,w3⟩:=av_w q
 rw[w0,w1,w2,w3]
 obtain⟨sg,sb,sv⟩:=qbb8 (policy:=policy) hq h1 h2
 have sp:=qbxb sg sb (by rw[sv];exact h2)
 unfold qh5 at*
 by_cases hp3:policy=3
 · by_cases hlt:q.bits<bits
   · have hh:=qbh6 hq hlt h2
     have c:(policy==3&&decide (q.bits<bits))=true:=by simp[hp3,hlt]
     rw[c]at sg sp⊢
     simp only[cond_t]at sg sp⊢
     rw[qbr6 _ _ _ _ hq.2.1 hq.2.2]
     have hv:qqj q.v q.hi q.lo q.bits=(q.low.av,q.high.av,true):=by
      unfold qqj
      rw[show qj8 q.v q.hi q.lo q.bits=true from hh];rfl
     rw[hv]
     simp only[oB_s]
     obtain⟨z0,z1,z2,z3⟩:=av_w q.high
     rw[z0,z1,z2,z3,qbb4 sg.2.1 sg.2.2,sp]
     rfl
   · have c:(policy==3&&decide (q.bits<bits))=false:=by simp[hlt]
     rw[c]at sg sp⊢
     simp only[cond_f]at sg sp⊢
     rw[qbb4 hq.2.1 hq.2.2,sp];rfl
 · have c:(policy==3&&decide (q.bits<bits))=false:=by simp[hp3]
   rw[c]at sg sp⊢
   simp only[cond_f]at sg sp⊢
   rw[qbb4 hq.2.1 hq.2.2,sp];rfl
theorem qb14 (l:LA)(hl:qv l)(hg:qd9 l)(hn:l.length<=1000)(p:Pq)(bits policy:Int):qw4 l p.v p.hi p.lo p.bits bits policy=some (qdz l p bits policy):=by
 rw[qbe3];unfold qnj qdz
 rw[qbh1 l hl,oB_s]
 cases hf:l.find? (atP p.v p.hi p.lo p.bits)with
 |none=>rw[qbo0 hf];rfl
 |some y=>
  rw[qbb6 hl hf]
  obtain⟨hp,_⟩:=q0z hg hf
  simp only[Bool.not_true,cond_f]
  cases hk:gI y.cells 4 != 1 with
  |true=>rfl
  |false=>
   simp only[cond_f]
   have hlen:qw0 p.v p.hi p.lo p.bits=some (qi p.v):=by
    rw[qbew];unfold qni qi
    cases p.v<;>rfl
   rw[hlen]
   simp only[oB_s]
   cases hb:quv p bits policy with
   |true=>
    unfold quv at hb
    by_cases h1:bits<p.bits
    · simp only[h1,decide_true,cond_t];rfl
    · simp only[h1,decide_false,cond_f,Bool.false_or]at hb⊢
      rw[hb];rfl
   |false=>
    unfold quv at hb
    by_cases h1:bits<p.bits
    · simp[h1]at hb
    · simp only[h1,decide_false,cond_f,Bool.false_or]at hb⊢
      rw[hb]
      simp only[cond_f]
      simp only[Bool.or_eq_false_iff,decide_eq_false_iff_not]at hb
      obtain⟨⟨h2,h3⟩,h4⟩:=hb
      have hF:=qbxa hg hn hp
      have e1:qzr l p.v p.hi p.lo p.bits=some ((frQ l p).map Pq.av):=by
       rw[qb5f l hl hg hn p]
       unfold qbh4
       rw[hf]
       have:(gI y.cells 4==1)=true:=by simpa using hk
       simp only[this,cond_t];rfl
      rw[e1]
      simp only[oB_s]
      have fin:∀b:Int->Int->Bool,qfp policy=b->(bif(!(outQ (qet b bits none (frQ l p))).2)then(some (qn7,(22:Int)))else qbyg policy bits (outQ (qet b bits none (frQ l p))).1)=some (qbh5 l p bits policy):=by
       intro b hb
       unfold qbh5
       rw[hb]
       cases hq:qet b bits none (frQ l p)with
       |none=>rfl
       |some q=>
        rcases q59 hq with h|⟨h,h'⟩
        · cases h
        · obtain⟨qg,qs⟩:=qbvi hg hp h
          have hv:q.v=p.v:=qs.1
          simp only[outQ,Bool.not_true,cond_f]
          exact qb4e qg h' (by rw[hv];omega)
      have hpol:policy=1\/policy=2\/policy=3:=by omega
      rcases hpol with rfl|rfl|rfl
      · refine Eq.trans ?_ (fin (fun _ _=>false) (by funext a b;rfl))
        rw[q4p _ (by omega)];rfl
      · refine Eq.trans ?_ (fin (fun a b=>decide (a>b)) (by funext a b;rfl))
        rw[q4q _ (by omega)];rfl
      · refine Eq.trans ?_ (fin (fun a b=>decide (a<b)) (by funext a b;rfl))
        rw[q4r _ (by omega)];rfl
theorem qb4f {q:Pq}(hq:q.good){policy bits:Int}(h1:q.bits<=bits)(h2:bits<=qi q.v)(a:Bool)(b c d:Int):
 qlo bits policy a b c d (gB q.av.cells 0) (gI q.av.cells 1) (gI q.av.cells 2) (gI q.av.cells 3) (fun b1_0 b1_1 b1_2 b1_3=>(oB (qhk b1_0 b1_1 b1_2 b1_3 bits (0:Int)) fun r11=>(some ((.agg [(.bool (gB r11.1.cells 0)),(.int .u64 (gI r11.1.cells 1)),(.int .u64 (gI r11.1.cells 2)),(.int .i64 (gI r11.1.cells 3))]),(0:Int)))))=some (mkP (qh5 policy bits q).v (qh5 policy bits q).hi (qh5 policy bits q).lo bits,0):=by
 rw[q6z];unfold qjn
 obtain⟨w0,w1,w2,w3⟩:=av_w q
 rw[w0,w1,w2,w3]
 obtain⟨sg,sb,sv⟩:=qbb8 (policy:=policy) hq h1 h2
 have sp:=qbxb sg sb (by rw[sv];exact h2)
 unfold qh5 at*
 by_cases hp3:policy=3
 · by_cases hlt:q.bits<bits
   · have hh:=qbh6 hq hlt h2
     have c:(policy==3&&decide (q.bits<bits))=true:=by simp[hp3,hlt]
     rw[c]at sg sp⊢
     simp only[cond_t]at sg sp⊢
     rw[qbr5 _ _ _ _ hq.2.1 hq.2.2]
     have hv:qqj q.v q.hi q.lo q.bits=(q.low.av,q.high.av,true):=by
      unfold qqj
      rw[show qj8 q.v q.hi q.lo q.bits=true from hh];rfl
     rw[hv]
     simp only[oB_s]
     obtain⟨z0,z1,z2,z3⟩:=av_w q.high
     rw[z0,z1,z2,z3,qbb3 sg.2.1 sg.2.2,sp]
     rfl
   · have c:(policy==3&&decide (q.bits<bits))=false:=by simp[hlt]
     rw[c]at sg sp⊢
     simp only[cond_f]at sg sp⊢
     rw[qbb3 hq.2.1 hq.2.2,sp];rfl
 · have c:(policy==3&&decide (q.bits<bits))=false:=by simp[hp3]
   rw[c]at sg sp⊢
   simp only[cond_f]at sg sp⊢
   rw[qbb3 hq.2.1 hq.2.2,sp];rfl
theorem qb5j (a b:Int)(ha:0<=a/\a<=128)(hb:0<=b/\b<=128):decide (IntKind.i64.wrap (IntKind.i64.wrap (a-b)*0)>0)=qfp 1 a b:=by
 rw[w64 (i:=a-b) (by omega) (by omega),w64 (by omega) (by omega)]
 have:¬((a-b)*0>0):=by omega
 simp only[this,decide_false];rfl
theorem qb5k (a b:Int)(ha:0<=a/\a<=128)(hb:0<=b/\b<=128):decide (IntKind.i64.wrap (IntKind.i64.wrap (a-b)*1)>0)=qfp 2 a b:=by
 rw[w64 (i:=a-b) (by omega) (by omega),w64 (by omega) (by omega)]
 show _=decide (a>b)
 by_cases h:a>b
 · have:(a-b)*1>0:=by omega
   simp only[this,h,decide_true]
 · have:¬((a-b)*1>0):=by omega
   simp only[this,h,decide_false]
theorem qb5l (a b:Int)(ha:0<=a/\a<=128)(hb:0<=b/\b<=128):decide (IntKind.i64.wrap (IntKind.i64.wrap (a-b)*(-1))>0)=qfp 3 a b:=by
 rw[w64 (i:=a-b) (by omega) (by omega),w64 (by omega) (by omega)]
 show _=decide (a<b)
 by_cases h:a<b
 · have:(a-b)*(-1)>0:=by omega
   simp only[this,h,decide_true]
 · have:¬((a-b)*(-1)>0):=by omega
   simp only[this,h,decide_false]
theorem qb15 {l:LA}(hg:qd9 l){p:Pq}(hp:p.good):∀q,q∈frQ l p->0<=q.bits/\q.bits<=128:=fun q hq=>by
 obtain⟨a1,a2,_⟩:=(qbvi hg hp hq).1.range
 have:=qe8 q.v
 omega
theorem qb16 {l:LA}(hl:qv l)(hg:qd9 l)(hn:l.length<=1000){p:Pq}{y:AV}(hf:l.find? (atP p.v p.hi p.lo p.bits)=some y)(hk:(gI y.cells 4 != 1)=false):qvd l p.v p.hi p.lo p.bits=some ((frQ l p).map Pq.av):=by
 rw[qb4a l hl hg hn p]
 unfold qbh4
 rw[hf]
 have:(gI y.cells 4==1)=true:=by simpa using hk
 simp only[this,cond_t];rfl
theorem qbz9 (l:LA)(hl:qv l)(hg:qd9 l)(hn:l.length<=1000)(p:Pq)(bits policy:Int):qxp l p.v p.hi p.lo p.bits bits policy=some (qdz l p bits policy):=by
 rw[qbga];unfold qn0 qdz
 rw[q9m l hl,oB_s]
 cases hf:l.find? (atP p.v p.hi p.lo p.bits)with
 |none=>rw[qbo0 hf];rfl
 |some y=>
  rw[qbb6 hl hf]
  obtain⟨hp,_⟩:=q0z hg hf
  simp only[Bool.not_true,cond_f]
  cases hk:gI y.cells 4 != 1 with
  |true=>rfl
  |false=>
   simp only[cond_f]
   have hlen:qxm p.v p.hi p.lo p.bits=some (qi p.v):=by
    rw[qbf4];unfold qny qi
    cases p.v<;>rfl
   rw[q8n];unfold qkl
   rw[hlen]
   have e0:(bif decide (bits>=p.bits)then(oB (some (qi p.v)) fun r1=>some (decide (bits<=r1)))else some false)=some (decide (bits>=p.bits)&&decide (bits<=qi p.v)):=by
    by_cases h:bits>=p.bits
    · simp only[h,decide_true,cond_t,oB_s,Bool.true_and]
    · simp only[h,decide_false,cond_f,Bool.false_and]
   rw[e0]
   simp only[oB_s]
   have e1:(((!(decide (bits>=p.bits)&&decide (bits<=qi p.v)))||decide (policy<1))||decide (policy>3))=quv p bits policy:=by
    unfold quv
    by_cases a:bits<p.bits
    · have:¬bits>=p.bits:=by omega
      simp[a,this]
    · have:bits>=p.bits:=by omega
      by_cases b:bits>qi p.v
      · have hb:¬bits<=qi p.v:=by omega
        simp[a,b,this,hb]
      · have hb:bits<=qi p.v:=by omega
        simp[a,b,this,hb]
   rw[e1]
   cases hb:quv p bits policy with
   |true=>rfl
   |false=>
    simp only[cond_f]
    unfold quv at hb
    simp only[Bool.or_eq_false_iff,decide_eq_false_iff_not]at hb
    obtain⟨h1,⟨h2,h3⟩,h4⟩:=hb
    have hF:=qbxa hg hn hp
    have fin:(bif(!(outQ (qet (qfp policy) bits none (frQ l p))).2)then(some (qn7,(22:Int)))else qlo bits policy false 0 0 0 (gB (outQ (qet (qfp policy) bits none (frQ l p))).1.cells 0) (gI (outQ (qet (qfp policy) bits none (frQ l p))).1.cells 1) (gI (outQ (qet (qfp policy) bits none (frQ l p))).1.cells 2) (gI (outQ (qet (qfp policy) bits none (frQ l p))).1.cells 3) (fun b1_0 b1_1 b1_2 b1_3=>(oB (qhk b1_0 b1_1 b1_2 b1_3 bits (0:Int)) fun r11=>(some ((.agg [(.bool (gB r11.1.cells 0)),(.int .u64 (gI r11.1.cells 1)),(.int .u64 (gI r11.1.cells 2)),(.int .i64 (gI r11.1.cells 3))]),(0:Int))))))=some (qbh5 l p bits policy):=by
     unfold qbh5
     cases hq:qet (qfp policy) bits none (frQ l p)with
     |none=>rfl
     |some q=>
      rcases q59 hq with h|⟨h,h'⟩
      · cases h
      · obtain⟨qg,qs⟩:=qbvi hg hp h
        have hv:q.v=p.v:=qs.1
        simp only[outQ,Bool.not_true,cond_f]
        exact qb4f qg h' (by rw[hv];omega) _ _ _ _
    have hb:=qb15 hg hp
    have hpol:policy=1\/policy=2\/policy=3:=by omega
    rw[q6v];unfold qjl
    simp only[q6x];unfold qjm
    rw[qb16 hl hg hn hf hk]
    rcases hpol with rfl|rfl|rfl
    · refine Eq.trans ?_ fin
      show(oB (qk1 ((frQ l p).map Pq.av) bits 0) fun r6=>_)=_
      rw[qbqm _ (by omega) bits 0 (qfp 1) hb qb5j];rfl
    · refine Eq.trans ?_ fin
      show(oB (qk1 ((frQ l p).map Pq.av) bits 1) fun r6=>_)=_
      rw[qbqm _ (by omega) bits 1 (qfp 2) hb qb5k];rfl
    · refine Eq.trans ?_ fin
      show(oB (qk1 ((frQ l p).map Pq.av) bits (-1)) fun r6=>_)=_
      rw[qbqm _ (by omega) bits (-1) (qfp 3) hb qb5l];rfl
structure Chosen (l:LA)(p q:Pq)(bits:Int):Prop where
 good:q.good
 bits:q.bits=bits
 sub:q.np.sub p.np
 pg:p.good
 free:∀d,d∈qm8 l p->ovP (pqY d) q=false
theorem q4s {l:LA}(hg:qd9 l)(p:Pq)(bits policy:Int):(∃e,qdz l p bits policy=(qn7,e)/\e≠0)\/∃q,qdz l p bits policy=(q.av,0)/\Chosen l p q bits:=by
 unfold qdz
 cases hf:l.find? (atP p.v p.hi p.lo p.bits)with
 |none=>exact .inl ⟨11,rfl,by decide⟩
 |some y=>
  obtain⟨hp,_⟩:=q0z hg hf
  simp only
  cases hk:gI y.cells 4 != 1 with
  |true=>exact .inl ⟨21,rfl,by decide⟩
  |false=>
   simp only[cond_f]
   cases hb:quv p bits policy with
   |true=>exact .inl ⟨1,rfl,by decide⟩
   |false=>
    simp only[cond_f]
    unfold quv at hb
    simp only[Bool.or_eq_false_iff,decide_eq_false_iff_not]at hb
    obtain⟨h1,⟨h2,h3⟩,h4⟩:=hb
    unfold qbh5
    cases hq:qet (qfp policy) bits none (frQ l p)with
    |none=>exact .inl ⟨22,rfl,by decide⟩
    |some q=>
     rcases q59 hq with h|⟨h,h'⟩
     · cases h
     · obtain⟨qg,qs,qf⟩:=qbb7 (q6a hg p) _ p hp q h
       have hv:q.v=p.v:=qs.1
       obtain⟨sg,sb,sv⟩:=qbb8 (policy:=policy) qg h' (by rw[hv];omega)
       have ss:(qh5 policy bits q).np.sub q.np:=by
        unfold qh5
        cases hc:(policy==3&&decide (q.bits<bits))with
        |false=>exact Np.sub_refl qg.np_ok
        |true=>
         rw[Bool.and_eq_true,decide_eq_true_eq]at hc
         exact(qbvh qg (qbh6 qg hc.2 (by rw[hv];omega))).2.1
       simp only
       generalize qh5 policy bits q=s at*
       obtain⟨b1,b2,b3,b4⟩:=sg.range
       have hkk:kOf s.v bits<=s.np.k:=by
        show kOf s.v bits<=kOf s.v s.bits
        unfold kOf;omega
       have gq:(⟨s.v,s.hi,s.lo,bits⟩:Pq).good:=by
        refine⟨(qx3 sg.2.1 sg.2.2).2 ⟨(qd7 sg.1).2.2,by show 0<=bits;omega,by show bits<=qi s.v;rw[sv,hv];omega,?_⟩,sg.2⟩
        exact Nat.mod_eq_zero_of_dvd (Nat.dvd_trans (qbh2 hkk) (Nat.dvd_of_mod_eq_zero sg.np_ok))
       have gs:(⟨s.v,s.hi,s.lo,bits⟩:Pq).np.sub s.np:=⟨rfl,hkk,by
        have:=sg.np_ok
        unfold Np.ok at this
        show s.np.n-s.np.n%2^s.np.k=s.np.n
        rw[this];rfl⟩
       refine .inr ⟨⟨s.v,s.hi,s.lo,bits⟩,rfl,gq,rfl,Np.sub_trans gs (Np.sub_trans ss qs),hp,fun d hd=> ?_⟩
       cases ho:ovP (pqY d) ⟨s.v,s.hi,s.lo,bits⟩with
       |false=>rfl
       |true=>
        have:=qbhl qg gq (q6a hg p d hd) (Np.sub_trans gs ss) ho
        rw[qf d hd]at this;cases this
def qi6 (l:LA)(p:Pq)(bits policy:Int)(nm ow:LU):List AV×AV×Int:=
 bif(qdz l p bits policy).2 != 0 then([],qn7,(qdz l p bits policy).2)else
 bif(addF l (mkB (gB (qdz l p bits policy).1.cells 0) (gI (qdz l p bits policy).1.cells 1) (gI (qdz l p bits policy).1.cells 2) (gI (qdz l p bits policy).1.cells 3) 2 nm ow 0)).2 != 0 then([],qn7,(addF l (mkB (gB (qdz l p bits policy).1.cells 0) (gI (qdz l p bits policy).1.cells 1) (gI (qdz l p bits policy).1.cells 2) (gI (qdz l p bits policy).1.cells 3) 2 nm ow 0)).2)
 else((addF l (mkB (gB (qdz l p bits policy).1.cells 0) (gI (qdz l p bits policy).1.cells 1) (gI (qdz l p bits policy).1.cells 2) (gI (qdz l p bits policy).1.cells 3) 2 nm ow 0)).1,(qdz l p bits policy).1,0)
theorem qbqn {q:Pq}(hq:q.good){nm ow:LU}(h1:nm.length<=9223372036854775807)(h2:ow.length<=9223372036854775807):qoj (mkB q.v q.hi q.lo q.bits 2 nm ow 0):=
 ⟨rfl,hq.2.1,hq.2.2,by show nm.length<=_;omega,by show ow.length<=_;omega⟩
theorem qbo3 (l:LA)(hl:qv l)(ht:qdx l)(hn:l.length<=1000)(p:Pq)(bits policy:Int)(nm ow:LU)(h1:nm.length<=9223372036854775807)(h2:ow.length<=9223372036854775807):
 qnk l p.v p.hi p.lo p.bits bits policy nm ow=some (qi6 l p bits policy nm ow):=by
 have hg:=q2q hl ht
 rw[q9x];unfold qle qi6
 rw[qb14 l hl hg hn]
 simp only[oB_s]
 rcases q4s hg p bits policy with⟨e,he,hne⟩|⟨q,hq,hc⟩
 · rw[he]
   have:(e != 0)=true:=by simpa using hne
   simp only[this,cond_t];rfl
 · rw[hq]
   obtain⟨w0,w1,w2,w3⟩:=av_w q
   simp only[bne_self_eq_false,cond_f,w0,w1,w2,w3]
   rw[qb21 l hl (by omega) ht q.v q.hi q.lo q.bits 2 nm ow 0 (qbqn hc.good h1 h2)]
   simp only[oB_s]
   cases(addF l (mkB q.v q.hi q.lo q.bits 2 nm ow 0)).2 != 0<;>rfl
theorem qbki (l:LA)(hl:qv l)(ht:qdx l)(hn:l.length<=1000)(p:Pq)(bits policy:Int)(nm ow:LU)(h1:nm.length<=9223372036854775807)(h2:ow.length<=9223372036854775807):
 qn1 l p.v p.hi p.lo p.bits bits policy nm ow=some (qi6 l p bits policy nm ow):=by
 have hg:=q2q hl ht
 rw[qbay];unfold qlp qi6
 rw[qbz9 l hl hg hn]
 simp only[oB_s]
 rcases q4s hg p bits policy with⟨e,he,hne⟩|⟨q,hq,hc⟩
 · rw[he]
   have:(e != 0)=true:=by simpa using hne
   simp only[this,cond_t];rfl
 · rw[hq]
   obtain⟨w0,w1,w2,w3⟩:=av_w q
   simp only[bne_self_eq_false,cond_f,w0,w1,w2,w3]
   rw[qbva l hl (by omega) q.v q.hi q.lo q.bits 2 nm ow 0 (qbqn hc.good h1 h2)]
   simp only[oB_s]
   cases(addF l (mkB q.v q.hi q.lo q.bits 2 nm ow 0)).2 != 0<;>rfl
def labC (c:UInt8):Bool:=(decide (97<=c.toNat)&&decide (c.toNat<=122))||(decide (48<=c.toNat)&&decide (c.toNat<=57))||c.toNat==45||c.toNat==95
def q6b (x:LU):Bool:=x==[42]||(decide (1<=x.length)&&decide (x.length<=63)&&x.all labC)
theorem qb0a (x:LU)(hx:x.length<=9223372036854775807):qvm x=some (q6b x):=by
 rw[qbdi]
 unfold qmi
 rw[q46,qf2 x hx (qfd x fun _=>some true) (fun i nx=>qfc x i nx fun _=>some true) (fun _ _=>rfl) (fun r=>some (r.all labC))]
 · unfold q6b
   by_cases h1:x=[42]
   · simp[h1]
   · have e1:(x==[42])=false:=by simpa using h1
     rw[e1]
     by_cases h2:x.length<1
     · have:x.length=0:=by omega
       simp[this]
     · by_cases h3:63<x.length
       · have e:¬x.length<=63:=by omega
         have e':(63:Int)<(x.length:Int):=by omega
         simp[e,e']
       · have a1:¬((x.length:Int)<1):=by omega
         have a2:¬((63:Int)<(x.length:Int)):=by omega
         have a3:1<=x.length:=by omega
         have a4:x.length<=63:=by omega
         simp[a1,a2,a3,a4]
 · intro nx;simp[qfc]
 · intro i a r nx h1 h2 h3 h4 h5
   have h6:(i:Int)<(x.length:Int):=by omega
   have key:∀kn:Bool->Option Bool,qpe x i (a.toNat:Int) kn=kn (!labC a):=by
    intro kn
    have co:∀(p a b:Bool),(bif p then kn a else kn b)=kn (bif p then a else b):=by intro p;cases p<;>intros<;>rfl
    rw[q45]
    unfold qim labC
    simp only[co]
    have fin:∀n:Fin 256,(bif(decide ((n.val:Int)>=(97:Int)))&&(decide ((n.val:Int)<=(122:Int)))then false else(bif(decide ((n.val:Int)>=(48:Int)))then(!(((decide ((n.val:Int)<=(57:Int)))||((n.val:Int)==(45:Int)))||((n.val:Int)==(95:Int))))else(!(((n.val:Int)==(45:Int))||((n.val:Int)==(95:Int))))))=
     !((decide (97<=n.val)&&decide (n.val<=122))||(decide (48<=n.val)&&decide (n.val<=57))||n.val==45||n.val==95):=by decide+kernel
    exact congrArg kn (fin ⟨a.toNat,a.toNat_lt⟩)
   unfold qfc
   simp only[h6,decide_true,cond_t,ixB_nat,h2,oB_s,key,h4]
   cases h7:labC a
   · simp[h7]
   · simp only[Bool.not_true,cond_t,cond_f,h5,List.all_cons,h7,Bool.true_and]
def spl:List UInt8->List UInt8->List (List UInt8)
 |_,[]=>[]
 |cur,c::r=>if c=46 then cur::spl [] r else spl (cur++[c]) r
def qom (x:LU):Bool:=decide (2<=x.length)&&decide (x.length<=254)&&x.getLast? ==some 46
def qon:Bool->List (List UInt8)->Bool
 |_,[]=>true
 |f,l::ls=>q6b l&&(f|| !(l==[42]))&&qon false ls
def qi7 (x:LU):List (List UInt8)×Bool:=
 if x=[46]then([],true)else if qom x=true/\qon true (spl [] x)=true then(spl [] x,true)else([],false)
def qbd (x:LU):Bool:=(qi7 x).2
def avS (l:List (List UInt8)):List AV:=l.map AV.str
theorem qbqo:∀(r cur:LU),(spl cur r).length<=r.length
 |[],_=>by simp[spl]
 |c::r,cur=>by
  unfold spl;split
  · have:=qbqo r [];simp;omega
  · have:=qbqo r (cur++[c]);simp;omega
theorem qb17 (x:LU)(hx:x.length<=254)(kx:List AV->Option (List AV×Bool)):
 qsj x kx FU 0 0 []=if qon true (spl [] x)=true then kx (avS (spl [] x))else some ([],false):=by
 rw[q77]
 let S:(Int×Int×List AV)->Option (List AV×Bool):=fun s=>
  if qon (decide (s.1=0)) (spl ((x.take s.2.1.toNat).drop s.1.toNat) (x.drop s.2.1.toNat))=true then kx (s.2.2++avS (spl ((x.take s.2.1.toNat).drop s.1.toNat) (x.drop s.2.1.toNat)))else some ([],false)
 have key:=qbhz (fun n (s:Int×Int×List AV)=>qgq x kx n s.1 s.2.1 s.2.2) (fun s nx=>qgp x s.1 s.2.1 s.2.2 (fun a b c=>nx (a,b,c)) kx) (fun _ _=>rfl)
  (fun s=>0<=s.1/\s.1<=s.2.1/\s.2.1<=x.length/\s.2.2.length<=s.2.1) (fun s=>(x.length-s.2.1).toNat) S ?_ FU (0,0,[]) (by simp) (qcz (by simp;omega))
 · have e:S (0,0,[])=if qon true (spl [] x)=true then kx (avS (spl [] x))else some ([],false):=by simp[S]
   rw[<-e];exact key
 · rintro⟨st,i,acc⟩ ⟨h0,h1,h2,h3⟩ nx hn
   simp only at h0 h1 h2 h3
   obtain⟨i,rfl⟩:∃j:Nat,i=j:=⟨i.toNat,by omega⟩
   obtain⟨st,rfl⟩:∃j:Nat,st=j:=⟨st.toNat,by omega⟩
   have hw:IntKind.i64.wrap ((i:Int)+1)=((i+1:Nat):Int):=w64 (by omega) (by omega)
   simp only[S,Int.toNat_natCast]
   by_cases hlt:i<x.length
   · have hd:x.drop i=x[i]::x.drop (i+1):=List.drop_eq_getElem_cons hlt
     have hi:x[i]?=some x[i]:=by simp[hlt]
     have ht:x.take (i+1)=x.take i++[x[i]]:=(List.take_append_getElem hlt).symm
     have hlt':(i:Int)<(x.length:Int):=by omega
     unfold qgp
     simp only[hlt',decide_true,cond_t,ixB_nat,hi,oB_s,hw]
     by_cases hc:x[i]=46
     · have hc':(((x[i]).toNat:Int) != 46)=false:=by rw[hc];rfl
       have hcut:cutI x (some (st:Int)) (some (i:Int))=some ((x.take i).drop st):=by
        simp only[cutI,Option.getD_some,Int.toNat_natCast]
        rw[if_pos ⟨by omega,by omega,by omega⟩]
       have hsl:((x.take i).drop st).length<=9223372036854775807:=by simp;omega
       simp only[hc',cond_f,hcut,oB_s,hd_self,Bool.and_true,cond_t,q76,qkg,qb0a _ hsl]
       have hsz:(acc.length+1)*16<=140737488355328:=by omega
       have hnx:=hn (((i+1:Nat):Int),((i+1:Nat):Int),acc++[.str ((x.take i).drop st)]) ⟨by simp;omega,by simp,by simp;omega,by simp;omega⟩ (by simp;omega)
       simp only[S,Int.toNat_natCast]at hnx
       have hz:(x.take (i+1)).drop (i+1)=[]:=by simp
       rw[hz]at hnx
       have hne:decide (((i+1:Nat):Int)=0)=false:=by simp;omega
       rw[hne]at hnx
       rw[hd]
       simp only[spl,hc,if_true,qon]
       cases hl:q6b ((x.take i).drop st)
       · simp
       · by_cases hstar:(x.take i).drop st=[42]
         · rw[hstar]at hnx⊢
           by_cases h00:st=0
           · have e1:decide ((st:Int)>0)=false:=by simp;omega
             have e2:decide ((st:Int)=0)=true:=by simp;omega
             simp only[e1,e2,Bool.not_true,cond_f,cond_t,beq_self_eq_true,List.length_singleton,hsz,decide_true,Bool.true_or,Bool.and_true,Bool.true_and]
             rw[hnx]
             simp[avS,List.append_assoc]
           · have e1:decide ((st:Int)>0)=true:=by simp;omega
             have e2:decide ((st:Int)=0)=false:=by simp;omega
             have e3:0<st:=by omega
             simp[e1,e2,e3,h00]
         · have e1:((x.take i).drop st==[42])=false:=by simpa using hstar
           simp only[e1,Bool.not_true,cond_f,cond_t,Bool.not_false,Bool.or_true,Bool.and_true,Bool.true_and,List.length_singleton,hsz,decide_true]
           rw[hnx]
           simp[avS,List.append_assoc]
     · have hc':(((x[i]).toNat:Int) != 46)=true:=by
        have:(x[i]).toNat≠46:=fun h=>hc (by rw[<-UInt8.toNat_inj];exact h)
        simp;omega
       simp only[hc',cond_t]
       have hnx:=hn ((st:Int),((i+1:Nat):Int),acc) ⟨by simp,by simp;omega,by simp;omega,by simp;omega⟩ (by simp;omega)
       simp only[S,Int.toNat_natCast]at hnx
       rw[hnx,hd]
       simp only[spl,hc,if_false]
       have e:(x.take (i+1)).drop st=(x.take i).drop st++[x[i]]:=by
        rw[ht,List.drop_append_of_le_length (by simp;omega)]
       rw[e]
   · have:i=x.length:=by omega
     subst this
     unfold qgp
     simp[spl,qon,avS]
theorem q20 (x:LU)(hx:x.length<=9223372036854775807):qfr x=some (avS (qi7 x).1,(qi7 x).2):=by
 rw[qbjf]
 unfold qpf qi7
 by_cases h1:x=[46]
 · simp[h1,avS]
 · have e1:(x==[46])=false:=by simpa using h1
   rw[if_neg h1]
   simp only[e1,cond_f,q74,qkf,hd_self,Bool.and_true,cond_t]
   by_cases h2:2<=x.length/\x.length<=254
   · have a1:¬((x.length:Int)<2):=by omega
     have a2:¬((254:Int)<(x.length:Int)):=by omega
     have hw:IntKind.i64.wrap ((x.length:Int)-1)=((x.length-1:Nat):Int):=by rw[w64 (by omega) (by omega)];omega
     have hi:x[x.length-1]?=some (x[x.length-1]'(by omega)):=by simp<;>omega
     have hl:x.getLast? =some (x[x.length-1]'(by omega)):=by rw[List.getLast?_eq_getElem?,hi]
     simp only[a1,gt_iff_lt,a2,decide_false,Bool.or_false,cond_f,hw,ixB_nat,hi,oB_s]
     by_cases h3:x[x.length-1]'(by omega)=46
     · have h3':(((x[x.length-1]'(by omega)).toNat:Int) != 46)=false:=by rw[h3];rfl
       have hok:qom x=true:=by simp[qom,h2.1,h2.2,hl,h3]
       simp only[h3',cond_f]
       rw[qb17 x h2.2]
       by_cases h4:qon true (spl [] x)=true
       · simp[hok,h4]
       · simp[hok,h4,avS]
     · have h3':(((x[x.length-1]'(by omega)).toNat:Int) != 46)=true:=by
        have:(x[x.length-1]'(by omega)).toNat≠46:=fun h=>h3 (by rw[<-UInt8.toNat_inj];exact h)
        simp;omega
       have hok:qom x=false:=by simp[qom,hl,h3]
       simp only[h3',cond_t]
       simp[hok,avS]
   · have hok:qom x=false:=by
      unfold qom
      by_cases h:2<=x.length
      · have:¬x.length<=254:=fun h'=>h2 ⟨h,h'⟩
        simp[this]
      · simp[h]
     have a:(decide ((x.length:Int)<2)||decide ((x.length:Int)>254))=true:=by
      simp;omega
     simp only[a,cond_t]
     simp[hok,avS]
theorem qbho (x:LU)(hx:x.length<=9223372036854775807):qoc x=some (qbd x):=by
 rw[qbjg]
 unfold qpg
 rw[q20 x hx];rfl
def qek:List UInt8->List UInt8->List (List UInt8)
 |cur,[]=>[cur]
 |cur,c::r=>if c=46 then cur::qek [] r else qek (cur++[c]) r
theorem q00:∀(s cur:LU),(qek cur s).length=s.count 46+1
 |[],cur=>rfl
 |c::r,cur=>by
  unfold qek
  split
  · rename_i h;subst h;simp[q00 r]
  · rename_i h
    rw[q00 r,List.count_cons_of_ne (fun e=>h e)]
theorem qbo4:∀(s cur:LU),s.count 46=0->qek cur s=[cur++s]
 |[],cur,_=>by simp[qek]
 |c::r,cur,h=>by
  unfold qek
  split
  · rename_i h';subst h';simp at h
  · rename_i h'
    rw[List.count_cons_of_ne (fun e=>h' e)]at h
    rw[qbo4 r _ h]
    simp
theorem qbo5:∀(s cur:LU),0<s.count 46->∃pre post,s=pre++46::post/\Lib.indexByte s 46=(pre.length:Int)/\qek cur s=(cur++pre)::qek [] post
 |[],cur,h=>by simp at h
 |c::r,cur,h=>by
  by_cases h':c=46
  · subst h'
    exact⟨[],r,rfl,by simp[Lib.indexByte],by simp[qek]⟩
  · rw[List.count_cons_of_ne (fun e=>h' e)]at h
    obtain⟨pre,post,h1,h2,h3⟩:=qbo5 r (cur++[c]) h
    refine⟨c::pre,post,by simp[h1],?_,?_⟩
    · have hb:(c==46)=false:=by simpa using h'
      have hn:¬((Lib.indexByte r 46)= -1):=by omega
      unfold Lib.indexByte
      simp[hb,hn,h2]
    · show(if c=46 then cur::qek [] r else qek (cur++[c]) r)=_
      rw[if_neg h',h3]
      simp
theorem qb4g (s:LU):qu5 s [46]=some (Lib.indexByte s 46):=by
 rw[qbk3];unfold qrc
 rw[q9z];unfold qlg
 rw[q3e];unfold qht q2l
 by_cases h:([46]:List UInt8)=s
 · subst h;rfl
 · have hb:(([46]:List UInt8)==s)=false:=by simpa using h
   rw[hb]
   rfl
theorem qb4h (s:LU):q1a s [46]=some ((s.count 46:Nat):Int):=by
 rw[qbk4];unfold qrd q2k Lib.countByte
 rfl
theorem qb4i (pre post:LU):cutI (pre++46::post) none (some ((pre.length:Nat):Int))=some pre:=by
 unfold cutI
 simp only[Option.getD_none,Option.getD_some]
 rw[if_pos ⟨by omega,by omega,by simp;omega⟩]
 simp
theorem qb18 (pre post:LU):cutI (pre++46::post) (some ((pre.length+1:Nat):Int)) none=some post:=by
 unfold cutI
 simp only[Option.getD_none,Option.getD_some]
 rw[if_pos ⟨by omega,by simp;omega,by omega⟩]
 rw[Int.toNat_natCast,Int.toNat_natCast,List.take_length]
 rw[List.drop_append]
 simp
theorem qbxc (s:LU)(hs:s.length<=1000000000):qu6 s [46]=some ((qek [] s).map AV.str):=by
 rw[qbk5];unfold qre
 rw[qbc1];unfold ql7
 have hc:s.count 46<=s.length:=List.count_le_length
 have w1:IntKind.i64.wrap (((s.count 46:Nat):Int)+1)=((s.count 46+1:Nat):Int):=w64 (by omega) (by omega)
 have w2:IntKind.i64.wrap ((s.length:Int)+1)=((s.length+1:Nat):Int):=w64 (by omega) (by omega)
 have hm:(if((s.length+1:Nat):Int)<((s.count 46+1:Nat):Int)then((s.length+1:Nat):Int)else((s.count 46+1:Nat):Int))=((s.count 46+1:Nat):Int):=if_neg (by omega)
 have hd1:decide (0<=((s.count 46+1:Nat):Int)/\((s.count 46+1:Nat):Int)<=((s.count 46+1:Nat):Int)/\((s.count 46+1:Nat):Int)*16<=281474976710656)=true:=decide_eq_true ⟨by omega,by omega,by omega⟩
 have w3:IntKind.i64.wrap (((s.count 46+1:Nat):Int)-1)=((s.count 46:Nat):Int):=by rw[w64 (by omega) (by omega)];omega
 have b1:(((-1:Int))==0)=false:=rfl
 have b2:(([46]:List UInt8)==([]:List UInt8))=false:=rfl
 have b3:decide ((-1:Int)<0)=true:=rfl
 simp only[b1,b2,cond_f,q4y,qik,b3,cond_t,qb4h,oB_s,w1,w2,hm,hd1,hd_self,Bool.and_true,w3,Int.toNat_natCast]
 generalize hn:s.count 46=n at*
 rw[q4z]
 let kx:List UInt8->Int->List AV->Option (List AV):=fun v0 v10 a0=>(bif decide (0<=v10/\v10<a0.length)then(oB (a0[v10.toNat]?) fun y1=>(oB (putE y1 0 1 [(.str v0)]) fun z2=>(bif hd (a0.set v10.toNat z2) a0.length then(oB (cutI (a0.set v10.toNat z2) none (some (IntKind.i64.wrap (v10+1)))) fun s3=>(some s3))else none)))else none)
 have key:=qbhz (fun k (q:List UInt8×Int×List AV)=>qdc [46] 0 (n:Int) kx k q.1 q.2.1 q.2.2)
  (fun q nx=>qfa q.1 [46] 0 (n:Int) q.2.1 q.2.2 (fun a b c=>nx (a,(b,c))) kx) (fun _ _=>rfl)
  (fun q=>∃dn:List (List UInt8),q.2.1=dn.length/\q.2.2=dn.map AV.str++List.replicate (n+1-dn.length) (AV.str [])/\dn.length<=n/\q.1.count 46=n-dn.length/\dn++qek [] q.1=qek [] s/\q.1.length<=1000000000)
  (fun q=>n-q.2.1.toNat) (fun q=>some ((qek [] s).map AV.str)) ?_ FU (s,(0,List.replicate (n+1) (AV.str []))) ⟨[],rfl,by simp,by simp,by simpa using hn,rfl,hs⟩ (qcz (by simp;omega))
 · have key':qdc [46] 0 (n:Int) kx FU s 0 (List.replicate (n+1) (AV.str []))=some ((qek [] s).map AV.str):=key
   show oB (qdc [46] 0 (n:Int) kx FU s 0 (List.replicate (n+1) (AV.str []))) _=_
   rw[key']
   rfl
 · rintro⟨v0,v10,a0⟩ ⟨dn,rfl,rfl,h1,h2,h3,h5⟩ nx hnx
   simp only at h1 h2 h3 h5
   show qfa v0 [46] 0 (n:Int) (dn.length:Int) (dn.map AV.str++List.replicate (n+1-dn.length) (AV.str [])) (fun a b c=>nx (a,(b,c))) kx=some ((qek [] s).map AV.str)
   have hlen:(dn.map AV.str++List.replicate (n+1-dn.length) (AV.str [])).length=n+1:=by simp;omega
   have hget:(dn.map AV.str++List.replicate (n+1-dn.length) (AV.str []))[dn.length]?=some (.str []):=by
    rw[List.getElem?_append_right (by simp)]
    simp only[List.length_map,Nat.sub_self]
    rw[List.getElem?_replicate,if_pos (by omega)]
   have hdec:decide (0<=(dn.length:Int)/\(dn.length:Int)<((dn.map AV.str++List.replicate (n+1-dn.length) (AV.str [])).length:Int))=true:=decide_eq_true ⟨by omega,by rw[hlen];omega⟩
   have hset:∀x,(dn.map AV.str++List.replicate (n+1-dn.length) (AV.str [])).set dn.length (.str x)=(dn++[x]).map AV.str++List.replicate (n+1-(dn.length+1)) (AV.str []):=by
    intro x
    rw[List.set_append_right _ _ (by simp)]
    simp only[List.length_map,Nat.sub_self]
    rw[show n+1-dn.length=(n+1-(dn.length+1))+1 by omega,List.replicate_succ]
    simp
   have hhd:∀x,hd ((dn.map AV.str++List.replicate (n+1-dn.length) (AV.str [])).set dn.length (.str x)) (dn.map AV.str++List.replicate (n+1-dn.length) (AV.str [])).length=true:=fun x=>by simp[hd]
   unfold qfa
   by_cases hlt:dn.length<n
   · have c1:decide ((dn.length:Int)<(n:Int))=true:=decide_eq_true (by omega)
     obtain⟨pre,post,e1,e2,e3⟩:=qbo5 v0 [] (by omega)
     subst e1
     have hpl:pre.length+1+post.length=(pre++46::post).length:=by simp;omega
     generalize hv:pre++46::post=v0 at*
     have c2:decide (Lib.indexByte v0 46<0)=false:=decide_eq_false (by omega)
     have w4:IntKind.i64.wrap (Lib.indexByte v0 46+0)=(pre.length:Int):=by rw[e2,w64 (by omega) (by omega)];omega
     have w5:IntKind.i64.wrap (Lib.indexByte v0 46+(([46]:List UInt8).length:Int))=((pre.length+1:Nat):Int):=by rw[e2];simp;rw[w64 (by omega) (by omega)]
     have w6:IntKind.i64.wrap ((dn.length:Int)+1)=((dn.length+1:Nat):Int):=w64 (by omega) (by omega)
     have k1:cutI v0 none (some ((pre.length:Nat):Int))=some pre:=by rw[<-hv];exact qb4i pre post
     have k2:cutI v0 (some ((pre.length+1:Nat):Int)) none=some post:=by rw[<-hv];exact qb18 pre post
     have hp:putE (.str []) 0 1 [AV.str pre]=some (.str pre):=rfl
     simp only[c1,cond_t,qb4g,oB_s,c2,cond_f,w4,k1,hd_self,hdec,Int.toNat_natCast,hget,hp,w5,k2,hhd,w6]
     refine hnx _ ⟨dn++[pre],by simp,by rw[hset];simp,by simp;omega,?_,?_,by show post.length<=1000000000;omega⟩ (by simp;omega)
     · have hcp:v0.count 46=(qek [] v0).length-1:=by rw[q00];simp
       have:(qek [] post).length=post.count 46+1:=q00 post []
       rw[e3]at hcp
       simp at hcp
       simp
       omega
     · rw[<-h3,e3]
       simp
   · have hdn:dn.length=n:=by omega
     have c1:decide ((dn.length:Int)<(n:Int))=false:=decide_eq_false (by omega)
     have hp:putE (.str []) 0 1 [AV.str v0]=some (.str v0):=rfl
     have w6:IntKind.i64.wrap ((dn.length:Int)+1)=((n+1:Nat):Int):=by rw[w64 (by omega) (by omega)];omega
     have k3:cutI ((dn++[v0]).map AV.str++List.replicate (n+1-(dn.length+1)) (AV.str [])) none (some ((n+1:Nat):Int))=some ((dn++[v0]).map AV.str):=by
      have hz:n+1-(dn.length+1)=0:=by omega
      rw[hz]
      simp only[List.replicate_zero,List.append_nil]
      have hL:((dn++[v0]).map AV.str).length=n+1:=by simp;omega
      generalize (dn++[v0]).map AV.str=L at hL⊢
      unfold cutI
      simp only[Option.getD_none,Option.getD_some]
      rw[if_pos ⟨by omega,by omega,by omega⟩,Int.toNat_natCast,<-hL,List.take_length]
      rfl
     simp only[c1,cond_f]
     show kx v0 (dn.length:Int) _=_
     simp only[kx,cond_t,hdec,Int.toNat_natCast,hget,oB_s,hp,hhd,w6]
     rw[hset,k3]
     simp only[oB_s]
     rw[<-h3,qbo4 v0 [] (by omega)]
     simp
def ordB (x:LU):Bool:=decide (1<=x.length)&&decide (x.length<=63)&&x.all labC
theorem qbyh (x:LU)(hx:x.length<=9223372036854775807):qyw x=some (ordB x):=by
 rw[qbi0];unfold qo2
 rw[q7q,qf2 x hx (qgj x (x.length:Int) fun _=>some true) (fun i nx=>qgi x (x.length:Int) i nx fun _=>some true) (fun _ _=>rfl) (fun r=>some (r.all labC))]
 · unfold ordB
   by_cases h1:x=[]
   · subst h1;rfl
   · have e1:(x==[])=false:=by simpa using h1
     have h2:1<=x.length:=by
      cases x with
      |nil=>exact absurd rfl h1
      |cons a r=>simp
     by_cases h3:x.length<=63
     · have:¬(x.length:Int)>63:=by omega
       simp only[e1,this,h2,h3,decide_true,decide_false,Bool.or_self,cond_f,Bool.true_and]
     · have:(x.length:Int)>63:=by omega
       simp[e1,this,h3]
 · intro nx;simp[qgi]
 · intro i a r nx h1 h2 h3 h4 h5
   have h6:(i:Int)<(x.length:Int):=by omega
   have key:∀kn:Bool->Option Bool,qsd x (a.toNat:Int) (x.length:Int) i kn=kn (!labC a):=by
    intro kn
    have co:∀(p a b:Bool),(bif p then kn a else kn b)=kn (bif p then a else b):=by intro p;cases p<;>intros<;>rfl
    rw[q7p]
    unfold qka labC
    simp only[co]
    have fin:∀n:Fin 256,(bif((decide ((n.val:Int)<(97:Int)))||(decide ((n.val:Int)>(122:Int))))then(bif(decide ((n.val:Int)<(48:Int)))then(((n.val:Int) != (45:Int))&&((n.val:Int) != (95:Int)))else(((decide ((n.val:Int)>(57:Int)))&&((n.val:Int) != (45:Int)))&&((n.val:Int) != (95:Int))))else false)=
     !((decide (97<=n.val)&&decide (n.val<=122))||(decide (48<=n.val)&&decide (n.val<=57))||n.val==45||n.val==95):=by decide+kernel
    exact congrArg kn (fin ⟨a.toNat,a.toNat_lt⟩)
   unfold qgi
   simp only[h6,decide_true,cond_t,ixB_nat,h2,oB_s,key,h4]
   cases h7:labC a
   · simp[h7]
   · simp only[Bool.not_true,cond_t,cond_f,h5,List.all_cons,h7,Bool.true_and]
def sufB (x y:LU):Bool:=decide (y.length<=x.length)&&x.drop (x.length-y.length)==y
theorem qbkj (x y:LU)(hx:x.length<=9223372036854775807):qnl x y=some (sufB x y):=by
 rw[q9y];unfold qlf
 rw[q3d];unfold qhs sufB
 by_cases h:y.length<=x.length
 · have h1:(x.length:Int)>=(y.length:Int):=by omega
   have w:IntKind.i64.wrap ((x.length:Int)-(y.length:Int))=((x.length-y.length:Nat):Int):=by rw[w64 (by omega) (by omega)];omega
   have hc:cutI x (some ((x.length-y.length:Nat):Int)) none=some (x.drop (x.length-y.length)):=by
    unfold cutI
    simp only[Option.getD_none,Option.getD_some]
    rw[if_pos ⟨by omega,by omega,by omega⟩,Int.toNat_natCast,Int.toNat_natCast,List.take_length]
   simp only[h1,decide_true,cond_t,w,hc,oB_s,h,Bool.true_and]
 · have h1:¬(x.length:Int)>=(y.length:Int):=by omega
   simp[h1,h]
def q6c:Bool->List (List UInt8)->Bool
 |_,[]=>true
 |f,l::ls=>(ordB l||(f&&l==[42]))&&q6c false ls
def valB (x:LU):Bool:=x==[46]||(decide (x.length<255)&&sufB x [46]&&q6c true (qek [] (x.take (x.length-1))))
theorem qbmd:∀(s cur:LU),∀l,l∈qek cur s->l.length<=cur.length+s.length
 |[],cur,l,h=>by simp[qek]at h;subst h;simp
 |c::r,cur,l,h=>by
  unfold qek at h
  split at h
  · rcases List.mem_cons.1 h with rfl|h
    · simp<;>omega
    · have:=qbmd r [] l h;simp at this⊢;omega
  · have:=qbmd r _ l h;simp at this⊢;omega
theorem qb5m (ps:List (List UInt8))(hps:ps.length<=9223372036854775807)(hl:∀l,l∈ps->l.length<=9223372036854775807):
 qw7 (ps.map AV.str) ((ps.map AV.str).length:Int) (fun _=>some true) FU 0=some (q6c true ps):=by
 have hlen:(ps.map AV.str).length=ps.length:=by simp
 rw[qbe9,hlen]
 have key:=qcq (σ:=Unit) ps hps (fun n i _=>qj2 (ps.map AV.str) (ps.length:Int) (fun _=>some true) n i) (fun i _ nx=>qj1 (ps.map AV.str) (ps.length:Int) i (fun j=>nx j ()) (fun _=>some true)) (fun _ _ _=>rfl)
  (fun _ _=>True) (fun r _=>some (q6c (decide (r.length=ps.length)) r)) ?_ ?_ () FU trivial (qcz (by omega))
 · simpa using key
 · intro s nx _
   simp[qj1,q6c]
 · intro i l r s nx h1 h2 h3 h4 _ h5
   have h6:(i:Int)<(ps.length:Int):=by omega
   have hg:(ps.map AV.str)[i]?=some (.str l):=by simp[h2]
   have hr:r.length=ps.length-(i+1):=by
    have:=congrArg List.length h1
    simp at this
    omega
   unfold qj1
   simp only[h6,decide_true,cond_t,ixB_nat,hg,oB_s]
   rw[show fitC [.s] (AV.str l).cells=true from rfl,show gS (AV.str l).cells 0=l from rfl]
   simp only[cond_t,qbe8,qnn,qbyh l (hl l (List.mem_of_getElem? h2)),oB_s,h4,h5 () trivial,q6c]
   have e1:decide (r.length=ps.length)=false:=decide_eq_false (by omega)
   have e2:decide ((l::r).length=ps.length)=decide (i=0):=decide_eq_decide.2 (by simp;omega)
   rw[e1,e2]
   by_cases hi:i=0
   · subst hi
     cases ordB l<;>cases(l==[42])<;>rfl
   · have a1:decide ((i:Int)>0)=true:=decide_eq_true (by omega)
     have a2:decide (i=0)=false:=decide_eq_false hi
     rw[a1,a2]
     cases ordB l<;>rfl
theorem qb19 (x:LU)(hx:x.length<=9223372036854775807):qgc x=some (valB x):=by
 rw[qbpr];unfold qu7 valB
 by_cases h1:x=[46]
 · subst h1;rfl
 · have e1:(x==[46])=false:=by simpa using h1
   rw[e1]
   simp only[cond_f,qbe6,qnm,qbkj x _ hx,oB_s,Bool.false_or]
   by_cases h2:x.length<255
   · have e2:¬(x.length:Int)>=255:=by omega
     simp only[e2,decide_false,cond_f,h2,decide_true,Bool.true_and]
     cases h3:sufB x [46]with
     |false=>rfl
     |true=>
      have h4:1<=x.length:=by
       simp[sufB]at h3
       exact h3.1
      have w:IntKind.i64.wrap ((x.length:Int)-1)=((x.length-1:Nat):Int):=by rw[w64 (by omega) (by omega)];omega
      have hc:cutI x none (some ((x.length-1:Nat):Int))=some (x.take (x.length-1)):=by
       unfold cutI
       simp only[Option.getD_none,Option.getD_some]
       rw[if_pos ⟨by omega,by omega,by omega⟩,Int.toNat_natCast]
       rfl
      have hpl:=q00 (x.take (x.length-1)) []
      have hcl:(x.take (x.length-1)).count 46<=(x.take (x.length-1)).length:=List.count_le_length
      have htl:(x.take (x.length-1)).length<=254:=by simp;omega
      simp only[Bool.not_true,cond_f,w,hc,oB_s,qbxc _ (by omega:(x.take (x.length-1)).length<=1000000000)]
      rw[qb5m _ (by omega) (fun l hl=>by have:=qbmd _ _ l hl;simp only[List.length_nil]at this;omega)]
      simp
   · have e2:(x.length:Int)>=255:=by omega
     simp[e2,h2]
theorem q6d:∀(y cur:LU),spl cur (y++[46])=qek cur y
 |[],cur=>by simp[spl,qek]
 |c::r,cur=>by
  simp only[List.cons_append,spl,qek]
  split
  · rw[q6d r]
  · rw[q6d r]
theorem qbxd:∀(ls:List (List UInt8)) (f:Bool),q6c f ls=qon f ls
 |[],f=>rfl
 |l::ls,f=>by
  unfold q6c qon
  rw[qbxd ls false]
  by_cases h:l=[42]
  · subst h
    rw[show ordB [42]=false from by decide,show q6b [42]=true from by decide]
    cases f<;>rfl
  · have e:(l==[42])=false:=by simpa using h
    rw[e]
    rw[show q6b l=ordB l by simp[q6b,ordB,e]]
    cases ordB l<;>cases f<;>rfl
theorem qb5n (x:LU):valB x=qbd x:=by
 unfold valB qbd qi7
 by_cases h1:x=[46]
 · subst h1;rfl
 · have e1:(x==[46])=false:=by simpa using h1
   rw[e1,if_neg h1,Bool.false_or]
   rcases List.eq_nil_or_concat x with rfl|⟨y,c,rfl⟩
   · rfl
   · rw[List.concat_eq_append]at*
     have hl:(y++[c]).length-1=y.length:=by simp
     have hs:sufB (y++[c]) [46]=(c==46):=by
      unfold sufB
      have:(y++[c]).length-([46]:List UInt8).length=y.length:=by simp
      rw[this]
      simp
     have he:qom (y++[c])=(decide (1<=y.length)&&decide ((y++[c]).length<255)&&(c==46)):=by
      unfold qom
      have a1:decide (2<=(y++[c]).length)=decide (1<=y.length):=decide_eq_decide.2 (by simp)
      have a2:decide ((y++[c]).length<=254)=decide ((y++[c]).length<255):=decide_eq_decide.2 (by omega)
      rw[a1,a2]
      simp
     rw[hl,hs,he,List.take_left]
     by_cases hc:c=46
     · subst hc
       rw[q6d,qbxd]
       have hy:1<=y.length:=by
        cases y with
        |nil=>exact absurd rfl h1
        |cons a r=>simp
       rw[decide_eq_true hy]
       cases decide ((y++[46]).length<255)<;>cases qon true (qek [] y)<;>simp
     · have hb:(c==46)=false:=by simpa using hc
       rw[hb]
       simp
theorem qs3 (x:LU)(hx:x.length<=9223372036854775807):qgc x=some (qbd x):=by rw[qb19 x hx,qb5n]
def quw (x y:LU):Bool:=qbd x&&(qbd y&&(y==[46]||x==y||sufB x (46::y)))
theorem qbo6 {x:LU}(h:qbd x=true):x.length<=254:=by
 unfold qbd qi7 at h
 split at h
 · rename_i h1;subst h1;simp
 · split at h
   · rename_i h2
     have:=h2.1
     simp[qom]at this
     omega
   · cases h
theorem qb4j (x y:LU)(hx:x.length<=9223372036854775807)(hy:y.length<=9223372036854775807):q6l x y=some (quw x y):=by
 rw[qbpt];unfold qva quw
 simp only[qs3 x hx,qs3 y hy,oB_s]
 cases h1:qbd x with
 |false=>rfl
 |true=>
  cases h2:qbd y with
  |false=>rfl
  |true=>
   have hl:=qbo6 h2
   simp only[cond_t,Bool.true_and]
   rw[qbsx];unfold qw8
   have hd:decide (([46]:List UInt8).length+y.length<=9223372036854775807)=true:=decide_eq_true (by simp;omega)
   cases h3:(y==[46]||x==y)with
   |true=>rfl
   |false=>
    simp only[cond_f,hd,cond_t,qbkj x _ hx,oB_s,Bool.false_or]
    rfl
def ql (x:LU):List (List UInt8):=(qi7 x).1
theorem qbme (x:LU)(hx:x.length<=9223372036854775807):qse x=some (avS (ql x)):=by
 rw[qbmw];unfold qtg
 simp only[qbfd,qnp,qs3 x hx,oB_s]
 by_cases h1:x=[46]
 · subst h1;rfl
 · have e1:(x==[46])=false:=by simpa using h1
   rw[e1]
   simp only[cond_f]
   cases h2:qbd x with
   |false=>
    unfold ql
    unfold qbd qi7 at h2
    unfold qi7
    rw[if_neg h1]at h2⊢
    split at h2
    · cases h2
    · rename_i h3
      rw[if_neg h3]
      rfl
   |true=>
    have hl:=qbo6 h2
    have h5:=h2
    unfold qbd qi7 at h5
    rw[if_neg h1]at h5
    split at h5
    · rename_i h3
      have hend:=h3.1
      simp only[qom,Bool.and_eq_true,decide_eq_true_eq,beq_iff_eq]at hend
      have h4:1<=x.length:=by omega
      have w:IntKind.i64.wrap ((x.length:Int)-1)=((x.length-1:Nat):Int):=by rw[w64 (by omega) (by omega)];omega
      have hc:cutI x none (some ((x.length-1:Nat):Int))=some (x.take (x.length-1)):=by
       unfold cutI
       simp only[Option.getD_none,Option.getD_some]
       rw[if_pos ⟨by omega,by omega,by omega⟩,Int.toNat_natCast]
       rfl
      have htl:(x.take (x.length-1)).length<=254:=by simp;omega
      simp only[Bool.not_true,cond_f,w,hc,oB_s,qbxc _ (by omega:(x.take (x.length-1)).length<=1000000000)]
      unfold ql qi7
      rw[if_neg h1,if_pos h3]
      rcases List.eq_nil_or_concat x with rfl|⟨y,c,rfl⟩
      · simp at h4
      · rw[List.concat_eq_append]at*
        have hc46:c=46:=by have:=hend.2;simpa using this
        subst hc46
        have hlen:(y++[46]).length-1=y.length:=by simp
        rw[hlen,List.take_left,q6d]
        rfl
    · cases h5
theorem qbh7 {α R:Type}(l:List α)(hl:l.length<=9223372036854775807)(L:Nat->Int->Option R)(B:Int->(Int->Option R)->Option R)(hL:∀n i,L (n+1) i=B i (L n))
 (S:Nat->List α->Option R) (h0:∀nx,B (l.length:Int) nx=S l.length [])
 (hs:∀(i:Nat) (a:α) (r:List α) nx,l.drop i=a::r->l[i]?=some a->i<l.length->IntKind.i64.wrap ((i:Int)+1)=((i+1:Nat):Int)->nx ((i+1:Nat):Int)=S (i+1) r->B (i:Int) nx=S i (a::r)):
 L FU 0=S 0 l:=by
 have:=qf2 l hl L B hL (fun r=>S (l.length-r.length) r) (fun nx=>by simpa using h0 nx) (fun i a r nx h1 h2 h3 h4 h5=>by
  have hr:r.length=l.length-(i+1):=by
   have:=congrArg List.length h1
   simp at this;omega
  have e1:l.length-r.length=i+1:=by omega
  have e2:l.length-(a::r).length=i:=by simp;omega
  simp only[e1]at h5
  simp only[e2]
  exact hs i a r nx h1 h2 h3 h4 h5)
 simpa using this
theorem q01 {l:LT}{ls:List LT}{cs:LA}(h:fitC (l::ls) cs=true):∃x r,cs=x::r/\fitL l x=true/\fitC ls r=true:=by
 cases cs with
 |nil=>simp[fitC]at h
 |cons x r=>
  simp only[fitC]at h
  cases hl:fitL l x
  · rw[hl]at h;cases h
  · rw[hl]at h;exact⟨x,r,rfl,hl,h⟩
theorem qb2a {cs:LA}(h:fitC [] cs=true):cs=[]:=by
 cases cs with
 |nil=>rfl
 |cons x r=>simp[fitC]at h
theorem qbqp:∀(q cur y:LU),spl cur (q++46::y)=spl cur (q++[46])++spl [] y
 |[],cur,y=>by simp[spl]
 |c::r,cur,y=>by
  simp only[List.cons_append,spl]
  split
  · simp[qbqp r [] y]
  · exact qbqp r _ y
theorem qp0:∀(x cur:LU),x.getLast? =some 46->(spl cur x).flatMap (· ++[46])=cur++x
 |[],cur,h=>by simp at h
 |[c],cur,h=>by
  have:c=46:=by simpa using h
  subst this
  simp[spl]
 |c::d::r,cur,h=>by
  have h':(d::r).getLast? =some 46:=by simpa using h
  unfold spl
  split
  · rename_i hc
    subst hc
    simp[qp0 (d::r) [] h']
  · rw[qp0 (d::r) _ h']
    simp
theorem qoo {x:LU}(h:qbd x=true):x=[46]/\ql x=[]\/x≠[46]/\2<=x.length/\x.getLast? =some 46/\qon true (spl [] x)=true/\ql x=spl [] x:=by
 unfold qbd at h
 unfold ql
 unfold qi7 at h⊢
 by_cases h1:x=[46]
 · left;exact⟨h1,by rw[if_pos h1]⟩
 · right
   rw[if_neg h1]at h⊢
   split at h
   · rename_i h2
     rw[if_pos h2]
     have h3:=h2.1
     simp only[qom,Bool.and_eq_true,decide_eq_true_eq,beq_iff_eq]at h3
     exact⟨h1,h3.1.1,h3.2,h2.2,rfl⟩
   · cases h
theorem qb2b {x y:LU}:sufB x y=true↔y<:+x:=by
 unfold sufB
 rw[Bool.and_eq_true,decide_eq_true_eq,beq_iff_eq,List.suffix_iff_eq_drop]
 constructor
 · rintro⟨_,h⟩;exact h.symm
 · intro h
   refine⟨?_,h.symm⟩
   have:=congrArg List.length h
   simp at this;omega
theorem qb0b {x y:LU}(hx:qbd x=true)(hy:qbd y=true):ql y<:+ql x↔(y==[46]||x==y||sufB x (46::y))=true:=by
 simp only[Bool.or_eq_true,beq_iff_eq,qb2b]
 rcases qoo hy with⟨rfl,e⟩|⟨y1,y2,y3,y4,y5⟩
 · simp[e]
 · have jy:=qp0 y [] y3
   rw[List.nil_append]at jy
   rcases qoo hx with⟨rfl,e⟩|⟨x1,x2,x3,x4,x5⟩
   · rw[e,y5]
     constructor
     · intro h
       have:spl [] y=[]:=List.suffix_nil.1 h
       rw[this]at jy
       simp at jy
       subst jy
       simp at y2
     · rintro((h|h)|h)
       · exact absurd h y1
       · exact absurd h.symm y1
       · have:=h.length_le
         rw[List.length_cons,List.length_singleton]at this
         omega
   · have jx:=qp0 x [] x3
     rw[List.nil_append]at jx
     rw[x5,y5]
     constructor
     · rintro⟨p,hp⟩
       rw[<-hp,List.flatMap_append,jy]at jx
       rcases List.eq_nil_or_concat p with rfl|⟨q,l,rfl⟩
       · left;right;simpa using jx.symm
       · right
         rw[List.concat_eq_append]at jx
         refine⟨q.flatMap (· ++[46])++l,?_⟩
         rw[<-jx];simp
     · rintro((h|h)|⟨q,h⟩)
       · exact absurd h y1
       · subst h;exact List.suffix_refl _
       · rw[<-h,qbqp]
         exact⟨_,rfl⟩
def comm:List (List UInt8)->List (List UInt8)->Nat
 |a::r,b::s=>if a=b then comm r s+1 else 0
 |_,_=>0
theorem qbvj:∀(a b:List (List UInt8)),comm a b=b.length↔b<+:a
 |[],[]=>by simp[comm]
 |[],_::_=>by simp[comm]
 |_::_,[]=>by simp[comm]
 |a::r,b::s=>by
  unfold comm
  by_cases h:a=b
  · subst h
    rw[if_pos rfl,List.cons_prefix_cons]
    simp[qbvj r s]
  · rw[if_neg h,List.cons_prefix_cons]
    simp
    exact fun e=>absurd e.symm h
theorem qzo (l:List (List UInt8))(i:Nat)(h:i<l.length):(avS l)[l.length-1-i]?=some (.str (l.reverse[i]'(by simpa using h))):=by
 unfold avS
 rw[List.getElem?_map,List.getElem_reverse,List.getElem?_eq_getElem (by omega)]
 rfl
theorem qbvk (xs ys:List (List UInt8))(hx:xs.length<=1000000000)(hy:ys.length<=1000000000):qqc (avS xs) (avS ys)=some ((comm xs.reverse ys.reverse:Nat):Int):=by
 rw[qblk];unfold qrq
 rw[qbdm]
 have lx:(avS xs).length=xs.length:=by simp[avS]
 have ly:(avS ys).length=ys.length:=by simp[avS]
 have key:=qbhz (fun n (i:Int)=>qfs (avS xs) (avS ys) (fun v5=>some v5) n i) (fun i nx=>qmm (avS xs) (avS ys) i nx (fun v5=>some v5)) (fun _ _=>rfl)
  (fun i=>0<=i/\i<=xs.length) (fun i=>(xs.length-i).toNat) (fun i=>some (i+((comm (xs.reverse.drop i.toNat) (ys.reverse.drop i.toNat):Nat):Int))) ?_ FU 0 (by simp) (qcz (by simp;omega))
 · rw[show qfs (avS xs) (avS ys) (fun v5=>some v5) FU 0=_ from key]
   simp
 · rintro i ⟨h0,h1⟩ nx hn
   obtain⟨i,rfl⟩:∃j:Nat,i=j:=⟨i.toNat,by omega⟩
   unfold qmm
   rw[qbdl];unfold qml
   simp only[lx,ly,Int.toNat_natCast]
   have hw:IntKind.i64.wrap ((i:Int)+1)=((i+1:Nat):Int):=w64 (by omega) (by omega)
   by_cases hi:i<xs.length
   · have hdx:xs.reverse.drop i=xs.reverse[i]'(by simpa using hi)::xs.reverse.drop (i+1):=List.drop_eq_getElem_cons (by simpa using hi)
     by_cases hj:i<ys.length
     · have hdy:ys.reverse.drop i=ys.reverse[i]'(by simpa using hj)::ys.reverse.drop (i+1):=List.drop_eq_getElem_cons (by simpa using hj)
       have w1:IntKind.i64.wrap (IntKind.i64.wrap ((xs.length:Int)-1)-(i:Int))=((xs.length-1-i:Nat):Int):=by
        rw[w64 (i:=(xs.length:Int)-1) (by omega) (by omega),w64 (by omega) (by omega)];omega
       have w2:IntKind.i64.wrap (IntKind.i64.wrap ((ys.length:Int)-1)-(i:Int))=((ys.length-1-i:Nat):Int):=by
        rw[w64 (i:=(ys.length:Int)-1) (by omega) (by omega),w64 (by omega) (by omega)];omega
       have d1:decide ((i:Int)<(xs.length:Int))=true:=decide_eq_true (by omega)
       have d2:decide ((i:Int)<(ys.length:Int))=true:=decide_eq_true (by omega)
       simp only[d1,d2,cond_t,w1,w2,ixB_nat,qzo _ _ hi,qzo _ _ hj,oB_s,hw]
       have f:∀s:List UInt8,fitC [.s] (AV.str s).cells=true:=fun _=>rfl
       have g:∀s:List UInt8,gS (AV.str s).cells 0=s:=fun _=>rfl
       simp only[f,cond_t,g]
       have hnx:=hn ((i+1:Nat):Int) ⟨by omega,by omega⟩ (by omega)
       simp only[Int.toNat_natCast]at hnx
       rw[hdx,hdy]
       unfold comm
       by_cases he:xs.reverse[i]'(by simpa using hi)=ys.reverse[i]'(by simpa using hj)
       · have hb:(xs.reverse[i]'(by simpa using hi)==ys.reverse[i]'(by simpa using hj))=true:=beq_iff_eq.2 he
         rw[hb,cond_t,hnx,if_pos he]
         congr 1;omega
       · have hb:(xs.reverse[i]'(by simpa using hi)==ys.reverse[i]'(by simpa using hj))=false:=by simpa using he
         rw[hb,cond_f,if_neg he]
         simp
     · have d1:decide ((i:Int)<(xs.length:Int))=true:=decide_eq_true (by omega)
       have d2:decide ((i:Int)<(ys.length:Int))=false:=decide_eq_false (by omega)
       have e:ys.reverse.drop i=[]:=List.drop_eq_nil_of_le (by simp;omega)
       rw[e,hdx]
       simp only[d1,d2,cond_t,cond_f]
       simp[comm]
   · have d1:decide ((i:Int)<(xs.length:Int))=false:=decide_eq_false (by omega)
     have e:xs.reverse.drop i=[]:=List.drop_eq_nil_of_le (by simp;omega)
     rw[e]
     simp only[d1,cond_f]
     simp[comm]
theorem qtx {x:LU}:(ql x).length<=254:=by
 unfold ql qi7
 split
 · simp
 · split
   · rename_i h
     have h3:=h.1
     simp only[qom,Bool.and_eq_true,decide_eq_true_eq,beq_iff_eq]at h3
     have:=qbqo x []
     simp;omega
   · simp
theorem qb0c (x:LU)(hx:x.length<=9223372036854775807):qxe x=some (avS (ql x)):=by
 rw[qbfq];unfold qnu
 rw[q20 x hx];rfl
theorem qb2c (x y:LU)(hx:x.length<=9223372036854775807)(hy:y.length<=9223372036854775807):qy2 x y=some (quw x y):=by
 rw[qbjk];unfold qpj quw
 rw[q20 x hx,q20 y hy]
 simp only[oB_s]
 show(bif qbd x&&qbd y then oB (qqc (avS (ql x)) (avS (ql y))) _ else _)=_
 cases h1:qbd x
 · rfl
 cases h2:qbd y
 · rfl
 have l1:=qtx (x:=x)
 have l2:=qtx (x:=y)
 rw[qbvk _ _ (by omega) (by omega)]
 simp only[Bool.and_self,cond_t,oB_s,Bool.true_and]
 have ly:(avS (qi7 y).1).length=(ql y).length:=by simp[avS,ql]
 rw[ly]
 congr 1
 rw[Bool.eq_iff_iff,beq_iff_eq,<-qb0b h1 h2,<-List.reverse_prefix,<-qbvj,List.length_reverse]
 omega
theorem qb0d {x:LU}(h:qbd x=true):((ql x).head? =some [42])↔x.head? =some 42:=by
 rcases qoo h with⟨rfl,e⟩|⟨y1,y2,y3,y4,y5⟩
 · simp[e]
 · rw[y5]
   have jy:=qp0 x [] y3
   rw[List.nil_append]at jy
   cases hs:spl [] x with
   |nil=>rw[hs]at jy;simp at jy;subst jy;simp at y2
   |cons l ls=>
    rw[hs]at jy y4
    simp only[qon,Bool.and_eq_true]at y4
    have hl:=y4.1.1
    simp only[List.head?_cons,Option.some.injEq]
    constructor
    · intro e;subst e;rw[<-jy];simp
    · intro e
      unfold q6b at hl
      simp only[Bool.or_eq_true,beq_iff_eq,Bool.and_eq_true,decide_eq_true_eq]at hl
      rcases hl with hl|⟨⟨hl1,_⟩,hl2⟩
      · exact hl
      · cases l with
        |nil=>simp at hl1
        |cons c r=>
         rw[<-jy]at e
         have:c=42:=by simpa using e
         subst this
         simp[labC]at hl2
def cmpS (a b:LU):Int:=Lib.compareBytes a b
theorem q6e:∀a b,cmpS a b= -1\/cmpS a b=0\/cmpS a b=1
 |[],[]=>by simp[cmpS,Lib.compareBytes]
 |[],_::_=>by simp[cmpS,Lib.compareBytes]
 |_::_,[]=>by simp[cmpS,Lib.compareBytes]
 |a::as_,b::bs=>by
  have ih:=q6e as_ bs
  show(if a<b then(-1:Int)else if b<a then 1 else cmpS as_ bs)= -1\/_\/_
  have e:cmpS (a::as_) (b::bs)=if a<b then(-1:Int)else if b<a then 1 else cmpS as_ bs:=rfl
  rw[e]
  split
  · simp
  · split
    · simp
    · exact ih
theorem qzp (a b:UInt8):a<b\/a=b\/b<a:=by
 rcases Nat.lt_trichotomy a.toNat b.toNat with h|h|h
 · exact .inl h
 · exact .inr (.inl (UInt8.toNat_inj.1 h))
 · exact .inr (.inr h)
theorem qe9 {a b:UInt8}(h:a<b):¬b<a:=fun h2=>by
 have h1:a.toNat<b.toNat:=h
 have h2:b.toNat<a.toNat:=h2
 omega
theorem qb2d {a b c:UInt8}(h:a<b)(h2:b<c):a<c:=Nat.lt_trans (show a.toNat<b.toNat from h) h2
theorem q02 (a b:UInt8)(r s:LU):cmpS (a::r) (b::s)=if a<b then-1 else if b<a then 1 else cmpS r s:=rfl
theorem qkw:∀{a b},cmpS a b=0↔a=b
 |[],[]=>by simp[cmpS,Lib.compareBytes]
 |[],_::_=>by simp[cmpS,Lib.compareBytes]
 |_::_,[]=>by simp[cmpS,Lib.compareBytes]
 |a::r,b::s=>by
  rw[q02]
  rcases qzp a b with h|rfl|h
  · rw[if_pos h]
    simp only[List.cons.injEq]
    exact⟨fun h=>by omega,fun e=>by rw[e.1]at h;exact absurd h (qe9 h)⟩
  · rw[if_neg (fun h=>qe9 h h),if_neg (fun h=>qe9 h h),qkw]
    simp
  · rw[if_neg (qe9 h),if_pos h]
    simp only[List.cons.injEq]
    exact⟨fun h=>by omega,fun e=>by rw[e.1]at h;exact absurd h (qe9 h)⟩
theorem qbhp:∀a b,cmpS b a= -cmpS a b
 |[],[]=>by simp[cmpS,Lib.compareBytes]
 |[],_::_=>by simp[cmpS,Lib.compareBytes]
 |_::_,[]=>by simp[cmpS,Lib.compareBytes]
 |a::r,b::s=>by
  rw[q02,q02]
  rcases qzp a b with h|rfl|h
  · simp[h,qe9 h]
  · simp[fun h=>qe9 (a:=a) (b:=a) h h,qbhp r s]
  · simp[h,qe9 h]
theorem qbb9:∀{a b c},cmpS a b<0->cmpS b c<0->cmpS a c<0
 |[],[],_,h,_=>by simp[cmpS,Lib.compareBytes]at h
 |[],_::_,[],_,h=>by simp[cmpS,Lib.compareBytes]at h
 |[],_::_,_::_,_,_=>by simp[cmpS,Lib.compareBytes]
 |_::_,[],_,h,_=>by simp[cmpS,Lib.compareBytes]at h
 |_::_,_::_,[],_,h=>by simp[cmpS,Lib.compareBytes]at h
 |a::r,b::s,c::t,h1,h2=>by
  rw[q02]at h1 h2⊢
  rcases qzp a b with h|rfl|h
  · rcases qzp b c with k|rfl|k
    · rw[if_pos (qb2d h k)];omega
    · rw[if_pos h];omega
    · rw[if_neg (qe9 k),if_pos k]at h2;omega
  · rw[if_neg (fun h=>qe9 h h),if_neg (fun h=>qe9 h h)]at h1
    rcases qzp a c with k|rfl|k
    · rw[if_pos k];omega
    · rw[if_neg (fun h=>qe9 h h),if_neg (fun h=>qe9 h h)]at h2⊢
      exact qbb9 h1 h2
    · rw[if_neg (qe9 k),if_pos k]at h2;omega
  · rw[if_neg (qe9 h),if_pos h]at h1;omega
theorem qbsa:∀a b,Op.bytesLess a b=decide (cmpS a b<0)
 |[],[]=>by simp[Op.bytesLess,cmpS,Lib.compareBytes]
 |[],_::_=>by simp[Op.bytesLess,cmpS,Lib.compareBytes]
 |_::_,[]=>by simp[Op.bytesLess,cmpS,Lib.compareBytes]
 |a::r,b::s=>by
  rw[q02]
  unfold Op.bytesLess
  rw[qbsa r s]
  rcases qzp a b with h|rfl|h
  · simp[h]
  · simp[fun h=>qe9 (a:=a) (b:=a) h h]
  · have hne:a≠b:=fun e=>by rw[e]at h;exact qe9 h h
    simp[h,qe9 h,hne]
theorem qbo7 (a b:LU):qrg a b=some (cmpS a b):=by
 rw[qbfb]
 unfold qno
 rw[q3h]
 rfl
theorem qb5o (a b:LU):qvc a b=some (cmpS a b):=by
 rw[qblj]
 unfold qrp
 rw[qbsa]
 rcases q6e a b with h|h|h
 · simp[h]
 · have e:=qkw.1 h
   subst e
   simp[h]
 · have e:(a==b)=false:=by
    have:a≠b:=fun e=>by rw[qkw.2 e]at h;omega
    simpa using this
   simp[h,e]
def cmpZ:List (List UInt8)->List (List UInt8)->Option Int
 |a::r,b::s=>if cmpS a b=0 then cmpZ r s else some (cmpS a b)
 |_,_=>none
def cmpR (x y:List (List UInt8)):Int:=(cmpZ x y).getD (if x.length<y.length then-1 else if x.length>y.length then 1 else 0)
def cmpN (x y:LU):Int:=
 if qbd x=true/\qbd y=false then-1 else if qbd y=true/\qbd x=false then 1 else if qbd x=false then cmpS x y else cmpR (ql x).reverse (ql y).reverse
theorem q03 (a b:LU)(r s:List (List UInt8)):cmpR (a::r) (b::s)=if cmpS a b=0 then cmpR r s else cmpS a b:=by
 unfold cmpR
 simp only[cmpZ]
 split
 · simp
 · rfl
theorem qbsb:∀{x y},cmpR x y=0↔x=y
 |[],[]=>by simp[cmpR,cmpZ]
 |[],_::_=>by simp[cmpR,cmpZ]
 |_::_,[]=>by simp[cmpR,cmpZ]
 |a::r,b::s=>by
  rw[q03]
  split
  · rename_i h
    rw[qbsb,qkw.1 h];simp
  · rename_i h
    simp only[List.cons.injEq]
    exact⟨fun e=>absurd e h,fun e=>absurd (qkw.2 e.1) h⟩
theorem qbsc:∀x y,cmpR y x= -cmpR x y
 |[],[]=>by simp[cmpR,cmpZ]
 |[],_::_=>by simp[cmpR,cmpZ]
 |_::_,[]=>by simp[cmpR,cmpZ]
 |a::r,b::s=>by
  rw[q03,q03,qbhp a b,qbsc r s]
  split<;>split<;>omega
theorem qbo8:∀{x y z},cmpR x y<0->cmpR y z<0->cmpR x z<0
 |[],[],_,h,_=>by simp[cmpR,cmpZ]at h
 |[],_::_,[],_,h=>by simp[cmpR,cmpZ]at h
 |[],_::_,_::_,_,_=>by simp[cmpR,cmpZ]
 |_::_,[],_,h,_=>by simp[cmpR,cmpZ]at h
 |_::_,_::_,[],_,h=>by simp[cmpR,cmpZ]at h
 |a::r,b::s,c::t,h1,h2=>by
  rw[q03]at h1 h2⊢
  by_cases e1:cmpS a b=0
  · have:=qkw.1 e1
    subst this
    rw[if_pos e1]at h1
    by_cases e2:cmpS a c=0
    · rw[if_pos e2]at h2⊢
      exact qbo8 h1 h2
    · rw[if_neg e2]at h2⊢;exact h2
  · rw[if_neg e1]at h1
    by_cases e2:cmpS b c=0
    · have:=qkw.1 e2
      subst this
      rw[if_neg e1];exact h1
    · rw[if_neg e2]at h2
      have:=qbb9 h1 h2
      rw[if_neg (by omega)];exact this
theorem qbsd:∀x y,cmpR x y= -1\/cmpR x y=0\/cmpR x y=1
 |[],[]=>by simp[cmpR,cmpZ]
 |[],_::_=>by simp[cmpR,cmpZ]
 |_::_,[]=>by simp[cmpR,cmpZ]
 |a::r,b::s=>by
  rw[q03]
  split
  · exact qbsd r s
  · exact q6e a b
theorem qbyi {x y:LU}(hx:qbd x=true)(hy:qbd y=true)(h:ql x=ql y):x=y:=by
 rcases qoo hx with⟨a1,a2⟩|⟨a1,a2,a3,a4,a5⟩<;>rcases qoo hy with⟨b1,b2⟩|⟨b1,b2,b3,b4,b5⟩
 · rw[a1,b1]
 · exfalso
   have h2:=qp0 y [] b3
   rw[<-b5,<-h,a2]at h2
   simp at h2
   subst h2
   simp at b2
 · exfalso
   have h2:=qp0 x [] a3
   rw[<-a5,h,b2]at h2
   simp at h2
   subst h2
   simp at a2
 · have h1:=qp0 x [] a3
   have h2:=qp0 y [] b3
   rw[<-a5,h,b5]at h1
   simp only[List.nil_append]at h1 h2
   exact h1.symm.trans h2
theorem qbse {x y:LU}:cmpN x y=0↔x=y:=by
 unfold cmpN
 cases hx:qbd x<;>cases hy:qbd y
 · simp[qkw]
 · simp only[Bool.true_eq_false,and_self,Bool.false_eq_true,false_and,if_false,if_true]
   exact⟨fun h=>by omega,fun e=>by rw[e,hy]at hx;cases hx⟩
 · simp only[and_self,if_true]
   exact⟨fun h=>by omega,fun e=>by rw[e,hy]at hx;cases hx⟩
 · simp only[Bool.true_eq_false,and_false,if_false,qbsb]
   exact⟨fun h=>qbyi hx hy (by simpa using congrArg List.reverse h),fun e=>by rw[e]⟩
theorem qb0e (x y:LU):cmpN y x= -cmpN x y:=by
 unfold cmpN
 cases hx:qbd x<;>cases hy:qbd y<;>simp
 · exact qbhp x y
 · exact qbsc _ _
theorem qbyj {x y z:LU}(h1:cmpN x y<0)(h2:cmpN y z<0):cmpN x z<0:=by
 unfold cmpN at*
 cases hx:qbd x<;>cases hy:qbd y<;>cases hz:qbd z<;>simp[hx,hy,hz]at h1 h2⊢
 · exact qbb9 h1 h2
 · exact qbo8 h1 h2
theorem qb0f (x y:LU):cmpN x y= -1\/cmpN x y=0\/cmpN x y=1:=by
 unfold cmpN
 split
 · simp
 · split
   · simp
   · split
     · exact q6e x y
     · exact qbsd _ _
theorem qbsf (xs ys:List (List UInt8))(hx:xs.length<=1000000000)(hy:ys.length<=1000000000)(kx:Unit->Option Int):∀(n j:Nat),j<=xs.length->j<=ys.length->xs.length-j<n->
 qe6 (avS xs) (avS ys) kx n ((j+1:Nat):Int)=match cmpZ (xs.reverse.drop j) (ys.reverse.drop j)with
  |some c=>some c
  |none=>kx ()
 |0,j,_,_,h=>by omega
 |n+1,j,h1,h2,h3=>by
  unfold qe6 qqv
  have hlx:(avS xs).length=xs.length:=by simp[avS]
  have hly:(avS ys).length=ys.length:=by simp[avS]
  rw[hlx,hly]
  by_cases hc:j<xs.length/\j<ys.length
  · have e1:(decide (((j+1:Nat):Int)<=(xs.length:Int))&&decide (((j+1:Nat):Int)<=(ys.length:Int)))=true:=by simp;omega
    rw[e1,cond_t,w64 (by omega) (by omega),qboo (j:=xs.length-1-j) (by omega),qzo xs j hc.1,oB_s]
    rw[show fitC [.s] (AV.str (xs.reverse[j]'(by simpa using hc.1))).cells=true from rfl,cond_t,w64 (by omega) (by omega),qboo (j:=ys.length-1-j) (by omega),qzo ys j hc.2,oB_s]
    rw[show fitC [.s] (AV.str (ys.reverse[j]'(by simpa using hc.2))).cells=true from rfl,cond_t]
    rw[show gS (AV.str (xs.reverse[j]'(by simpa using hc.1))).cells 0=xs.reverse[j]'(by simpa using hc.1)from rfl,show gS (AV.str (ys.reverse[j]'(by simpa using hc.2))).cells 0=ys.reverse[j]'(by simpa using hc.2)from rfl,qbo7,oB_s]
    rw[List.drop_eq_getElem_cons (l:=xs.reverse) (i:=j) (by simpa using hc.1),List.drop_eq_getElem_cons (l:=ys.reverse) (i:=j) (by simpa using hc.2)]
    simp only[cmpZ]
    by_cases h0:cmpS (xs.reverse[j]'(by simpa using hc.1)) (ys.reverse[j]'(by simpa using hc.2))=0
    · rw[if_pos h0,h0]
      simp only[bne_self_eq_false,cond_f]
      have ih:=qbsf xs ys hx hy kx n (j+1) (by omega) (by omega) (by omega)
      rw[w64 (by omega) (by omega)]
      rw[show((j+1:Nat):Int)+1=((j+1+1:Nat):Int) by omega]
      exact ih
    · rw[if_neg h0]
      have:(cmpS (xs.reverse[j]'(by simpa using hc.1)) (ys.reverse[j]'(by simpa using hc.2)) != 0)=true:=by simpa using h0
      rw[this,cond_t]
  · have e1:(decide (((j+1:Nat):Int)<=(xs.length:Int))&&decide (((j+1:Nat):Int)<=(ys.length:Int)))=false:=by
     rw[Bool.and_eq_false_iff];simp;omega
    rw[e1,cond_f]
    have:cmpZ (xs.reverse.drop j) (ys.reverse.drop j)=none:=by
     rcases Classical.not_and_iff_not_or_not.1 hc with h|h
     · rw[List.drop_eq_nil_of_le (by simp;omega)];simp[cmpZ]
     · have e:ys.reverse.drop j=[]:=List.drop_eq_nil_of_le (by simp;omega)
       rw[e]
       cases xs.reverse.drop j<;>simp[cmpZ]
    rw[this]
theorem lenC (a b:Nat):(bif decide ((a:Int)<(b:Int))then some (-1:Int)else bif decide ((a:Int)>(b:Int))then some 1 else some 0)=some (if a<b then-1 else if a>b then 1 else 0):=by
 rcases Nat.lt_trichotomy a b with h|h|h
 · have:(a:Int)<b:=by omega
   simp[h,this]
 · subst h;simp
 · have h1:¬(a:Int)<b:=by omega
   have h2:(b:Int)<a:=by omega
   have h3:¬a<b:=by omega
   simp[h1,h2,h3,h]
theorem qbo9 (x y:LU)(hx:x.length<=9223372036854775807)(hy:y.length<=9223372036854775807):qu8 x y=some (cmpN x y):=by
 rw[qbk8]
 unfold qrh cmpN
 rw[qs3 x hx,oB_s,qs3 y hy,oB_s,qbme x hx,oB_s,qbme y hy,oB_s,q92]
 have hlx:=qtx (x:=x)
 have hly:=qtx (x:=y)
 have hL:=qbsf (ql x) (ql y) (by omega) (by omega) (fun _=>(bif(decide (((avS (ql x)).length:Int)<((avS (ql y)).length:Int)))then(some (-1:Int))else(bif(decide (((avS (ql x)).length:Int)>((avS (ql y)).length:Int)))then(some (1:Int))else(some (0:Int))))) FU 0 (by omega) (by omega) (qcz (by omega))
 rw[show((0+1:Nat):Int)=1 from rfl]at hL
 rw[hL]
 cases qbd x<;>cases qbd y<;>simp only[Bool.not_true,Bool.not_false,Bool.and_true,Bool.and_false,Bool.and_self,cond_t,cond_f,qbo7,oB_s,and_self,if_true,Bool.true_eq_false,Bool.false_eq_true,and_false,false_and,if_false]
 simp only[List.drop_zero]
 unfold cmpR
 cases cmpZ (ql x).reverse (ql y).reverse with
 |some c=>rfl
 |none=>
  simp only[avS,List.length_map,Option.getD_none,List.length_reverse]
  exact lenC _ _
theorem qbsg:∀(a b:List (List UInt8)),cmpZ a b=if h:comm a b<a.length/\comm a b<b.length then some (cmpS (a[comm a b]'h.1) (b[comm a b]'h.2))else none
 |[],b=>by simp[cmpZ,comm]
 |a::r,[]=>by simp[cmpZ,comm]
 |a::r,b::s=>by
  unfold cmpZ comm
  by_cases e:a=b
  · subst e
    rw[if_pos (qkw.2 rfl),qbsg r s]
    simp only[if_true]
    by_cases h:comm r s<r.length/\comm r s<s.length
    · rw[dif_pos h,dif_pos (by simp;omega)]
      simp
    · rw[dif_neg h,dif_neg (by simp;omega)]
  · rw[if_neg (fun h=>e (qkw.1 h))]
    simp[e]
theorem qb0g (x:LU):(qi7 x).2=qbd x:=rfl
theorem qbpa (x y:LU)(hx:x.length<=9223372036854775807)(hy:y.length<=9223372036854775807):qph x y=some (cmpN x y):=by
 rw[qbdn]
 unfold qmn cmpN
 rw[q20 x hx,oB_s,q20 y hy,oB_s]
 simp only[qb0g,qb5o,oB_s]
 have hlx:=qtx (x:=x)
 have hly:=qtx (x:=y)
 rw[show(qi7 x).1=ql x from rfl,show(qi7 y).1=ql y from rfl,qbvk _ _ (by omega) (by omega),oB_s]
 cases qbd x<;>cases qbd y<;>simp only[Bool.not_true,Bool.not_false,Bool.or_true,Bool.or_false,Bool.or_self,cond_t,cond_f,and_self,if_true,Bool.true_eq_false,Bool.false_eq_true,and_false,false_and,if_false]
 have hax:(avS (ql x)).length=(ql x).length:=by simp[avS]
 have hay:(avS (ql y)).length=(ql y).length:=by simp[avS]
 rw[hax,hay]
 unfold cmpR
 rw[qbsg]
 by_cases h:comm (ql x).reverse (ql y).reverse<(ql x).length/\comm (ql x).reverse (ql y).reverse<(ql y).length
 · have e1:(decide (((comm (ql x).reverse (ql y).reverse:Nat):Int)<((ql x).length:Int))&&decide (((comm (ql x).reverse (ql y).reverse:Nat):Int)<((ql y).length:Int)))=true:=by simp;omega
   rw[e1,cond_t,dif_pos (by simpa using h)]
   rw[w64 (i:=((ql x).length:Int)-1) (by omega) (by omega),w64 (by omega) (by omega),qboo (j:=(ql x).length-1-comm (ql x).reverse (ql y).reverse) (by omega),qzo _ _ h.1,oB_s]
   rw[show fitC [.s] (AV.str ((ql x).reverse[comm (ql x).reverse (ql y).reverse]'(by simpa using h.1))).cells=true from rfl,cond_t]
   rw[w64 (i:=((ql y).length:Int)-1) (by omega) (by omega),w64 (by omega) (by omega),qboo (j:=(ql y).length-1-comm (ql x).reverse (ql y).reverse) (by omega),qzo _ _ h.2,oB_s]
   rw[show fitC [.s] (AV.str ((ql y).reverse[comm (ql x).reverse (ql y).reverse]'(by simpa using h.2))).cells=true from rfl,cond_t]
   rfl
 · have e1:(decide (((comm (ql x).reverse (ql y).reverse:Nat):Int)<((ql x).length:Int))&&decide (((comm (ql x).reverse (ql y).reverse:Nat):Int)<((ql y).length:Int)))=false:=by
    rw[Bool.and_eq_false_iff];simp;omega
   rw[e1,cond_f,dif_neg (by simpa using h)]
   simp only[Option.getD_none,List.length_reverse]
   exact lenC _ _
theorem qb5p (v:Bool)(hi lo:Int)(w:Bool)(whi wlo:Int):cmpA v hi lo w whi wlo=cmpP v hi lo 0 w whi wlo 0:=by
 unfold cmpP
 cases h:(cmpA v hi lo w whi wlo != 0)
 · simp at h;simp[h]
 · simp
theorem qbyk (v:Bool)(hi lo:Int)(w:Bool)(whi wlo:Int):(cmpA v hi lo w whi wlo<0/\ltP v hi lo 0 w whi wlo 0)\/(cmpA v hi lo w whi wlo=0/\v=w/\hi=whi/\lo=wlo)\/(cmpA v hi lo w whi wlo>0/\ltP w whi wlo 0 v hi lo 0):=by
 rw[qb5p]
 rcases q2o v hi lo 0 w whi wlo 0 with h|⟨h1,h2,h3,h4,_⟩|h
 · exact .inl h
 · exact .inr (.inl ⟨h1,h2,h3,h4⟩)
 · exact .inr (.inr h)
def qbvl (y:AV):Prop:=fitC qj y.cells=true/\uok (gI y.cells 2)/\uok (gI y.cells 3)/\(gS y.cells 0).length<=9223372036854775807
def qlz (l:LA):Prop:=l.length<=9223372036854775807/\∀y,y∈l->qbvl y
def mkH (n:LU)(v:Bool)(hi lo t:Int):AV:=.agg [(.str n),(.bool v),(.int .u64 hi),(.int .u64 lo),(.int .i64 t)]
theorem qb6f {cs:LA}(h:fitC qj cs=true):cs=(mkH (gS cs 0) (gB cs 1) (gI cs 2) (gI cs 3) (gI cs 4)).cells:=by
 unfold qj at h
 obtain⟨x0,r,rfl,h0,h⟩:=q01 h
 obtain⟨x1,r,rfl,h1,h⟩:=q01 h
 obtain⟨x2,r,rfl,h2,h⟩:=q01 h
 obtain⟨x3,r,rfl,h3,h⟩:=q01 h
 obtain⟨x4,r,rfl,h4,h⟩:=q01 h
 have:=qb2a h
 subst this
 cases x0<;>simp[fitL]at h0
 cases x1<;>simp[fitL]at h1
 cases x2<;>simp[fitL]at h2
 cases x3<;>simp[fitL]at h3
 cases x4<;>simp[fitL]at h4
 subst h2 h3 h4
 rfl
theorem qbca {y:AV}(h:fitC qj y.cells=true):mkH (gS y.cells 0) (gB y.cells 1) (gI y.cells 2) (gI y.cells 3) (gI y.cells 4)=y:=by
 have h5:=qb6f h
 cases y with
 |agg cs=>exact congrArg AV.agg h5.symm
 |_=>
  exfalso
  have:=congrArg List.length h5
  simp[AV.cells,mkH]at this
def qei (n:LU)(v:Bool)(hi lo:Int)(m:LU)(w:Bool)(whi wlo:Int):Int:=bif(cmpA v hi lo w whi wlo != 0)then cmpA v hi lo w whi wlo else cmpN n m
def cmpH (y z:AV):Int:=qei (gS y.cells 0) (gB y.cells 1) (gI y.cells 2) (gI y.cells 3) (gS z.cells 0) (gB z.cells 1) (gI z.cells 2) (gI z.cells 3)
def ltHr (n:LU)(v:Bool)(hi lo:Int)(m:LU)(w:Bool)(whi wlo:Int):Prop:=ltP v hi lo 0 w whi wlo 0\/(v=w/\hi=whi/\lo=wlo/\cmpN n m<0)
def ltH (y z:AV):Prop:=ltHr (gS y.cells 0) (gB y.cells 1) (gI y.cells 2) (gI y.cells 3) (gS z.cells 0) (gB z.cells 1) (gI z.cells 2) (gI z.cells 3)
theorem q2s (n:LU)(v:Bool)(hi lo:Int)(m:LU)(w:Bool)(whi wlo:Int):
 (qei n v hi lo m w whi wlo<0/\ltHr n v hi lo m w whi wlo)\/(qei n v hi lo m w whi wlo=0/\n=m/\v=w/\hi=whi/\lo=wlo)\/(qei n v hi lo m w whi wlo>0/\ltHr m w whi wlo n v hi lo):=by
 unfold qei
 rcases qbyk v hi lo w whi wlo with⟨h1,h2⟩|⟨h1,rfl,rfl,rfl⟩|⟨h1,h2⟩
 · have:(cmpA v hi lo w whi wlo != 0)=true:=by simp;omega
   rw[this,cond_t]
   exact .inl ⟨h1,.inl h2⟩
 · rw[h1,show((0:Int) != 0)=false from rfl,cond_f]
   have hs:=qb0e n m
   rcases qb0f n m with h|h|h
   · exact .inl ⟨by omega,.inr ⟨rfl,rfl,rfl,by omega⟩⟩
   · exact .inr (.inl ⟨h,qbse.1 h,rfl,rfl,rfl⟩)
   · exact .inr (.inr ⟨by omega,.inr ⟨rfl,rfl,rfl,by omega⟩⟩)
 · have:(cmpA v hi lo w whi wlo != 0)=true:=by simp;omega
   rw[this,cond_t]
   exact .inr (.inr ⟨h1,.inl h2⟩)
theorem qkx {n:LU}{v:Bool}{hi lo:Int}:¬ltHr n v hi lo n v hi lo:=fun h=>by
 rcases h with h|⟨_,_,_,h⟩
 · exact qir h
 · rw[qbse.2 rfl]at h;omega
theorem q6f {x y z:AV}(h1:ltH x y)(h2:ltH y z):ltH x z:=by
 unfold ltH at*
 rcases h1 with h1|⟨a1,a2,a3,a4⟩
 · rcases h2 with h2|⟨b1,b2,b3,b4⟩
   · exact .inl (q57 h1 h2)
   · left;rw[<-b1,<-b2,<-b3];exact h1
 · rcases h2 with h2|⟨b1,b2,b3,b4⟩
   · left;rw[a1,a2,a3];exact h2
   · exact .inr ⟨a1.trans b1,a2.trans b2,a3.trans b3,qbyj a4 b4⟩
theorem qbpb {y:AV}:¬ltH y y:=qkx
theorem qbhq {y z:AV}:ltH y z↔cmpH y z<0:=by
 unfold ltH cmpH
 rcases q2s (gS y.cells 0) (gB y.cells 1) (gI y.cells 2) (gI y.cells 3) (gS z.cells 0) (gB z.cells 1) (gI z.cells 2) (gI z.cells 3)with⟨h1,h2⟩|⟨h1,h2,h3,h4,h5⟩|⟨h1,h2⟩
 · exact⟨fun _=>h1,fun _=>h2⟩
 · refine⟨fun h=> ?_,fun h=>by omega⟩
   rw[h2,h3,h4,h5]at h
   exact absurd h qkx
 · refine⟨fun h=> ?_,fun h=>by omega⟩
   exact absurd (q6f (x:=y) (y:=z) (z:=y) h h2) qbpb
def samH (y z:AV):Bool:=gS y.cells 0==gS z.cells 0&&((gB y.cells 1==gB z.cells 1)&&((gI y.cells 2==gI z.cells 2)&&((gI y.cells 3==gI z.cells 3)&&true)))
def atH (n:LU)(v:Bool)(hi lo:Int)(y:AV):Bool:=gS y.cells 0==n&&((gB y.cells 1==v)&&((gI y.cells 2==hi)&&((gI y.cells 3==lo)&&true)))
theorem q21 {n:LU}{v:Bool}{hi lo:Int}{y:AV}:atH n v hi lo y=true↔gS y.cells 0=n/\gB y.cells 1=v/\gI y.cells 2=hi/\gI y.cells 3=lo:=by
 unfold atH;simp[and_assoc]
theorem q23 {n:LU}{v:Bool}{hi lo:Int}{y:AV}:atH n v hi lo y=true↔qei (gS y.cells 0) (gB y.cells 1) (gI y.cells 2) (gI y.cells 3) n v hi lo=0:=by
 rw[q21]
 rcases q2s (gS y.cells 0) (gB y.cells 1) (gI y.cells 2) (gI y.cells 3) n v hi lo with⟨h1,h2⟩|⟨h1,h2,h3,h4,h5⟩|⟨h1,h2⟩
 · refine⟨fun h=> ?_,fun h=>by omega⟩
   rw[h.1,h.2.1,h.2.2.1,h.2.2.2]at h2
   exact absurd h2 qkx
 · exact⟨fun _=>h1,fun _=>⟨h2,h3,h4,h5⟩⟩
 · refine⟨fun h=> ?_,fun h=>by omega⟩
   rw[h.1,h.2.1,h.2.2.1,h.2.2.2]at h2
   exact absurd h2 qkx
theorem qbcb (n:LU)(v:Bool)(hi lo:Int)(m:LU)(w:Bool)(whi wlo:Int):(qei n v hi lo m w whi wlo<0↔qei m w whi wlo n v hi lo>0)/\(qei n v hi lo m w whi wlo=0↔qei m w whi wlo n v hi lo=0):=by
 have tr:∀{n v hi lo m w whi wlo},ltHr n v hi lo m w whi wlo->ltHr m w whi wlo n v hi lo->False:=fun {n v hi lo m w whi wlo} h1 h2=>
  qbpb (q6f (x:=mkH n v hi lo 0) (y:=mkH m w whi wlo 0) (z:=mkH n v hi lo 0) h1 h2)
 rcases q2s n v hi lo m w whi wlo with⟨h1,h2⟩|⟨h1,e1,e2,e3,e4⟩|⟨h1,h2⟩<;>rcases q2s m w whi wlo n v hi lo with⟨k1,k2⟩|⟨k1,k3,k4,k5,k6⟩|⟨k1,k2⟩
 · exact(tr h2 k2).elim
 · subst k3 k4 k5 k6;exact absurd h2 qkx
 · exact⟨by omega,by omega⟩
 · subst e1 e2 e3 e4;exact absurd k2 qkx
 · exact⟨by omega,by omega⟩
 · subst e1 e2 e3 e4;exact absurd k2 qkx
 · exact⟨by omega,by omega⟩
 · subst k3 k4 k5 k6;exact absurd h2 qkx
 · exact(tr h2 k2).elim
section
variable (n:LU)(v:Bool)(hi lo t:Int)(m:LU)(w:Bool)(whi wlo s:Int)(hn:n.length<=9223372036854775807)(hm:m.length<=9223372036854775807)
include hn hm
theorem qb2e:q1c n v hi lo t m w whi wlo s=some (qei n v hi lo m w whi wlo):=by
 rw[qbk9];unfold qri qei
 rw[qbqh,oB_s,qbo9 n m hn hm,oB_s]
 cases(cmpA v hi lo w whi wlo != 0)<;>rfl
theorem qbvm:qsf n v hi lo t m w whi wlo s=some (qei n v hi lo m w whi wlo):=by
 rw[qbmz];unfold qth qei
 rw[qbqh,oB_s,qbo9 n m hn hm,oB_s]
 cases(cmpA v hi lo w whi wlo != 0)<;>rfl
theorem qbvn:qrr n v hi lo t m w whi wlo s=some (decide (qei n v hi lo m w whi wlo<0)):=by
 rw[qbfu];unfold qnv qei
 rw[qbw4,oB_s,qbpa n m hn hm]
 by_cases h:cmpA v hi lo w whi wlo<0
 · have:(cmpA v hi lo w whi wlo != 0)=true:=by simp;omega
   simp[h,this]
 · by_cases h2:cmpA v hi lo w whi wlo=0
   · simp[h2]
   · have:(cmpA v hi lo w whi wlo != 0)=true:=by simpa using h2
     have h3:(cmpA v hi lo w whi wlo==0)=false:=by simpa using h2
     simp[h,h3,this]
end
def q2t (x:LU):Bool:=x.head? ==some 42
def qs4 (x:LU):Bool:= !qbd x||q2t x
theorem qb6g {x:LU}(h:qbd x=true):∃c r,x=c::r:=by
 rcases qoo h with⟨rfl,_⟩|⟨_,h2,_⟩
 · exact⟨_,_,rfl⟩
 · cases x with
   |nil=>simp at h2
   |cons c r=>exact⟨c,r,rfl⟩
theorem qbxe {R:Type}{x:LU}(h:qbd x=true)(k:Bool->Option R):(oB (ixB x (0:Int)) fun c=>k ((c.toNat:Int)==(42:Int)))=k (q2t x):=by
 obtain⟨c,r,rfl⟩:=qb6g h
 simp only[ixB_zero,List.getElem?_cons_zero,oB_s,q2t,List.head?_cons]
 congr 1
 rw[Bool.eq_iff_iff]
 simp only[beq_iff_eq,Option.some.injEq]
 constructor
 · intro h;have:c.toNat=42:=by omega
   exact UInt8.toNat_inj.1 this
 · intro h;rw[h];rfl
theorem qbkk {R:Type}{x:LU}(h:qbd x=true)(k:Bool->Option R):(bif(decide (((avS (ql x)).length:Int)>(0:Int)))then(oB (ixB (avS (ql x)) (0:Int)) fun y2=>(bif fitC [.s] y2.cells then(k ((gS y2.cells 0)==([42]:List UInt8)))else none))else k false)=k (q2t x):=by
 have hs:=qb0d h
 unfold q2t
 cases hl:ql x with
 |nil=>
  rw[hl]at hs
  have:(x.head? ==some 42)=false:=by
   rw[Bool.eq_false_iff]
   intro e
   have:=hs.2 (by simpa using e)
   simp at this
  simp[avS,this]
 |cons a r=>
  rw[hl]at hs
  have e:(a==[42])=(x.head? ==some 42):=by
   rw[Bool.eq_iff_iff]
   simp only[beq_iff_eq]
   rw[<-hs];simp
  have hpos:(((avS (a::r)).length:Int)>0):=by simp[avS]
  rw[decide_eq_true hpos,cond_t]
  simp only[ixB_zero]
  show k (a==[42])=_
  rw[e]
def q9n (n:LU)(v:Bool)(hi lo t:Int):Int:=bif qs4 n then 2 else bif !qe1 v hi lo then 3 else bif(decide (t<0)||decide (t>2147483647))then 1 else 0
theorem qb2f (n:LU)(v:Bool)(hi lo t:Int)(hn:n.length<=9223372036854775807):q1b n v hi lo t=some (q9n n v hi lo t):=by
 rw[qbk7];unfold qrf
 rw[qbc3];unfold ql8
 rw[qs3 n hn,oB_s,qbl6,oB_s]
 unfold q9n qs4
 cases h:qbd n
 · simp
 · simp only[Bool.not_true,cond_f,Bool.false_or]
   rw[qbxe h (fun b=>bif b then some 2 else bif !qe1 v hi lo then some 3 else bif(decide (t<0)||decide (t>2147483647))then some 1 else some 0)]
   cases q2t n<;>simp only[cond_t,cond_f]
   cases qe1 v hi lo<;>simp only[Bool.not_true,Bool.not_false,cond_t,cond_f]
   cases(decide (t<0)||decide (t>2147483647))<;>rfl
theorem qb0h (n:LU)(hn:n.length<=9223372036854775807)(h:qbd n=true):qvo n=some (q2t n):=by
 rw[qbdj];unfold qmk
 rw[qb0c n hn,oB_s]
 exact qbkk h some
theorem qb2g (n:LU)(hn:n.length<=9223372036854775807)(h:qbd n=true):q1f n=some (q2t n):=by
 rw[qblc];unfold qrk
 rw[qbme n hn,oB_s]
 exact qbkk h some
def qux (y:AV):Int:=q9n (gS y.cells 0) (gB y.cells 1) (gI y.cells 2) (gI y.cells 3) (gI y.cells 4)
def qx6 (p:Option AV)(y:AV):Int:=match p with
 |none=>0
 |some z=>bif decide (cmpH y z<0)then 7 else bif(cmpH y z==0)then 12 else 0
def errH (p:Option AV)(y:AV):Int:=bif qux y != 0 then qux y else qx6 p y
def chkH:Option AV->List AV->Int
 |_,[]=>0
 |p,y::r=>bif errH p y != 0 then errH p y else chkH (some y) r
def qi8 (l:LA):Int:=bif decide ((l.length:Int)>256)then 9 else chkH none l
def qks (l:LA)(i:Nat):Option AV:=match i with
 |0=>none
 |i+1=>l[i]?
theorem qb2h (l:LA)(hl:qlz l):q1d l=some (qi8 l):=by
 rw[qbla];unfold qrj qi8
 by_cases hlen:(l.length:Int)>256
 · simp[hlen]
 · simp only[hlen,decide_false,cond_f]
   rw[q93,qbh7 l hl.1 (qhy l l (l.length:Int) fun _=>some 0) (fun i nx=>qhx l l (l.length:Int) i nx fun _=>some 0) (fun _ _=>rfl) (fun i r=>some (chkH (qks l i) r))]
   · rfl
   · intro nx;simp[qhx,chkH]
   · intro i y r nx h1 h2 h3 h4 h5
     have hy:=hl.2 y (List.mem_of_getElem? h2)
     have h6:(i:Int)<(l.length:Int):=by omega
     unfold qhx chkH
     simp only[h6,decide_true,cond_t,ixB_nat,h2,oB_s,hy.1,qb2f _ _ _ _ _ hy.2.2.2,h4,h5]
     rw[show qks l (i+1)=some y from h2]
     unfold errH
     rw[show q9n (gS y.cells 0) (gB y.cells 1) (gI y.cells 2) (gI y.cells 3) (gI y.cells 4)=qux y from rfl]
     cases hf:(qux y != 0)
     · simp only[cond_f]
       cases i with
       |zero=>simp[qks,qx6]
       |succ i=>
        have e0:(((i+1:Nat):Int)==0)=false:=by simp;omega
        have hw:IntKind.i64.wrap (((i+1:Nat):Int)-1)=(i:Int):=by rw[w64 (by omega) (by have:=hl.1;omega)];omega
        obtain⟨x,hx⟩:∃x,l[i]?=some x:=⟨l[i],by simp⟩
        have hxf:=hl.2 x (List.mem_of_getElem? hx)
        simp only[e0,cond_f,hw,ixB_nat,hx,oB_s,hxf.1,cond_t,qb2e _ _ _ _ _ _ _ _ _ _ hy.2.2.2 hxf.2.2.2]
        rw[show qks l (i+1)=some x from hx]
        unfold qx6
        rw[show qei (gS y.cells 0) (gB y.cells 1) (gI y.cells 2) (gI y.cells 3) (gS x.cells 0) (gB x.cells 1) (gI x.cells 2) (gI x.cells 3)=cmpH y x from rfl]
        by_cases c1:cmpH y x<0
        · simp[c1,hf]
        · by_cases c2:cmpH y x=0
          · simp[c2,hf]
          · have c3:(cmpH y x==0)=false:=by simpa using c2
            simp[c1,c3,hf]
     · simp[hf]
theorem qbpc (l:LA)(hl:qlz l):qtm l=some (qi8 l):=by
 rw[qbji];unfold qpi qi8
 by_cases hlen:(l.length:Int)>256
 · simp[hlen]
 · simp only[hlen,decide_false,cond_f]
   rw[q8e,qbh7 l hl.1 (qgs l fun _=>some 0) (fun i nx=>qgr l i nx fun _=>some 0) (fun _ _=>rfl) (fun i r=>some (chkH (qks l i) r))]
   · rfl
   · intro nx;simp[qgr,chkH]
   · intro i y r nx h1 h2 h3 h4 h5
     have hy:=hl.2 y (List.mem_of_getElem? h2)
     have h6:(i:Int)<(l.length:Int):=by omega
     unfold qgr chkH
     simp only[h6,decide_true,cond_t,ixB_nat,h2,oB_s,hy.1,h4,h5]
     rw[show qks l (i+1)=some y from h2]
     have hJ27:∀kn:Bool->Option Int,qsk l (i:Int) (gS y.cells 0) (gB y.cells 1) (gI y.cells 2) (gI y.cells 3) (gI y.cells 4) kn=kn (qs4 (gS y.cells 0)):=fun kn=>by
      rw[q79];unfold qkh qs4
      rw[qbho _ hy.2.2.2,oB_s]
      cases h:qbd (gS y.cells 0)
      · simp
      · rw[qb0h _ hy.2.2.2 h];simp
     rw[hJ27,q56,oB_s]
     have hJ51:∀kn:Bool->Option Int,qsl l (i:Int) (gS y.cells 0) (gB y.cells 1) (gI y.cells 2) (gI y.cells 3) (gI y.cells 4) kn=kn (match qks l i with
      |none=>false
      |some x=>decide (cmpH y x<0)):=fun kn=>by
      rw[q8b];unfold qki
      cases i with
      |zero=>simp[qks]
      |succ i=>
       have hpos:((i+1:Nat):Int)>0:=by omega
       have hw:IntKind.i64.wrap (((i+1:Nat):Int)-1)=(i:Int):=by rw[w64 (by omega) (by have:=hl.1;omega)];omega
       obtain⟨x,hx⟩:∃x,l[i]?=some x:=⟨l[i],by simp⟩
       have hxf:=hl.2 x (List.mem_of_getElem? hx)
       simp only[hpos,decide_true,cond_t,hw,ixB_nat,hx,oB_s,hxf.1,qbvn _ _ _ _ _ _ _ _ _ _ hy.2.2.2 hxf.2.2.2]
       rw[show qks l (i+1)=some x from hx]
       rfl
     have hJ58:∀kn:Bool->Option Int,qsm l (i:Int) (gS y.cells 0) (gB y.cells 1) (gI y.cells 2) (gI y.cells 3) (gI y.cells 4) kn=kn (match qks l i with
      |none=>false
      |some x=>samH y x):=fun kn=>by
      rw[q8d];unfold qkj
      cases i with
      |zero=>simp[qks]
      |succ i=>
       have hpos:((i+1:Nat):Int)>0:=by omega
       have hw:IntKind.i64.wrap (((i+1:Nat):Int)-1)=(i:Int):=by rw[w64 (by omega) (by have:=hl.1;omega)];omega
       obtain⟨x,hx⟩:∃x,l[i]?=some x:=⟨l[i],by simp⟩
       have hxf:=hl.2 x (List.mem_of_getElem? hx)
       simp only[hpos,decide_true,cond_t,hw,ixB_nat,hx,oB_s,hxf.1]
       rw[show qks l (i+1)=some x from hx]
       unfold samH
       simp only
       cases h:(gS y.cells 0==gS x.cells 0)<;>simp only[cond_t,cond_f,Bool.false_and,Bool.true_and]
     rw[hJ51,hJ58]
     unfold errH qux q9n
     cases qs4 (gS y.cells 0)<;>simp only[cond_t,cond_f]
     · cases qe1 (gB y.cells 1) (gI y.cells 2) (gI y.cells 3)<;>simp only[Bool.not_true,Bool.not_false,cond_t,cond_f]
       · rfl
       · cases(decide (gI y.cells 4<0)||decide (gI y.cells 4>2147483647))<;>simp only[cond_t,cond_f]
         · unfold qx6
           cases hp:qks l i with
           |none=>simp
           |some x=>
            simp only
            have hsam:samH y x=(cmpH y x==0):=by
             rw[Bool.eq_iff_iff]
             have:=q23 (n:=gS x.cells 0) (v:=gB x.cells 1) (hi:=gI x.cells 2) (lo:=gI x.cells 3) (y:=y)
             rw[show samH y x=atH (gS x.cells 0) (gB x.cells 1) (gI x.cells 2) (gI x.cells 3) y from rfl,this]
             simp[cmpH]
            rw[hsam]
            by_cases c1:cmpH y x<0
            · simp[c1]
            · by_cases c2:cmpH y x=0
              · simp[c2]
              · have c3:(cmpH y x==0)=false:=by simpa using c2
                simp[c1,c3]
         · rfl
     · rfl
def blkd (l:LA)(v:Bool)(hi lo:Int):Bool:=(qv1 (fun y=>qiq (gB y.cells 0) (gI y.cells 1) (gI y.cells 2) (gI y.cells 3) v hi lo) l).2&&
 ((gI (qv1 (fun y=>qiq (gB y.cells 0) (gI y.cells 1) (gI y.cells 2) (gI y.cells 3) v hi lo) l).1.cells 4==2)||(gI (qv1 (fun y=>qiq (gB y.cells 0) (gI y.cells 1) (gI y.cells 2) (gI y.cells 3) v hi lo) l).1.cells 4==3))
theorem qbvo (x:AV×Bool):(bif x.2 then(bif((gI x.1.cells 4)==(2:Int))then(some true)else(some ((gI x.1.cells 4)==(3:Int))))else(some false))=some (x.2&&((gI x.1.cells 4==2)||(gI x.1.cells 4==3))):=by
 cases x.2
 · rfl
 · simp only[cond_t,Bool.true_and]
   cases(gI x.1.cells 4==2)<;>rfl
theorem qbpd (l:LA)(hl:qv l)(n:LU)(v:Bool)(hi lo t:Int):qq9 l n v hi lo t=some (blkd l v hi lo):=by
 rw[qbev];unfold qnh blkd
 rw[qb1x l hl,oB_s,qbvo]
theorem qbhr (l:LA)(hl:qv l)(v:Bool)(hi lo:Int)(u1:uok hi)(u2:uok lo):qk7 l v hi lo=some (blkd l v hi lo):=by
 rw[qbdo];unfold qmo blkd
 rw[qbz6 l hl v hi lo u1 u2,oB_s,qbvo]
def qb5q (z:AV):Prop:=fitC [.s] z.cells=true/\(gS z.cells 0).length<=9223372036854775807
def q9o (l:LA):Prop:=l.length<=9223372036854775807/\∀z,z∈l->qb5q z
def qn8 (zs:LA)(n:LU):Bool:=zs.any fun z=>quw n (gS z.cells 0)
theorem qbqq (zs:LA)(hz:q9o zs)(n:LU)(hn:n.length<=9223372036854775807):qod zs n=some (qn8 zs n):=by
 rw[qbjl];unfold qpk qn8
 rw[qbam,qf2 zs hz.1 (qh0 zs n fun _=>some false) (fun i nx=>qhz zs n i nx fun _=>some false) (fun _ _=>rfl) (fun r=>some (r.any fun z=>quw n (gS z.cells 0)))]
 · intro nx;simp[qhz]
 · intro i z r nx h1 h2 h3 h4 h5
   have hy:=hz.2 z (List.mem_of_getElem? h2)
   have h6:(i:Int)<(zs.length:Int):=by omega
   unfold qhz
   simp only[h6,decide_true,cond_t,ixB_nat,h2,oB_s,hy.1,h4,h5,qb2c n _ hn hy.2,List.any_cons]
   cases quw n (gS z.cells 0)<;>simp
theorem qbsh (zs:LA)(hz:q9o zs)(n:LU)(hn:n.length<=9223372036854775807):qti zs n=some (qn8 zs n):=by
 rw[qbi5];unfold qo3
 rw[qiz];unfold qbu
 rw[qj4];unfold qby
 rw[qix]
 have key:=qcq (σ:=List UInt8) zs hz.1 (fun k i s=>qbf zs (zs.length:Int) (fun b0_0q1=>(fun v4q1 b0_0q2=>(fun v4q1 b0_0q2=>(some v4q1:Option Bool)) (decide (v4q1>=0)) b0_0q2) (-1:Int) b0_0q1) (fun v4q1 b0_0q2=>(fun v4q1 b0_0q2=>(some v4q1:Option Bool)) (decide (v4q1>=0)) b0_0q2) k i s)
  (fun i s nx=>qbe zs (zs.length:Int) i s nx (fun b0_0q1=>(fun v4q1 b0_0q2=>(fun v4q1 b0_0q2=>(some v4q1:Option Bool)) (decide (v4q1>=0)) b0_0q2) (-1:Int) b0_0q1) (fun v4q1 b0_0q2=>(fun v4q1 b0_0q2=>(some v4q1:Option Bool)) (decide (v4q1>=0)) b0_0q2)) (fun _ _ _=>rfl)
  (fun _ s=>s=n) (fun r _=>some (r.any fun z=>quw n (gS z.cells 0))) ?_ ?_ n FU rfl (qcz (by have:=hz.1;omega))
 · exact key
 · intro s nx hs;simp[qbe]
 · intro i z r s nx h1 h2 h3 h4 hs h5
   subst hs
   have hy:=hz.2 z (List.mem_of_getElem? h2)
   have h6:(i:Int)<(zs.length:Int):=by omega
   unfold qbe
   simp only[h6,decide_true,cond_t,ixB_nat,h2,oB_s,hy.1,h4]
   rw[qbc7];unfold ql9
   rw[qb4j s _ hn hy.2,oB_s]
   show(bif quw s (gS z.cells 0)then some (decide ((i:Int)>=0))else nx ((i+1:Nat):Int) s)=_
   rw[h5 s rfl,List.any_cons]
   have:decide ((i:Int)>=0)=true:=by simp
   cases quw s (gS z.cells 0)<;>simp[this]
def badZ (p:Option AV)(z:AV):Bool:= !qbd (gS z.cells 0)||match p with
 |none=>false
 |some x=>decide (cmpN (gS x.cells 0) (gS z.cells 0)>=0)
def chkZ (k:Int):Option AV->List AV->Int
 |_,[]=>k
 |p,z::r=>bif badZ p z then 2 else chkZ k (some z) r
def chkS (b z:LA):List AV->Int
 |[]=>0
 |h::r=>bif !blkd b (gB h.cells 1) (gI h.cells 2) (gI h.cells 3)then 25 else bif !qn8 z (gS h.cells 0)then 13 else chkS b z r
def q9p (b h z:LA):Int:=bif qs1 b != 0 then qs1 b else bif qi8 h != 0 then qi8 h else bif decide ((z.length:Int)>32)then 9 else chkZ (chkS b z h) none z
section
variable (b h z:LA)(hb:qv b)(hh:qlz h)(hz:q9o z)
include hb hh hz
theorem qb5r:qsp b h z (fun _=>some 0) FU 0=some (chkS b z h):=by
 rw[q8k,qf2 h hh.1 (qgx b h z fun _=>some 0) (fun i nx=>qgw i b h z nx fun _=>some 0) (fun _ _=>rfl) (fun r=>some (chkS b z r))]
 · intro nx;simp[qgw,chkS]
 · intro i y r nx h1 h2 h3 h4 h5
   have hy:=hh.2 y (List.mem_of_getElem? h2)
   have h6:(i:Int)<(h.length:Int):=by omega
   unfold qgw chkS
   simp only[h6,decide_true,cond_t,ixB_nat,h2,oB_s,hy.1,h4,h5,qbhr b hb _ _ _ hy.2.1 hy.2.2.1,qbqq z hz _ hy.2.2.2]
   cases blkd b (gB y.cells 1) (gI y.cells 2) (gI y.cells 3)<;>simp only[Bool.not_true,Bool.not_false,cond_t,cond_f]
   cases qn8 z (gS y.cells 0)<;>rfl
theorem qb0i:qy3 b h z=some (q9p b h z):=by
 rw[qbjm];unfold qpl q9p
 rw[qbz2 b hb,oB_s,qbpc h hh,oB_s]
 cases(qs1 b != 0)
 case true=>rfl
 cases(qi8 h != 0)
 case true=>rfl
 simp only[cond_f]
 by_cases hlen:(z.length:Int)>32
 · simp[hlen]
 · simp only[hlen,decide_false,cond_f]
   rw[qb5r b h z hb hh hz]
   rw[q8j,qbh7 z hz.1 (qgv b h z fun _=>some (chkS b z h)) (fun i nx=>qgu i b h z nx fun _=>some (chkS b z h)) (fun _ _=>rfl) (fun i r=>some (chkZ (chkS b z h) (qks z i) r))]
   · rfl
   · intro nx;simp[qgu,chkZ]
   · intro i y r nx h1 h2 h3 h4 h5
     have hy:=hz.2 y (List.mem_of_getElem? h2)
     have h6:(i:Int)<(z.length:Int):=by omega
     unfold qgu chkZ
     simp only[h6,decide_true,cond_t,h4,h5]
     rw[show qks z (i+1)=some y from h2]
     have hJ:∀kn:Bool->Option Int,qso (i:Int) b h z kn=kn (badZ (qks z i) y):=fun kn=>by
      rw[q8i];unfold qkk badZ
      simp only[ixB_nat,h2,oB_s,hy.1,cond_t]
      rw[qbho _ hy.2,oB_s]
      cases qbd (gS y.cells 0)
      · rfl
      · simp only[Bool.not_true,cond_f,Bool.false_or]
        cases i with
        |zero=>simp[qks]
        |succ i=>
         have hpos:((i+1:Nat):Int)>0:=by omega
         have hw:IntKind.i64.wrap (((i+1:Nat):Int)-1)=(i:Int):=by rw[w64 (by omega) (by have:=hz.1;omega)];omega
         obtain⟨x,hx⟩:∃x,z[i]?=some x:=⟨z[i],by simp⟩
         have hxf:=hz.2 x (List.mem_of_getElem? hx)
         simp only[hpos,decide_true,cond_t,hw,ixB_nat,hx,oB_s,hxf.1,h2,hy.1,qbpa _ _ hxf.2 hy.2]
         rw[show qks z (i+1)=some x from hx]
     rw[hJ]
     cases badZ (qks z i) y<;>rfl
end
def Cutt (l:LA)(n:LU)(v:Bool)(hi lo:Int)(r:Nat):Prop:=r<=l.length/\∀(k:Nat) (y:AV),l[k]?=some y->(qei (gS y.cells 0) (gB y.cells 1) (gI y.cells 2) (gI y.cells 3) n v hi lo<0↔k<r)
theorem qbxf (y:AV)(n:LU)(v:Bool)(hi lo t:Int):cmpH y (mkH n v hi lo t)=qei (gS y.cells 0) (gB y.cells 1) (gI y.cells 2) (gI y.cells 3) n v hi lo:=rfl
theorem qbxg (y:AV)(n:LU)(v:Bool)(hi lo t:Int):cmpH (mkH n v hi lo t) y=qei n v hi lo (gS y.cells 0) (gB y.cells 1) (gI y.cells 2) (gI y.cells 3):=rfl
theorem qbpe (n:LU)(v:Bool)(hi lo:Int):∀{l:LA},l.Pairwise ltH->∃r,Cutt l n v hi lo r
 |[],_=>⟨0,Nat.le_refl _,fun k y h=>by simp at h⟩
 |y::l,hp=>by
  rw[List.pairwise_cons]at hp
  obtain⟨r,h1,h2⟩:=qbpe n v hi lo hp.2
  by_cases hc:qei (gS y.cells 0) (gB y.cells 1) (gI y.cells 2) (gI y.cells 3) n v hi lo<0
  · refine⟨r+1,by simp;omega,fun k z hz=> ?_⟩
    cases k with
    |zero=>simp at hz;subst hz;exact⟨fun _=>by omega,fun _=>hc⟩
    |succ k=>rw[h2 k z (by simpa using hz)];omega
  · refine⟨0,Nat.zero_le _,fun k z hz=> ?_⟩
    refine⟨fun h=> ?_,fun h=>by omega⟩
    exfalso
    cases k with
    |zero=>simp at hz;subst hz;exact hc h
    |succ k=>
     have hyz:=hp.1 z (List.mem_of_getElem? (by simpa using hz))
     rw[<-qbxf z n v hi lo 0]at h
     rw[<-qbxf y n v hi lo 0]at hc
     exact hc (qbhq.1 (q6f hyz (qbhq.2 h)))
theorem qb5s {i j:Nat}(h:i+j<=9223372036854775807):IntKind.i64.wrap ((IntKind.u64.wrap (IntKind.i64.wrap ((i:Int)+(j:Int)))).fdiv (2^min (1:Int).toNat IntKind.u64.bits))=(((i+j) / 2:Nat):Int):=by
 rw[w64 (i:=(i:Int)+(j:Int)) (by omega) (by omega),wu64 (by omega) (by omega)]
 have e:(2:Int)^min (1:Int).toNat IntKind.u64.bits=2:=by decide
 rw[e,Int.fdiv_eq_ediv_of_nonneg _ (by omega),w64 (by omega) (by omega)]
 omega
theorem qbmf (l:LA)(hl:qlz l)(hn:l.length<=1000000)(n:LU)(v:Bool)(hi lo t:Int)(hnm:n.length<=9223372036854775807){r:Nat}(hr:Cutt l n v hi lo r)(kx:Int->Option (Int×Bool)):
 ∀(m i j:Nat),i<=r->r<=j->j<=l.length->j-i<m->qm l (l.length:Int) n v hi lo t kx m (i:Int) (j:Int)=kx (r:Int)
 |0,i,j,_,_,_,h=>by omega
 |m+1,i,j,h1,h2,h3,h4=>by
  unfold qm qbq
  by_cases hij:i<j
  · have e1:(i:Int)<(j:Int):=by omega
    rw[decide_eq_true e1,cond_t]
    have e2:=qb5s (i:=i) (j:=j) (by omega)
    rw[e2,ixB_nat]
    have hk:(i+j) / 2<l.length:=by omega
    obtain⟨y,hy⟩:∃y,l[(i+j) / 2]?=some y:=⟨l[(i+j) / 2],by simp[hk]⟩
    have hyf:=hl.2 y (List.mem_of_getElem? hy)
    rw[hy,oB_s,hyf.1,cond_t,qbvm _ _ _ _ _ _ _ _ _ _ hyf.2.2.2 hnm,oB_s]
    have hc:=hr.2 _ y hy
    by_cases hlt:qei (gS y.cells 0) (gB y.cells 1) (gI y.cells 2) (gI y.cells 3) n v hi lo<0
    · rw[decide_eq_true hlt,cond_t,w64 (by omega) (by omega)]
      have:=hc.1 hlt
      have ih:=qbmf l hl hn n v hi lo t hnm hr kx m ((i+j) / 2+1) j (by omega) h2 h3 (by omega)
      rw[show(((i+j) / 2:Nat):Int)+1=(((i+j) / 2+1:Nat):Int) by omega]
      exact ih
    · rw[decide_eq_false hlt,cond_f]
      have:¬(i+j) / 2<r:=fun h=>hlt (hc.2 h)
      exact qbmf l hl hn n v hi lo t hnm hr kx m i ((i+j) / 2) h1 (by omega) (by omega) (by omega)
  · have e1:¬(i:Int)<(j:Int):=by omega
    rw[decide_eq_false e1,cond_f,show i=r by omega]
theorem qbvp (l:LA)(hl:qlz l)(hn:l.length<=1000000)(hp:l.Pairwise ltH)(n:LU)(v:Bool)(hi lo t:Int)(hnm:n.length<=9223372036854775807){r:Nat}(hr:Cutt l n v hi lo r):qug l n v hi lo t=some ((r:Int),l.any (atH n v hi lo)):=by
 rw[qbps];unfold qu9
 rw[qe5];unfold qbc
 rw[qeu]
 have:=qbmf l hl hn n v hi lo t hnm hr (fun v9q1=>(bif(decide (v9q1<(l.length:Int)))then(oB (ixB l v9q1) fun y2=>(bif fitC qj y2.cells then(oB (qsf (gS y2.cells 0) (gB y2.cells 1) (gI y2.cells 2) (gI y2.cells 3) (gI y2.cells 4) n v hi lo t) fun r3=>(some (v9q1,(r3==(0:Int)))))else none))else(some (v9q1,false)))) FU 0 l.length (Nat.zero_le _) hr.1 (Nat.le_refl _) (qcz (by omega))
 rw[Int.natCast_zero]at this
 rw[this]
 have hany:l.any (atH n v hi lo)=match l[r]? with
  |some y=>atH n v hi lo y
  |none=>false:=by
  cases hy:l[r]? with
  |none=>
   simp only
   rw[Bool.eq_false_iff]
   intro h
   obtain⟨y,hym,hat⟩:=List.any_eq_true.1 h
   obtain⟨k,hk,rfl⟩:=List.mem_iff_getElem.1 hym
   have h0:=q23.1 hat
   have:=(hr.2 k l[k] (by simp[hk])).2 (by have:=List.getElem?_eq_none_iff.1 hy;omega)
   omega
  |some y=>
   simp only
   have hrl:=(List.getElem?_eq_some_iff.1 hy).1
   rw[Bool.eq_iff_iff,List.any_eq_true]
   refine⟨?_,fun h=>⟨y,List.mem_of_getElem? hy,h⟩⟩
   rintro⟨z,hzm,hat⟩
   obtain⟨k,hk,rfl⟩:=List.mem_iff_getElem.1 hzm
   have h0:=q23.1 hat
   have hkr:¬k<r:=fun h=>by have:=(hr.2 k l[k] (by simp[hk])).2 h;omega
   rcases Nat.lt_or_ge r k with h|h
   · exfalso
     have hlt:=List.pairwise_iff_getElem.1 hp r k hrl hk h
     have hnl:¬qei (gS y.cells 0) (gB y.cells 1) (gI y.cells 2) (gI y.cells 3) n v hi lo<0:=fun h=>by have:=(hr.2 r y hy).1 h;omega
     apply hnl
     have ey:l[r]=y:=by have:=List.getElem?_eq_some_iff.1 hy;exact this.2
     rw[ey]at hlt
     obtain⟨e1,e2,e3,e4⟩:=q21.1 hat
     have:=qbhq.1 hlt
     unfold cmpH at this
     rw[e1,e2,e3,e4]at this
     exact this
   · have:k=r:=by omega
     subst this
     have ey:l[k]=y:=by have:=List.getElem?_eq_some_iff.1 hy;exact this.2
     rw[ey]at hat;exact hat
 rw[hany]
 by_cases hrl:r<l.length
 · have e1:(r:Int)<(l.length:Int):=by omega
   obtain⟨y,hy⟩:∃y,l[r]?=some y:=⟨l[r],by simp[hrl]⟩
   have hyf:=hl.2 y (List.mem_of_getElem? hy)
   simp only[e1,decide_true,cond_t,ixB_nat,hy,oB_s,hyf.1,qbvm _ _ _ _ _ _ _ _ _ _ hyf.2.2.2 hnm]
   have:(qei (gS y.cells 0) (gB y.cells 1) (gI y.cells 2) (gI y.cells 3) n v hi lo==0)=atH n v hi lo y:=by
    rw[Bool.eq_iff_iff,q23];simp
   rw[this]
 · have e1:¬(r:Int)<(l.length:Int):=by omega
   have hy:l[r]?=none:=List.getElem?_eq_none_iff.2 (by omega)
   simp[e1,hy]
def insH (x:AV):List AV->List AV
 |[]=>[x]
 |y::r=>bif decide (cmpH x y<0)then x::y::r else y::insH x r
theorem qbsi (x y:AV)(r:LA):insH x (y::r)=bif decide (cmpH x y<0)then x::y::r else y::insH x r:=rfl
theorem qbqr (n:LU)(v:Bool)(hi lo t:Int):∀{l:LA} {r:Nat},Cutt l n v hi lo r->l.any (atH n v hi lo)=false->l.take r++[mkH n v hi lo t]++l.drop r=insH (mkH n v hi lo t) l
 |[],r,_,_=>by simp[insH]
 |y::l,r,hr,ha=>by
  simp only[List.any_cons,Bool.or_eq_false_iff]at ha
  have h0:=hr.2 0 y rfl
  have hs:=(qbcb (gS y.cells 0) (gB y.cells 1) (gI y.cells 2) (gI y.cells 3) n v hi lo)
  have hne:¬qei (gS y.cells 0) (gB y.cells 1) (gI y.cells 2) (gI y.cells 3) n v hi lo=0:=fun h=>by rw[q23.2 h]at ha;simp at ha
  rw[qbsi]
  rw[qbxg]
  cases r with
  |zero=>
   have h1:¬qei (gS y.cells 0) (gB y.cells 1) (gI y.cells 2) (gI y.cells 3) n v hi lo<0:=fun h=>by have:=h0.1 h;omega
   have h2:=qbcb n v hi lo (gS y.cells 0) (gB y.cells 1) (gI y.cells 2) (gI y.cells 3)
   have:qei n v hi lo (gS y.cells 0) (gB y.cells 1) (gI y.cells 2) (gI y.cells 3)<0:=h2.1.2 (by omega)
   simp[this]
  |succ r=>
   have h1:=h0.2 (by omega)
   have:¬qei n v hi lo (gS y.cells 0) (gB y.cells 1) (gI y.cells 2) (gI y.cells 3)<0:=by have:=hs.1.1 h1;omega
   have ih:=qbqr n v hi lo t (l:=l) (r:=r) ⟨by have:=hr.1;simp at this;omega,fun k z hz=>by
    have:=hr.2 (k+1) z (by simpa using hz)
    rw[this];omega⟩ ha.2
   simp only[this,decide_false,cond_f,List.take_succ_cons,List.drop_succ_cons,List.cons_append]
   rw[<-ih]
theorem qb0j (l:LA)(hn:l.length<=100000){r:Nat}(hr:r<=l.length)(x:AV):qoi 48 l (r:Int) [x]=some (l.take r++[x]++l.drop r):=by
 unfold qoi
 have:decide (0<=(r:Int)/\(r:Int)<=(l.length:Int)/\0<([x]:List AV).length/\(l.length+([x]:List AV).length)*48<=140737488355328)=true:=by
  simp;omega
 rw[this];simp
theorem qb5t (l:LA)(hn:l.length<=100000){r:Nat}(hr:r<l.length):qwn l (r:Int) ((r+1:Nat):Int)=some (l.take r++l.drop (r+1)):=by
 unfold qwn
 have:decide (0<=(r:Int)/\(r:Int)<((r+1:Nat):Int)/\((r+1:Nat):Int)<=(l.length:Int)/\l.length<=9223372036854775807)=true:=by
  simp;omega
 rw[this];simp
theorem qbqs (l:LA)(hl:qlz l)(n:LU)(v:Bool)(hi lo:Int):qk2 l n v hi lo=some (idxI (atH n v hi lo) l):=by
 rw[qbjt];unfold qpo idxI
 rw[qbaz,qbh7 l hl.1 (qh4 l n v hi lo fun _=>some (-1)) (fun i nx=>qh3 l n i v hi lo nx fun _=>some (-1)) (fun _ _=>rfl) (fun i r=>some (match idxO (atH n v hi lo) r with
  |some k=>((i+k:Nat):Int)
  |none=> -1))]
 · cases idxO (atH n v hi lo) l<;>simp
 · intro nx;simp[qh3,idxO]
 · intro i y r nx h1 h2 h3 h4 h5
   have hy:=hl.2 y (List.mem_of_getElem? h2)
   have h6:(i:Int)<(l.length:Int):=by omega
   unfold qh3 idxO
   simp only[h6,decide_true,cond_t,ixB_nat,h2,oB_s,hy.1,h4,h5]
   unfold atH
   cases(gS y.cells 0==n)
   · simp only[cond_f,Bool.false_and,Bool.false_eq_true,if_false]
     cases idxO _ r with
     |none=>rfl
     |some k=>simp;omega
   · simp only[cond_t,Bool.true_and]
     cases hq:((gB y.cells 1==v)&&((gI y.cells 2==hi)&&((gI y.cells 3==lo)&&true)))
     · simp only[cond_f,Bool.false_eq_true,if_false]
       cases idxO _ r with
       |none=>rfl
       |some k=>simp;omega
     · simp
theorem qbh8 {R:Type}{a:LA}(x:AV)(h:(a.length+1)*48<=140737488355328)(k:Option R):(bif decide ((a.length+([x]:List AV).length)*48<=140737488355328)then k else none)=k:=by
 have:decide ((a.length+([x]:List AV).length)*48<=140737488355328)=true:=by simpa using h
 rw[this];rfl
theorem qbvq (l:LA)(hl:qlz l)(hn:l.length<=100000)(k:Nat):qvx l (k:Int)=some (l.take k++l.drop (k+1)):=by
 rw[qbeb];unfold qmz
 simp only[qqe,List.length_nil,Bool.and_self,cond_t]
 rw[q65]
 have key:=qcq (σ:=List AV) l hl.1 (fun n i s=>qf1 l (k:Int) (fun a0q1=>bif hd a0q1 a0q1.length then some a0q1 else none) n i s) (fun i s nx=>qf0 l (k:Int) i s nx (fun a0q1=>bif hd a0q1 a0q1.length then some a0q1 else none)) (fun _ _ _=>rfl)
  (fun i s=>s.length<=i) (fun r s=>some (s++(bif decide (l.length-r.length<=k)then r.take (k-(l.length-r.length))++r.drop (k-(l.length-r.length)+1)else r))) ?_ ?_ [] FU (by simp) (qcz (by have:=hl.1;omega))
 · simpa using key
 · intro a nx hJ;simp[qf0]
 · intro i y r a nx h1 h2 h3 h4 hJ h5
   have hy:=hl.2 y (List.mem_of_getElem? h2)
   have h6:(i:Int)<(l.length:Int):=by omega
   have hyy:=qbca hy.1
   unfold mkH at hyy
   obtain⟨e1,e2⟩:=qbu8 h1
   unfold qf0
   simp only[h6,decide_true,cond_t,hd_self,ixB_nat,h2,oB_s,hy.1,h4,hyy]
   rw[qbh8 y (by omega),e1]
   have f1:=h5 (a++[y]) (by simp;omega)
   have f2:=h5 a (by omega)
   rw[e2]at f1 f2
   by_cases hik:i=k
   · subst hik
     have:((i:Int) != (i:Int))=false:=by simp
     rw[this,cond_f,f2]
     have g1:¬i+1<=i:=by omega
     simp[g1]
   · have:((i:Int) != (k:Int))=true:=by simp;omega
     rw[this,cond_t,f1]
     by_cases hlt:i<k
     · have g1:i+1<=k:=by omega
       have g2:i<=k:=by omega
       have g3:k-i=(k-(i+1))+1:=by omega
       simp only[g1,g2,decide_true,cond_t,g3,List.take_succ_cons,List.drop_succ_cons,List.append_assoc,List.singleton_append,List.cons_append,List.nil_append]
     · have g1:¬i+1<=k:=by omega
       have g2:¬i<=k:=by omega
       simp[g1,g2]
theorem qbkl (l:LA)(hl:qlz l)(hn:l.length<=100000)(n:LU)(v:Bool)(hi lo t:Int)(hnm:n.length<=9223372036854775807):qry l n v hi lo t=some (insH (mkH n v hi lo t) l):=by
 rw[qbgb];unfold qn2
 simp only[qqe,List.length_nil,Bool.and_self,cond_t]
 rw[q64]
 have fin:∀(kx:Bool->List AV->Option (List AV)),(∀d a,a.length<=200000->kx d a=some (bif d then a else a++[mkH n v hi lo t]))->
  qej l n v hi lo t kx FU false 0 []=some (insH (mkH n v hi lo t) l):=by
  intro kx hkx
  have key:=qcq (σ:=Bool×List AV) l hl.1 (fun m i s=>qej l n v hi lo t kx m s.1 i s.2) (fun i s nx=>qfz l s.1 i n v hi lo t s.2 (fun d i a=>nx i (d,a)) kx) (fun _ _ _=>rfl)
   (fun i s=>s.2.length<=2*i) (fun r s=>some (s.2++(bif s.1 then r else insH (mkH n v hi lo t) r))) ?_ ?_ (false,[]) FU (by simp) (qcz (by have:=hl.1;omega))
  · simpa using key
  · rintro⟨d,a⟩ nx hJ
    simp only at hJ⊢
    unfold qfz
    simp only[Int.lt_irrefl,decide_false,cond_f]
    rw[hkx d a (by omega)]
    cases d<;>simp[insH]
  · rintro i y r ⟨d,a⟩ nx h1 h2 h3 h4 hJ h5
    have hy:=hl.2 y (List.mem_of_getElem? h2)
    simp only at hJ⊢
    have h6:(i:Int)<(l.length:Int):=by omega
    have hyy:=qbca hy.1
    unfold mkH at hyy
    have e1:=h5 (true,a++[mkH n v hi lo t]++[y]) (by simp;omega)
    have e2:=h5 (d,a++[y]) (by simp;omega)
    simp only at e1 e2
    unfold qfz
    rw[decide_eq_true h6]
    simp only[cond_t,hd_self,Bool.and_self]
    rw[q63];unfold qjp
    simp only[hd_self,Bool.and_self,cond_t]
    rw[q61];unfold qjo
    simp only[ixB_nat,h2,oB_s,hy.1,cond_t,qbvn _ _ _ _ _ _ _ _ _ _ hnm hy.2.2.2,h4,hyy]
    rw[qbsi]
    rw[<-qbxg y n v hi lo t]
    rw[show(AV.agg [(.str n),(.bool v),(.int .u64 hi),(.int .u64 lo),(.int .i64 t)])=mkH n v hi lo t from rfl]
    have st:(bif hd ([y]:List AV) ([y]:List AV).length then(bif decide ((a.length+([y]:List AV).length)*48<=140737488355328)then nx ((i+1:Nat):Int) (d,a++[y])else none)else none)=nx ((i+1:Nat):Int) (d,a++[y]):=by
     rw[hd_self,cond_t,qbh8 y (by omega)]
    cases d with
    |true=>
     simp only[Bool.not_true,cond_f,st,e2]
     simp[show(a.length+1)*48<=140737488355328 by omega]
    |false=>
     simp only[Bool.not_false,cond_t]
     cases hc:decide (cmpH (mkH n v hi lo t) y<0)with
     |false=>
      simp only[cond_f,st,e2]
      simp[show(a.length+1)*48<=140737488355328 by omega]
     |true=>
      simp only[cond_t]
      rw[qbh8 (mkH n v hi lo t) (by omega),qbh8 y (a:=a++[mkH n v hi lo t]) (by simp;omega),e1]
      simp
 refine fin _ fun d a ha=> ?_
 have g1:(a.length+1)*48<=140737488355328:=by omega
 cases d
 · simp only[Bool.not_false,cond_t,hd_self,cond_f]
   rw[show(AV.agg [(.str n),(.bool v),(.int .u64 hi),(.int .u64 lo),(.int .i64 t)])=mkH n v hi lo t from rfl]
   simp[g1]
 · simp[g1]
theorem qb23 {b z:LA}:∀{h:LA},chkS b z h=0↔∀y,y∈h->blkd b (gB y.cells 1) (gI y.cells 2) (gI y.cells 3)=true/\qn8 z (gS y.cells 0)=true
 |[]=>by simp[chkS]
 |x::r=>by
  unfold chkS
  cases h1:blkd b (gB x.cells 1) (gI x.cells 2) (gI x.cells 3)with
  |false=>simp[h1]
  |true=>
  cases h2:qn8 z (gS x.cells 0)with
  |false=>simp[h2]
  |true=>
   simp only[Bool.not_true,cond_f,List.mem_cons]
   rw[qb23]
   constructor
   · rintro h y (rfl|hy)
     · exact⟨h1,h2⟩
     · exact h y hy
   · intro h y hy;exact h y (.inr hy)
theorem qb24 (k:Int):∀{p:Option AV} {z:LA},chkZ k p z=0↔chkZ 0 p z=0/\k=0
 |p,[]=>by simp[chkZ]
 |p,x::r=>by
  unfold chkZ
  cases badZ p x with
  |true=>simp
  |false=>simp only[cond_f];exact qb24 k
theorem qb25 {y z:AV}:cmpH y z>0↔ltH z y:=by rw[qbhq];exact(qbcb _ _ _ _ _ _ _ _).1.symm
theorem qbyl:∀{p:Option AV} {l:LA},chkH p l=0↔(∀y,y∈l->qux y=0)/\l.Pairwise ltH/\∀x,p=some x->∀y,y∈l->ltH x y
 |p,[]=>by simp[chkH]
 |p,y::r=>by
  unfold chkH errH
  by_cases hf:qux y=0
  · have e1:(qux y != 0)=false:=by simp[hf]
    simp only[e1,cond_f]
    by_cases ho:qx6 p y=0
    · have e2:(qx6 p y != 0)=false:=by simp[ho]
      simp only[e2,cond_f]
      rw[qbyl (p:=some y)]
      have hp:∀x,p=some x->ltH x y:=by
       rintro x rfl
       unfold qx6 at ho
       simp only at ho
       refine qb25.1 ?_
       by_cases c1:cmpH y x<0
       · simp[c1]at ho
       · by_cases c2:cmpH y x=0
         · simp[c2]at ho
         · omega
      constructor
      · rintro⟨a1,a2,a3⟩
        refine⟨fun z hz=> ?_,List.pairwise_cons.2 ⟨fun z hz=>a3 y rfl z hz,a2⟩,fun x hx z hz=> ?_⟩
        · rcases List.mem_cons.1 hz with rfl|hz
          · exact hf
          · exact a1 z hz
        · rcases List.mem_cons.1 hz with rfl|hz
          · exact hp x hx
          · exact q6f (hp x hx) (a3 y rfl z hz)
      · rintro⟨a1,a2,a3⟩
        rw[List.pairwise_cons]at a2
        exact⟨fun z hz=>a1 z (List.mem_cons_of_mem _ hz),a2.2,fun x hx z hz=>by cases hx;exact a2.1 z hz⟩
    · have e2:(qx6 p y != 0)=true:=by simp[ho]
      simp only[e2,cond_t]
      constructor
      · intro h;exact absurd h ho
      · rintro⟨_,_,a3⟩
        exfalso;apply ho
        unfold qx6
        cases p with
        |none=>rfl
        |some x=>
         have:=qb25.2 (a3 x rfl y (by simp))
         have c1:¬cmpH y x<0:=by omega
         have c2:(cmpH y x==0)=false:=by rw[beq_eq_false_iff_ne];omega
         simp[c1,c2]
  · have e1:(qux y != 0)=true:=by simp[hf]
    simp only[e1,cond_t]
    constructor
    · intro h;exact absurd h hf
    · rintro⟨a1,_⟩;exact absurd (a1 y (by simp)) hf
structure Sp where
 b:List AV
 h:List AV
 z:List AV
def Sp.av (s:Sp):AV:=.agg [(.sl 8 s.b),(.sl 5 s.h),(.sl 1 s.z)]
def Sp.fr (s:Sp):AV:=.agg [(.fr true 8 s.b),(.fr true 5 s.h),(.fr true 1 s.z)]
def sp0:Sp:=⟨[],[],[]⟩
structure Fits (s:Sp):Prop where
 b:qv s.b
 h:qlz s.h
 z:q9o s.z
structure Plan (s:Sp):Prop where
 f:Fits s
 nb:s.b.length<=512
 tb:qdx s.b
 nh:s.h.length<=256
 fh:∀y,y∈s.h->qux y=0
 ph:s.h.Pairwise ltH
 nz:s.z.length<=32
 cz:chkZ 0 none s.z=0
 bl:∀y,y∈s.h->blkd s.b (gB y.cells 1) (gI y.cells 2) (gI y.cells 3)=true
 zo:∀y,y∈s.h->qn8 s.z (gS y.cells 0)=true
theorem qb2i {s:Sp}(f:Fits s):q9p s.b s.h s.z=0↔Plan s:=by
 unfold q9p
 by_cases hb:qs1 s.b=0
 · have e1:(qs1 s.b != 0)=false:=by simp[hb]
   have hb':s.b.length<=512:=by
    unfold qs1 at hb
    by_cases h:(s.b.length:Int)>512
    · simp[h]at hb
    · omega
   simp only[e1,cond_f]
   by_cases hh:qi8 s.h=0
   · have e2:(qi8 s.h != 0)=false:=by simp[hh]
     have hh':s.h.length<=256/\chkH none s.h=0:=by
      unfold qi8 at hh
      by_cases h:(s.h.length:Int)>256
      · simp[h]at hh
      · simp only[h,decide_false,cond_f]at hh
        exact⟨by omega,hh⟩
     simp only[e2,cond_f]
     obtain⟨a1,a2,_⟩:=qbyl.1 hh'.2
     by_cases hz:(s.z.length:Int)>32
     · simp only[hz,decide_true,cond_t]
       constructor
       · intro h;cases h
       · intro h;have:=h.nz;omega
     · simp only[hz,decide_false,cond_f]
       rw[qb24,qb23]
       constructor
       · rintro⟨h1,h2⟩
         exact⟨f,hb',(qbr2 hb').1 hb,hh'.1,a1,a2,by omega,h1,fun y hy=>(h2 y hy).1,fun y hy=>(h2 y hy).2⟩
       · intro h;exact⟨h.cz,fun y hy=>⟨h.bl y hy,h.zo y hy⟩⟩
   · have e2:(qi8 s.h != 0)=true:=by simp[hh]
     simp only[e2,cond_t]
     constructor
     · intro h;exact absurd h hh
     · intro h;exfalso;apply hh
       unfold qi8
       have:¬(s.h.length:Int)>256:=by have:=h.nh;omega
       simp only[this,decide_false,cond_f]
       exact qbyl.2 ⟨h.fh,h.ph,fun x hx=>by cases hx⟩
 · have e1:(qs1 s.b != 0)=true:=by simp[hb]
   simp only[e1,cond_t]
   constructor
   · intro h;exact absurd h hb
   · intro h;exact absurd ((qbr2 h.nb).2 h.tb) hb
end Go.Proofs.YtoaaphlopbabeaaGreatDoor.Dn
