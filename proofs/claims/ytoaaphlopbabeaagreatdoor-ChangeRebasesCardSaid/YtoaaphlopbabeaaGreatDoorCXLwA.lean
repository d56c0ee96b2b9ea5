import Derived.Test.YtoaaphlopbabeaaGreatDoorCXDn51
import Derived.Test.YtoaaphlopbabeaaGreatDoorCXLibD
set_option linter.all false
namespace Go.Proofs.YtoaaphlopbabeaaGreatDoor.Dn
open Go Go.Pev
set_option maxRecDepth 4000
def qev (v6:Bool)(hi lo:Int):Bool:=v6||(hi==0&&decide (lo<4294967296))
def qi (v6:Bool):Int:=if v6 then 128 else 32
theorem q66 (v6:Bool)(hi lo:Int):qla v6 hi lo=some (qev v6 hi lo):=by
 rw[qbko];unfold qpk qev
 cases v6<;>cases(hi==0)<;>simp
theorem qbio (v6:Bool):qhn v6=some (qi v6):=by
 rw[qbmw];unfold qr3 qi
 cases v6<;>rfl
def qb3g (p:Int×Int):Int×Int:=(IntKind.u64.wrap (IntKind.u64.wrap (p.1*2)+IntKind.u64.wrap (p.2.tdiv 9223372036854775808)),IntKind.u64.wrap (IntKind.u64.wrap (p.2*2)+1))
def qdj:Nat->Int×Int
 |0=>(0,0)
 |n+1=>qb3g (qdj n)
theorem qbwo (n:Int):qqp n=some (qdj (min n 128).toNat):=by
 rw[qbmx];unfold qr4
 rw[qbeo]
 have key:=qbja (fun k (s:Int×Int×Int)=>qi5 n (fun v4 v5=>some (v4,v5)) k s.1 s.2.1 s.2.2) (fun s nx=>qmp n s.1 s.2.1 s.2.2 (fun a b c=>nx (a,b,c)) (fun v4 v5=>some (v4,v5))) (fun _ _=>rfl)
  (fun s=>∃i:Nat,s=((qdj i).1,(qdj i).2,(i:Int))/\i<=128/\(i=0\/(i:Int)<=n)) (fun s=>(128-s.2.2).toNat) (fun _=>some (qdj (min n 128).toNat)) ?_ FU ((0,0,0)) ⟨0,rfl,by simp,.inl rfl⟩ (qcp (by simp))
 · exact key
 · rintro _ ⟨i,rfl,hi,hin⟩ nx hn
   simp only
   have hw:IntKind.i64.wrap ((i:Int)+1)=((i+1:Nat):Int):=w64 (by omega) (by omega)
   unfold qmp
   by_cases hc:(i:Int)<n/\(i:Int)<128
   · simp only[hc.1,hc.2,decide_true,Bool.and_true,cond_t,hw]
     exact hn (_,_,_) ⟨i+1,rfl,by omega,.inr (by omega)⟩ (by simp;omega)
   · have e:(decide ((i:Int)<n)&&decide ((i:Int)<128))=false:=by
      by_cases h1:(i:Int)<n
      · have:¬(i:Int)<128:=fun h=>hc ⟨h1,h⟩
        simp[this]
      · simp[h1]
     simp only[e,cond_f]
     have:(min n 128).toNat=i:=by
      by_cases h1:(i:Int)<n
      · have:¬(i:Int)<128:=fun h=>hc ⟨h1,h⟩
        omega
      · omega
     rw[this]
def qcx (v6:Bool)(hi lo bits:Int):Bool:=
 qev v6 hi lo&&decide (0<=bits)&&decide (bits<=qi v6)&&(qbg .and .u64 hi (qdj (qi v6-bits).toNat).1==0)&&(qbg .and .u64 lo (qdj (qi v6-bits).toNat).2==0)
theorem qxe (v6:Bool)(hi lo bits:Int):qfu v6 hi lo bits=some (qcx v6 hi lo bits):=by
 rw[qbkp];unfold qpm
 simp only[qbbd,qlt,q66,qbio,qbwo,oB_s]
 unfold qcx
 cases h1:qev v6 hi lo
 · simp
 · by_cases h2:bits<0
   · have:¬0<=bits:=by omega
     simp[h2,this]
   · have h2':0<=bits:=by omega
     by_cases h3:qi v6<bits
     · have:¬bits<=qi v6:=by omega
       simp[h2,h3,this]
     · have h3':bits<=qi v6:=by omega
       have hl:qi v6<=128:=by unfold qi;split<;>omega
       have hw:IntKind.i64.wrap (qi v6-bits)=qi v6-bits:=w64 (by omega) (by omega)
       have hm:(min (qi v6-bits) 128).toNat=(qi v6-bits).toNat:=by congr 1;omega
       simp[h2,h3,h2',h3',hw,hm]
def uok (x:Int):Prop:=0<=x/\x<=18446744073709551615
theorem qbc6 (n:Nat)(h:n<18446744073709551616):IntKind.u64.wrap (n:Int)=n:=wu64 (by omega) (by omega)
theorem qyt {x:Int}(h:uok x):((BitVec.ofInt 64 x).toNat:Int)=x:=by
 obtain⟨h1,h2⟩:=h
 rw[BitVec.toNat_ofInt]
 omega
theorem qban (x y:Int):qbg .and .u64 x y=((BitVec.ofInt 64 x&&& BitVec.ofInt 64 y).toNat:Int):=by
 have:=(BitVec.ofInt 64 x&&& BitVec.ofInt 64 y).isLt
 show IntKind.u64.wrap ((BitVec.ofInt 64 x&&& BitVec.ofInt 64 y).toNat:Int)=_
 exact qbc6 _ (by omega)
theorem qb4v (x y:Int):qbg .or .u64 x y=((BitVec.ofInt 64 x|||BitVec.ofInt 64 y).toNat:Int):=by
 have:=(BitVec.ofInt 64 x|||BitVec.ofInt 64 y).isLt
 show IntKind.u64.wrap ((BitVec.ofInt 64 x|||BitVec.ofInt 64 y).toNat:Int)=_
 exact qbc6 _ (by omega)
theorem q1r (x y:Int):qbg .andNot .u64 x y=((BitVec.ofInt 64 x&&& ~~~BitVec.ofInt 64 y).toNat:Int):=by
 have:=(BitVec.ofInt 64 x&&& ~~~BitVec.ofInt 64 y).isLt
 show IntKind.u64.wrap ((BitVec.ofInt 64 x&&& ~~~BitVec.ofInt 64 y).toNat:Int)=_
 exact qbc6 _ (by omega)
theorem quj (a b:BitVec 64):(a&&& b).toNat+(a&&& ~~~b).toNat=a.toNat:=by
 have h1:(a&&& b)&&& (a&&& ~~~b)=0#64:=by
  ext i hi
  simp
  intro _ h _
  exact h
 have h2:(a&&& b)|||(a&&& ~~~b)=a:=by
  ext i hi
  simp
  cases a[i]<;>cases b[i]<;>rfl
 have h3:=BitVec.add_eq_or_of_and_eq_zero _ _ h1
 rw[h2]at h3
 have h4:=congrArg BitVec.toNat h3
 rw[BitVec.toNat_add]at h4
 have e1:(a&&& b).toNat<=a.toNat:=by rw[BitVec.toNat_and];exact Nat.and_le_left
 have e2:=(a&&& ~~~b).isLt
 have e3:=a.isLt
 omega
theorem qbyx {x:Int}(y:Int)(h:uok x):IntKind.u64.wrap (x-qbg .and .u64 x y)=qbg .andNot .u64 x y:=by
 have h1:=quj (BitVec.ofInt 64 x) (BitVec.ofInt 64 y)
 have h2:=qyt h
 rw[qban,q1r]
 have h3:x-((BitVec.ofInt 64 x&&& BitVec.ofInt 64 y).toNat:Int)=((BitVec.ofInt 64 x&&& ~~~BitVec.ofInt 64 y).toNat:Int):=by omega
 rw[h3]
 have:=(BitVec.ofInt 64 x&&& ~~~BitVec.ofInt 64 y).isLt
 exact qbc6 _ (by omega)
theorem qb1v (a b:BitVec 64)(h:(a&&& b).toNat=0):a.toNat+b.toNat=(a|||b).toNat:=by
 have h1:a&&& b=0#64:=BitVec.eq_of_toNat_eq h
 have h2:=congrArg BitVec.toNat (BitVec.add_eq_or_of_and_eq_zero _ _ h1)
 rw[BitVec.toNat_add]at h2
 have h3:=quj a b
 have h4:(a&&& ~~~b).toNat<=(~~~b).toNat:=by rw[BitVec.toNat_and];exact Nat.and_le_right
 rw[BitVec.toNat_not]at h4
 have e3:=b.isLt
 omega
theorem qbip {x y:Int}(hx:uok x)(hy:uok y)(h:qbg .and .u64 x y=0):x+y=qbg .or .u64 x y:=by
 rw[qban]at h
 rw[qb4v]
 have e1:=qyt hx
 have e2:=qyt hy
 have:=qb1v (BitVec.ofInt 64 x) (BitVec.ofInt 64 y) (by omega)
 omega
theorem qbao (x y:Int):uok (qbg .or .u64 x y):=by
 rw[qb4v]
 have:=(BitVec.ofInt 64 x|||BitVec.ofInt 64 y).isLt
 exact⟨by omega,by omega⟩
theorem qbx8 {x:Int}(h:uok x):qbg .andNot .u64 x 0=x:=by
 rw[q1r]
 have:=quj (BitVec.ofInt 64 x) (BitVec.ofInt 64 0)
 have h2:=qyt h
 have h3:(BitVec.ofInt 64 x&&& BitVec.ofInt 64 0).toNat=0:=by simp
 omega
theorem qb3h:∀n:Fin 129,(0<=(qdj n).1/\(qdj n).1<=18446744073709551615)/\(0<=(qdj n).2/\(qdj n).2<=18446744073709551615):=by decide+kernel
theorem qfb (v6:Bool):qi v6<=128:=by unfold qi;split<;>omega
theorem qb67:∀n:Fin 33,qoo false (n.val:Int)=some (qdj (32-n.val)):=by decide+kernel
theorem qb68:∀n:Fin 129,qoo true (n.val:Int)=some (qdj (128-n.val)):=by decide+kernel
theorem qbyy {v6:Bool}{bits:Int}(h1:0<=bits)(h2:bits<=qi v6):qxl v6 bits=some (qdj (qi v6-bits).toNat):=by
 rw[qbn1]
 obtain⟨n,rfl⟩:=Int.eq_ofNat_of_zero_le h1
 cases v6 with
 |false=>
  have h3:n<=32:=by simp[qi]at h2;omega
  rw[qb67 ⟨n,by omega⟩]
  congr 2
  simp[qi]<;>omega
 |true=>
  have h3:n<=128:=by simp[qi]at h2;omega
  rw[qb68 ⟨n,by omega⟩]
  congr 2
  simp[qi]<;>omega
theorem qbnq (v6:Bool)(hi lo:Int):qxk v6 hi lo=some (qev v6 hi lo):=by
 rw[qbt5];unfold qxj qev
 have:decide (lo<=4294967295)=decide (lo<4294967296):=by apply decide_eq_decide.2;omega
 cases v6<;>cases(hi==0)<;>simp[this]
theorem q5m (v6:Bool)(hi lo:Int):ql5 v6 hi lo=some (qi v6):=by
 rw[qbl4];unfold qrh qi
 cases v6<;>rfl
theorem q5n (v6:Bool)(hi lo bits:Int):qix v6 hi lo bits=some (qcx v6 hi lo bits):=by
 rw[qbn2];unfold qto
 simp only[qbft,qno,qbnq,q5m,oB_s]
 unfold qcx
 cases h1:qev v6 hi lo
 · simp
 · by_cases h2:bits<0
   · have:¬0<=bits:=by omega
     simp[h2,this]
   · have h2':0<=bits:=by omega
     by_cases h3:qi v6<bits
     · have:¬bits<=qi v6:=by omega
       simp[h2,h3,this]
     · have h3':bits<=qi v6:=by omega
       simp[h2,h3,h2',h3',qbyy h2' h3']
def qgb (v6:Bool)(hi lo bits:Int)(w6:Bool)(ahi alo:Int):Bool:=
 qcx v6 hi lo bits&&(qev w6 ahi alo&&((v6==w6)&&((qbg .andNot .u64 ahi (qdj (qi v6-bits).toNat).1==hi)&&(qbg .andNot .u64 alo (qdj (qi v6-bits).toNat).2==lo))))
theorem qd9 {v6:Bool}{hi lo bits:Int}(h:qcx v6 hi lo bits=true):0<=bits/\bits<=qi v6/\qev v6 hi lo=true:=by
 simp[qcx]at h
 exact⟨h.1.1.1.2,h.1.1.2,h.1.1.1.1⟩
theorem qb79 {w6:Bool}{ahi alo bits:Int}(h1:0<=bits)(h2:bits<=qi w6):qbfw w6 ahi alo bits=some (bif qev w6 ahi alo then(.agg [(.bool w6),(.int .u64 (qbg .andNot .u64 ahi (qdj (qi w6-bits).toNat).1)),(.int .u64 (qbg .andNot .u64 alo (qdj (qi w6-bits).toNat).2)),(.int .i64 bits)],true)else(.agg [(.bool false),(.int .u64 0),(.int .u64 0),(.int .i64 0)],false)):=by
 rw[qbu5];unfold q0i
 have a1:¬bits<0:=by omega
 have a2:¬qi w6<bits:=by omega
 simp only[qbn7,qtt,qbnq,q5m,oB_s,qbyy h1 h2]
 cases qev w6 ahi alo<;>simp[a1,a2]
theorem qblv (v6:Bool)(hi lo bits:Int)(w6:Bool)(ahi alo:Int):qrj v6 hi lo bits w6 ahi alo=some (qgb v6 hi lo bits w6 ahi alo):=by
 rw[qbfx];unfold qnp qgb
 simp only[q5n,oB_s]
 cases h1:qcx v6 hi lo bits
 · simp
 · obtain⟨h2,h3,_⟩:=qd9 h1
   by_cases h4:v6=w6
   · subst h4
     rw[qb79 h2 h3]
     cases qev v6 ahi alo<;>simp[gB,gI,gC,aB,aI,AV.cells]
   · have h6:(v6==w6)=false:=by simpa using h4
     simp[h6]
theorem qb8a {w6:Bool}{ahi alo bits:Int}(h1:0<=bits)(h2:bits<=qi w6)(hv:qev w6 ahi alo=true)(u1:uok ahi)(u2:uok alo):q7k w6 ahi alo bits=some (.agg [(.bool w6),(.int .u64 (qbg .andNot .u64 ahi (qdj (qi w6-bits).toNat).1)),(.int .u64 (qbg .andNot .u64 alo (qdj (qi w6-bits).toNat).2)),(.int .i64 bits)],true):=by
 rw[qbri];unfold qv1
 have a1:¬bits<0:=by omega
 have a2:¬qi w6<bits:=by omega
 have hl:=qfb w6
 have hw:IntKind.i64.wrap (qi w6-bits)=qi w6-bits:=w64 (by omega) (by omega)
 have hm:(min (qi w6-bits) 128).toNat=(qi w6-bits).toNat:=by congr 1;omega
 simp only[qbkt,qpq,q66,qbio,qbwo,oB_s,hv,hw,hm,qbyx _ u1,qbyx _ u2]
 simp[a1,a2]
theorem qblw (v6:Bool)(hi lo bits:Int)(w6:Bool)(ahi alo:Int)(u1:uok ahi)(u2:uok alo):qn3 v6 hi lo bits w6 ahi alo=some (qgb v6 hi lo bits w6 ahi alo):=by
 rw[qbbe];unfold qlu qgb
 simp only[q51,qis,qxe,q66,oB_s]
 cases h1:qcx v6 hi lo bits
 · simp
 · obtain⟨h2,h3,_⟩:=qd9 h1
   cases h5:qev w6 ahi alo
   · simp
   · by_cases h4:v6=w6
     · subst h4
       rw[qb8a h2 h3 h5 u1 u2]
       simp[gB,gI,gC,aB,aI,AV.cells]
     · have h6:(v6==w6)=false:=by simpa using h4
       simp[h6]
def qjv (v6:Bool)(hi lo bits:Int)(w6:Bool)(whi wlo wbits:Int):Bool:=
 qcx v6 hi lo bits&&(decide (bits>=wbits)&&qgb w6 whi wlo wbits v6 hi lo)
theorem qbiq (v6:Bool)(hi lo bits:Int)(w6:Bool)(whi wlo wbits:Int):ql6 v6 hi lo bits w6 whi wlo wbits=some (qjv v6 hi lo bits w6 whi wlo wbits):=by
 rw[qbl7];unfold qrk qjv
 simp only[q5n,qblv,oB_s]
 cases h1:qcx v6 hi lo bits
 · simp
 · cases h2:qcx w6 whi wlo wbits
   · simp[qgb,h2]
   · cases h3:decide (bits>=wbits)<;>simp
theorem q1s (v6:Bool)(hi lo bits:Int)(w6:Bool)(whi wlo wbits:Int)(u1:uok hi)(u2:uok lo):qjn v6 hi lo bits w6 whi wlo wbits=some (qjv v6 hi lo bits w6 whi wlo wbits):=by
 rw[qbgx];unfold qn4 qjv
 simp only[qxe,qblw _ _ _ _ _ _ _ u1 u2,oB_s]
 cases h1:qcx v6 hi lo bits
 · simp
 · cases h3:decide (bits>=wbits)<;>simp
def qkf (y:AV):Prop:=fitC qb y.cells=true/\uok (gI y.cells 1)/\uok (gI y.cells 2)/\(gS y.cells 5).length<=9223372036854775807/\(gS y.cells 6).length<=9223372036854775807
def qq (l:LA):Prop:=l.length<=9223372036854775807/\∀y,y∈l->qkf y
def qbir:Ty:=.st [.bool,.int .u64,.int .u64]
def qbwp:Ty:=.st [qbir,.int .i64]
def qbqd:Ty:=.st [qbwp,.int .i64,.str,.str,.int .i64]
theorem blksFit_of {l:LA}(h:l.length<=9223372036854775807/\∀y,y∈l->fitC qbqd.lts y.cells=true/\qbqd.good y.cells 0):qq l:=
 ⟨h.1,fun y hy=>by
  obtain⟨h1,h2⟩:=h.2 y hy
  simp only[qbqd,qbwp,qbir,Ty.good.goods,Ty.good,Ty.size,Ty.sizes,Nat.zero_add,Nat.reduceAdd,and_true,true_and]at h2
  obtain⟨⟨⟨h3,h4⟩,h5⟩,h6,h7,h8,h9⟩:=h2
  exact⟨h1,h3,h4,h7,h8⟩⟩
def qox (s:LU):Bool:=s.all fun c=>decide (33<=c.toNat)&&decide (c.toNat<=126)
theorem qblx (s:LU)(hs:s.length<=9223372036854775807):qmq s=some (qox s):=by
 rw[q8s];unfold qkl
 rw[q4n,qf8 s hs (qe1 s fun _=>some true) (fun i nx=>qe0 s i nx fun _=>some true) (fun _ _=>rfl) (fun r=>some (qox r))]
 · intro nx;simp[qe0,qox]
 · intro i y r nx h1 h2 h3 h4 h5
   have h6:(i:Int)<(s.length:Int):=by omega
   unfold qe0
   simp only[h6,decide_true,cond_t,ixB_nat,h2,oB_s,h4,h5,qox,List.all_cons]
   by_cases a1:(y.toNat:Int)<33
   · have:¬33<=y.toNat:=by omega
     simp[a1,this]
   · have b1:33<=y.toNat:=by omega
     by_cases a2:(y.toNat:Int)>126
     · have:¬y.toNat<=126:=by omega
       simp[a1,a2,this]
     · have b2:y.toNat<=126:=by omega
       simp only[a1,a2,b1,b2,decide_true,decide_false,cond_f,Bool.true_and]
def mayB (y:AV):Bool:=
 bif(bif decide (gI y.cells 4<1)then true else bif decide (gI y.cells 4>3)then true else bif gI y.cells 4==3 then gI y.cells 3 != qi (gB y.cells 0)else false)then false
 else bif(decide (((gS y.cells 5).length:Int)>=1)&&decide (((gS y.cells 5).length:Int)<=63))then(bif(qox (gS y.cells 5)&&decide (((gS y.cells 6).length:Int)<=32))then((qox (gS y.cells 6)&&decide (gI y.cells 7>=0))&&decide (gI y.cells 7<=4294967295))else false)else false
theorem qqb {α:Type}(p:Bool)(a b:α):(bif p then some a else some b)=some (bif p then a else b):=by cases p<;>rfl
theorem qb4w (y:AV)(hy:qkf y):qs0 (gB y.cells 0) (gI y.cells 1) (gI y.cells 2) (gI y.cells 3) (gI y.cells 4) (gS y.cells 5) (gS y.cells 6) (gI y.cells 7)=some (mayB y):=by
 have hw:qzr (gB y.cells 0) (gI y.cells 1) (gI y.cells 2) (gI y.cells 3)=some (qi (gB y.cells 0)):=by
  rw[qbkq];unfold qpn qi;cases gB y.cells 0<;>rfl
 rw[qbop];unfold qt5 mayB
 simp only[qbgw,qn2,qblx _ hy.2.2.2.1,qblx _ hy.2.2.2.2,hw,oB_s]
 cases decide (gI y.cells 4<1)<;>cases decide (gI y.cells 4>3)<;>cases(gI y.cells 4==3)<;>simp only[cond_t,cond_f,qqb]
def cmpA (v6:Bool)(hi lo:Int)(w6:Bool)(whi wlo:Int):Int:=
 bif(!((v6==w6)&&true))then(bif w6 then-1 else 1)else bif(hi != whi)then(bif decide (hi<whi)then-1 else 1)else bif decide (lo<wlo)then-1 else bif decide (lo>wlo)then 1 else 0
theorem qbyz (v6:Bool)(hi lo:Int)(w6:Bool)(whi wlo:Int):qpo v6 hi lo w6 whi wlo=some (cmpA v6 hi lo w6 whi wlo):=by
 rw[qbeq];unfold qmr cmpA
 simp only[qqb]
def cmpP (v6:Bool)(hi lo bits:Int)(w6:Bool)(whi wlo wbits:Int):Int:=
 bif(cmpA v6 hi lo w6 whi wlo != 0)then cmpA v6 hi lo w6 whi wlo else bif decide (bits<wbits)then-1 else bif decide (bits>wbits)then 1 else 0
theorem qb1w (v6:Bool)(hi lo bits:Int)(w6:Bool)(whi wlo wbits:Int):qpp v6 hi lo bits w6 whi wlo wbits=some (cmpP v6 hi lo bits w6 whi wlo wbits):=by
 rw[qber];unfold qms cmpP
 simp only[qbyz,oB_s,qqb]
def ltP (v6:Bool)(hi lo bits:Int)(w6:Bool)(whi wlo wbits:Int):Prop:=
 (v6=false/\w6=true)\/(v6=w6/\(hi<whi\/(hi=whi/\(lo<wlo\/(lo=wlo/\bits<wbits)))))
theorem q1t {a:Bool}{b c d:Int}{a':Bool}{b' c' d':Int}{a2:Bool}{b2 c2 d2:Int}(h1:ltP a b c d a' b' c' d')(h2:ltP a' b' c' d' a2 b2 c2 d2):ltP a b c d a2 b2 c2 d2:=by
 unfold ltP at*
 rcases h1 with⟨rfl,rfl⟩|⟨rfl,h1⟩
 · rcases h2 with⟨h,_⟩|⟨rfl,_⟩
   · cases h
   · exact .inl ⟨rfl,rfl⟩
 · rcases h2 with⟨rfl,rfl⟩|⟨rfl,h2⟩
   · exact .inl ⟨rfl,rfl⟩
   · exact .inr ⟨rfl,by omega⟩
theorem qfn {a:Bool}{b c d:Int}:¬ltP a b c d a b c d:=by
 unfold ltP
 rintro(⟨rfl,h⟩|⟨_,h⟩)
 · cases h
 · omega
def atP (v6:Bool)(hi lo bits:Int)(y:AV):Bool:=(gB y.cells 0==v6)&&((gI y.cells 1==hi)&&((gI y.cells 2==lo)&&((gI y.cells 3==bits)&&true)))
theorem qmb {v6:Bool}{hi lo bits:Int}{y:AV}:atP v6 hi lo bits y=true↔gB y.cells 0=v6/\gI y.cells 1=hi/\gI y.cells 2=lo/\gI y.cells 3=bits:=by simp[atP]
def ltY (y z:AV):Prop:=ltP (gB y.cells 0) (gI y.cells 1) (gI y.cells 2) (gI y.cells 3) (gB z.cells 0) (gI z.cells 1) (gI z.cells 2) (gI z.cells 3)
def qoj (y:AV):Bool:=qcx (gB y.cells 0) (gI y.cells 1) (gI y.cells 2) (gI y.cells 3)
def qbap (y z:AV):Bool:=qjv (gB y.cells 0) (gI y.cells 1) (gI y.cells 2) (gI y.cells 3) (gB z.cells 0) (gI z.cells 1) (gI z.cells 2) (gI z.cells 3)
def qbj (y z:AV):Bool:=bif(qbap y z&&decide (gI y.cells 3>gI z.cells 3))then(bif gI z.cells 4==3 then true else bif gI z.cells 4==2 then gI y.cells 4 != 3 else false)else false
theorem qbwq (y z:AV)(hy:qkf y):qmt (gB y.cells 0) (gI y.cells 1) (gI y.cells 2) (gI y.cells 3) (gI y.cells 4) (gS y.cells 5) (gS y.cells 6) (gI y.cells 7) (gB z.cells 0) (gI z.cells 1) (gI z.cells 2) (gI z.cells 3) (gI z.cells 4) (gS z.cells 5) (gS z.cells 6) (gI z.cells 7)=some (qbj y z):=by
 rw[qbgy];unfold qn5 qbj
 rw[q8v];unfold qqq
 simp only[q1s _ _ _ _ _ _ _ _ hy.2.1 hy.2.2.1,oB_s,qqb]
 rfl
structure Row (l:LA)(j:Nat)(y:AV):Prop where
 p:qoj y=true
 may:mayB y=true
 lt:∀i z,j=i+1->l[i]?=some z->ltY z y
 bar:∀k z,k<j->l[k]?=some z->qbj y z=false
def qc1 (l:LA):Prop:=∀j y,l[j]?=some y->Row l j y
def blkV (y:AV):AV:=.agg [(.bool (gB y.cells 0)),(.int .u64 (gI y.cells 1)),(.int .u64 (gI y.cells 2)),(.int .i64 (gI y.cells 3)),(.int .i64 (gI y.cells 4)),(.str (gS y.cells 5)),(.str (gS y.cells 6)),(.int .i64 (gI y.cells 7))]
def blk0:AV:=.agg [(.bool false),(.int .u64 0),(.int .u64 0),(.int .i64 0),(.int .i64 0),(.str []),(.str []),(.int .i64 0)]
def qsl (l:LA)(v6:Bool)(hi lo bits:Int):AV×Bool:=match l.find? (atP v6 hi lo bits)with
 |some y=>(blkV y,true)
 |none=>(blk0,false)
theorem qbjd (l:LA)(hl:qq l)(v6:Bool)(hi lo bits:Int):ql8 l v6 hi lo bits=some (qsl l v6 hi lo bits):=by
 rw[qbm5];unfold qsa
 show qwg l v6 hi lo bits false 0 0 0 0 [] [] 0 (fun _=>some (blk0,false)) FU 0=_
 rw[qbe2,qf8 l hl.1 (qi7 l v6 hi lo bits false 0 0 0 0 [] [] 0 fun _=>some (blk0,false)) (fun i nx=>qi6 l i v6 hi lo bits false 0 0 0 0 [] [] 0 nx fun _=>some (blk0,false)) (fun _ _=>rfl) (fun r=>some (qsl r v6 hi lo bits))]
 · intro nx;simp[qi6,qsl]
 · intro i y r nx h1 h2 h3 h4 h5
   have hy:=hl.2 y (List.mem_of_getElem? h2)
   have h6:(i:Int)<(l.length:Int):=by omega
   unfold qi6
   simp only[h6,decide_true,cond_t,ixB_nat,h2,oB_s,hy.1,h4,h5,qsl,List.find?_cons]
   rw[show((gB y.cells 0==v6)&&((gI y.cells 1==hi)&&((gI y.cells 2==lo)&&((gI y.cells 3==bits)&&true))))=atP v6 hi lo bits y from rfl]
   cases atP v6 hi lo bits y<;>rfl
def idxO (q:AV->Bool):List AV->Option Nat
 |[]=>none
 |y::r=>if q y then some 0 else(idxO q r).map (· +1)
theorem qnh {q:AV->Bool}:∀(l:LA) (k:Nat),idxO q l=some k->∃y,l[k]?=some y/\l.find? q=some y
 |y::r,k,h=>by
  unfold idxO at h
  cases hq:q y with
  |true=>simp[hq]at h;subst h;exact⟨y,rfl,by simp[hq]⟩
  |false=>
   simp[hq]at h
   obtain⟨k',h1,rfl⟩:=h
   obtain⟨z,h2,h3⟩:=qnh r k' h1
   exact⟨z,by simpa using h2,by simp[hq,h3]⟩
theorem qbte {q:AV->Bool}:∀(l:LA),idxO q l=none->l.find? q=none
 |[],_=>rfl
 |y::r,h=>by
  unfold idxO at h
  cases hq:q y with
  |true=>simp[hq]at h
  |false=>simp[hq]at h;simp[List.find?_cons,hq];simpa using qbte r h
def idxI (q:AV->Bool)(l:LA):Int:=match idxO q l with
 |some k=>(k:Int)
 |none=> -1
theorem qbnr (l:LA)(hl:qq l)(v6:Bool)(hi lo bits:Int):qst l v6 hi lo bits=some (idxI (atP v6 hi lo bits) l):=by
 rw[qbn5];unfold qts
 rw[qin];unfold qbw
 rw[qhr]
 have key:=qch l hl.1 (fun n i (s:Bool×Int×Int×Int)=>q9 l (l.length:Int) (fun b0_0 b0_1 b0_2 b0_3=>some (-1:Int)) (fun v4q1 b0_0q2 b0_1q3 b0_2q4 b0_3q5=>some v4q1) n i s.1 s.2.1 s.2.2.1 s.2.2.2)
  (fun i s nx=>q8 l (l.length:Int) i s.1 s.2.1 s.2.2.1 s.2.2.2 (fun a b c d e=>nx a (b,c,d,e)) (fun b0_0 b0_1 b0_2 b0_3=>some (-1:Int)) (fun v4q1 b0_0q2 b0_1q3 b0_2q4 b0_3q5=>some v4q1)) (fun _ _ _=>rfl)
  (fun i s=>s=(v6,hi,lo,bits)) (fun r s=>some (match idxO (atP v6 hi lo bits) r with|some k=>((l.length-r.length+k:Nat):Int)|none=> -1)) ?_ ?_ (v6,hi,lo,bits) FU rfl (qcp (by have:=hl.1;omega))
 · refine key.trans ?_
   unfold idxI
   cases idxO (atP v6 hi lo bits) l<;>simp
 · intro s nx hs
   simp[q8,idxO]
 · rintro i y r _ nx h1 h2 h3 h4 rfl h5
   have hy:=hl.2 y (List.mem_of_getElem? h2)
   have h6:(i:Int)<(l.length:Int):=by omega
   have hr:r.length=l.length-(i+1):=by
    have:=congrArg List.length h1
    simp at this
    omega
   unfold q8
   simp only[h6,decide_true,cond_t,ixB_nat,h2,oB_s,hy.1,qbju,qo5,h4]
   rw[show((gB y.cells 0==v6)&&((gI y.cells 1==hi)&&((gI y.cells 2==lo)&&((gI y.cells 3==bits)&&true))))=atP v6 hi lo bits y from rfl]
   unfold idxO
   cases hq:atP v6 hi lo bits y with
   |true=>
    simp
    omega
   |false=>
    simp only[cond_f,Bool.false_eq_true,if_false]
    rw[h5 _ rfl]
    cases idxO (atP v6 hi lo bits) r with
    |none=>rfl
    |some k=>simp;omega
theorem qbr2 (l:LA)(hl:qq l)(v6:Bool)(hi lo bits:Int):qqv l v6 hi lo bits=some (qsl l v6 hi lo bits):=by
 rw[qbrc];unfold qvr qsl
 simp only[qbnr l hl,oB_s]
 unfold idxI
 cases hq:idxO (atP v6 hi lo bits) l with
 |none=>
  rw[qbte l hq]
  rfl
 |some k=>
  obtain⟨y,h1,h2⟩:=qnh l k hq
  have hy:=hl.2 y (List.mem_of_getElem? h1)
  have h3:(k:Int)>=0:=by omega
  rw[h2]
  simp only[h3,decide_true,cond_t,ixB_nat,h1,oB_s,hy.1]
  rfl
theorem qbtf {x:Int}(m:Int)(h:uok x):qbg .andNot .u64 x m<=x:=by
 rw[q1r]
 have:=quj (BitVec.ofInt 64 x) (BitVec.ofInt 64 m)
 have h2:=qyt h
 omega
theorem qbly {x m:Int}(h:uok x)(h0:qbg .and .u64 x m=0):qbg .andNot .u64 x m=x:=by
 rw[qban]at h0
 rw[q1r]
 have:=quj (BitVec.ofInt 64 x) (BitVec.ofInt 64 m)
 have h2:=qyt h
 omega
theorem qc1.sorted {l:LA}(h:qc1 l)(i:Nat)(y:AV)(hy:l[i]?=some y):∀j z,i<j->l[j]?=some z->ltY y z:=by
 intro j
 induction j with
 |zero=>intro z hj;omega
 |succ j ih=>
  intro z hj hz
  obtain⟨x,hx⟩:∃x,l[j]?=some x:=by
   have:=(List.getElem?_eq_some_iff.1 hz).1
   exact⟨l[j],by simp⟩
  have h1:=(h (j+1) z hz).lt j x rfl hx
  by_cases hij:i=j
  · subst hij
    rw[hy]at hx;cases hx
    exact h1
  · exact q1t (ih x (by omega) hx) h1
theorem qbuq {y z:AV}(hy:qkf y)(hw:qbap y z=true)(hne:atP (gB z.cells 0) (gI z.cells 1) (gI z.cells 2) (gI z.cells 3) y=false):ltY z y/\gI y.cells 3>gI z.cells 3:=by
 unfold qbap qjv qgb at hw
 simp only[Bool.and_eq_true,beq_iff_eq,decide_eq_true_eq]at hw
 obtain⟨h1,h2,h3,h4,h5,h6,h7⟩:=hw
 have hp:=h1
 simp only[qcx,Bool.and_eq_true,beq_iff_eq]at hp
 have hb:gI y.cells 3≠gI z.cells 3:=by
  intro hb
  rw[<-h5,hb]at hp
  rw[qbly hy.2.1 hp.1.2]at h6
  rw[qbly hy.2.2.1 hp.2]at h7
  have:atP (gB z.cells 0) (gI z.cells 1) (gI z.cells 2) (gI z.cells 3) y=true:=qmb.2 ⟨h5.symm,h6,h7,hb⟩
  rw[this]at hne
  cases hne
 have a1:=qbtf (qdj (qi (gB z.cells 0)-gI z.cells 3).toNat).1 hy.2.1
 have a2:=qbtf (qdj (qi (gB z.cells 0)-gI z.cells 3).toNat).2 hy.2.2.1
 rw[h6]at a1
 rw[h7]at a2
 refine⟨.inr ⟨h5,?_⟩,by omega⟩
 omega
def numP (hi lo:Int):Nat:=hi.toNat*18446744073709551616+lo.toNat
def kOf (v6:Bool)(bits:Int):Nat:=(qi v6-bits).toNat
theorem qbc7:(2:Nat)^64=18446744073709551616:=by decide
theorem qbwr (x j:Nat):x&&& (2^j-1)=x%2^j:=Nat.and_two_pow_sub_one_eq_mod x j
theorem qvk {x:Int}(h:uok x)(j:Nat)(hj:j<=64):qbg .and .u64 x ((2^j-1:Nat):Int)=((x.toNat%2^j:Nat):Int):=by
 rw[qban]
 congr 1
 have e1:=qyt h
 have hp:(2:Nat)^j<=2^64:=Nat.pow_le_pow_right (by decide) hj
 have h0:0<(2:Nat)^j:=Nat.two_pow_pos j
 have e2:=qyt (x:=((2^j-1:Nat):Int)) ⟨by omega,by rw[qbc7]at hp;omega⟩
 rw[BitVec.toNat_and]
 have e3:(BitVec.ofInt 64 x).toNat=x.toNat:=by omega
 have e4:(BitVec.ofInt 64 ((2^j-1:Nat):Int)).toNat=2^j-1:=by omega
 rw[e3,e4]
 exact qbwr _ _
theorem q0c {x:Int}(h:uok x)(j:Nat)(hj:j<=64):qbg .andNot .u64 x ((2^j-1:Nat):Int)=((x.toNat-x.toNat%2^j:Nat):Int):=by
 have h1:=qvk h j hj
 rw[qban]at h1
 rw[q1r]
 have h2:=quj (BitVec.ofInt 64 x) (BitVec.ofInt 64 ((2^j-1:Nat):Int))
 have h3:=qyt h
 have h4:x.toNat%2^j<=x.toNat:=Nat.mod_le _ _
 omega
theorem qbws:∀n:Fin 65,qdj n=(0,((2^n.val-1:Nat):Int)):=by decide+kernel
theorem qbtg:∀n:Fin 65,qdj (n.val+64)=(((2^n.val-1:Nat):Int),((2^64-1:Nat):Int)):=by decide+kernel
theorem q0u {x:Int}(h:uok x):qbg .and .u64 x 0=0:=by
 have:=qvk h 0 (by omega)
 simpa[Nat.mod_one]using this
theorem qbis (hi lo k:Nat)(hk:k<=64):(hi*18446744073709551616+lo)%2^k=lo%2^k:=by
 have:18446744073709551616=2^k*2^(64-k):=by rw[<-Nat.pow_add,<-qbc7];congr 1;omega
 rw[this,show hi*(2^k*2^(64-k))+lo=lo+2^k*(hi*2^(64-k)) by rw[Nat.add_comm];congr 1;rw[Nat.mul_left_comm],Nat.add_mul_mod_self_left]
theorem qbr3 (hi lo j:Nat)(hl:lo<18446744073709551616):(hi*18446744073709551616+lo)%2^(j+64)=hi%2^j*18446744073709551616+lo:=by
 have h0:0<(2:Nat)^j:=Nat.two_pow_pos j
 have h1:=Nat.div_add_mod hi (2^j)
 have h2:=Nat.mod_lt hi h0
 rw[Nat.pow_add,qbc7]
 have e:hi*18446744073709551616+lo=(hi%2^j*18446744073709551616+lo)+2^j*18446744073709551616*(hi / 2^j):=by
  calc hi*18446744073709551616+lo=(2^j*(hi / 2^j)+hi%2^j)*18446744073709551616+lo:=by rw[h1]
   _=_:=by rw[Nat.add_mul];rw[show 2^j*(hi / 2^j)*18446744073709551616=2^j*18446744073709551616*(hi / 2^j) by rw[Nat.mul_right_comm]];omega
 rw[e,Nat.add_mul_mod_self_left]
 refine Nat.mod_eq_of_lt ?_
 have h3:(hi%2^j+1)*18446744073709551616<=2^j*18446744073709551616:=Nat.mul_le_mul_right _ h2
 rw[Nat.add_mul]at h3
 omega
theorem qby0 {hi lo:Int}(u1:uok hi)(u2:uok lo)(k:Nat)(hk:k<=128):
 uok (qbg .andNot .u64 hi (qdj k).1)/\uok (qbg .andNot .u64 lo (qdj k).2)/\numP (qbg .andNot .u64 hi (qdj k).1) (qbg .andNot .u64 lo (qdj k).2)=numP hi lo-numP hi lo%2^k:=by
 obtain⟨a1,a2⟩:=u1
 obtain⟨b1,b2⟩:=u2
 rcases Nat.lt_or_ge k 65 with h|h
 · have e:=qbws ⟨k,h⟩
   simp only at e
   rw[e,q0c ⟨b1,b2⟩ k (by omega),qbx8 ⟨a1,a2⟩]
   have hm:=qbis hi.toNat lo.toNat k (by omega)
   have hle:=Nat.mod_le lo.toNat (2^k)
   refine⟨⟨a1,a2⟩,⟨by omega,by omega⟩,?_⟩
   unfold numP
   rw[hm]
   omega
 · obtain⟨j,rfl⟩:∃j,k=j+64:=⟨k-64,by omega⟩
   have e:=qbtg ⟨j,by omega⟩
   simp only at e
   rw[e,q0c ⟨a1,a2⟩ j (by omega),q0c ⟨b1,b2⟩ 64 (by omega)]
   have hm:=qbr3 hi.toNat lo.toNat j (by omega)
   have hle:=Nat.mod_le hi.toNat (2^j)
   have hlo:lo.toNat%2^64=lo.toNat:=Nat.mod_eq_of_lt (by rw[qbc7];omega)
   refine⟨⟨by omega,by omega⟩,⟨by omega,by omega⟩,?_⟩
   unfold numP
   rw[hm,hlo]
   omega
theorem qb5x {hi lo:Int}(u1:uok hi)(u2:uok lo)(k:Nat)(hk:k<=128):
 (qbg .and .u64 hi (qdj k).1=0/\qbg .and .u64 lo (qdj k).2=0)↔numP hi lo%2^k=0:=by
 obtain⟨a1,a2⟩:=u1
 obtain⟨b1,b2⟩:=u2
 rcases Nat.lt_or_ge k 65 with h|h
 · have e:=qbws ⟨k,h⟩
   simp only at e
   rw[e,qvk ⟨b1,b2⟩ k (by omega),q0u ⟨a1,a2⟩]
   have hm:=qbis hi.toNat lo.toNat k (by omega)
   unfold numP
   rw[hm]
   generalize lo.toNat%2^k=q
   constructor
   · rintro⟨_,h⟩;omega
   · intro h;exact⟨rfl,by omega⟩
 · obtain⟨j,rfl⟩:∃j,k=j+64:=⟨k-64,by omega⟩
   have e:=qbtg ⟨j,by omega⟩
   simp only at e
   rw[e,qvk ⟨a1,a2⟩ j (by omega),qvk ⟨b1,b2⟩ 64 (by omega)]
   have hm:=qbr3 hi.toNat lo.toNat j (by omega)
   have hlo:lo.toNat%2^64=lo.toNat:=Nat.mod_eq_of_lt (by rw[qbc7];omega)
   unfold numP
   rw[hm,hlo]
   constructor
   · rintro⟨h1,h2⟩
     have:hi.toNat%2^j=0:=by omega
     rw[this];omega
   · intro h1
     revert h1
     generalize hi.toNat%2^j=q
     intro h1
     have h4:q=0:=by omega
     have h5:lo.toNat=0:=by omega
     exact⟨by omega,by omega⟩
theorem qbwt {hi lo hi' lo':Int}(u1:uok hi)(u2:uok lo)(u3:uok hi')(u4:uok lo')(h:numP hi lo=numP hi' lo'):hi=hi'/\lo=lo':=by
 unfold numP at h
 unfold uok at*
 omega
theorem qyu {v6:Bool}{hi lo bits:Int}(u1:uok hi)(u2:uok lo):qcx v6 hi lo bits=true↔qev v6 hi lo=true/\0<=bits/\bits<=qi v6/\numP hi lo%2^kOf v6 bits=0:=by
 by_cases h:0<=bits
 · have hl:=qfb v6
   have:=qb5x u1 u2 (kOf v6 bits) (by unfold kOf;omega)
   unfold qcx
   simp only[Bool.and_eq_true,decide_eq_true_eq,beq_iff_eq]
   unfold kOf at*
   rw[<-this]
   constructor
   · rintro⟨⟨⟨⟨a,b⟩,c⟩,d⟩,e⟩;exact⟨a,b,c,d,e⟩
   · rintro⟨a,b,c,d,e⟩;exact⟨⟨⟨⟨a,b⟩,c⟩,d⟩,e⟩
 · unfold qcx
   simp[h]
theorem qbth {v6:Bool}{hi lo bits:Int}{w6:Bool}{ahi alo:Int}(h1:uok hi)(h2:uok lo)(u1:uok ahi)(u2:uok alo):
 qgb v6 hi lo bits w6 ahi alo=true↔qcx v6 hi lo bits=true/\qev w6 ahi alo=true/\v6=w6/\numP hi lo=numP ahi alo-numP ahi alo%2^kOf v6 bits:=by
 unfold qgb
 simp only[Bool.and_eq_true,beq_iff_eq]
 constructor
 · rintro⟨a,b,c,d,e⟩
   refine⟨a,b,c,?_⟩
   obtain⟨r1,r2,_⟩:=qd9 a
   have hl:=qfb v6
   obtain⟨_,_,h⟩:=qby0 u1 u2 (kOf v6 bits) (by unfold kOf;omega)
   unfold kOf at h
   rw[d,e]at h
   exact h
 · rintro⟨a,b,c,d⟩
   refine⟨a,b,c,?_⟩
   obtain⟨r1,r2,_⟩:=qd9 a
   have hl:=qfb v6
   obtain⟨k1,k2,h⟩:=qby0 u1 u2 (kOf v6 bits) (by unfold kOf;omega)
   rw[<-d]at h
   obtain⟨e1,e2⟩:=qbwt k1 k2 h1 h2 h
   exact⟨e1,e2⟩
structure Np where
 v:Bool
 n:Nat
 k:Nat
def Np.ok (p:Np):Prop:=p.n%2^p.k=0
def Np.sub (p q:Np):Prop:=p.v=q.v/\p.k<=q.k/\p.n-p.n%2^q.k=q.n
theorem qbje {a b:Nat}(h:a<=b):2^a ∣ 2^b:=Nat.pow_dvd_pow 2 h
theorem qby1 {n a b:Nat}(h:a<=b):(n-n%2^a)-(n-n%2^a)%2^b=n-n%2^b:=by
 have h0:=Nat.two_pow_pos a
 have h1:=Nat.two_pow_pos b
 obtain⟨c,hc⟩:=qbje h
 have e1:n-n%2^a=2^a*(n / 2^a):=by have:=Nat.div_add_mod n (2^a);omega
 have e2:∀m,m-m%2^b=2^b*(m / 2^b):=fun m=>by have:=Nat.div_add_mod m (2^b);omega
 rw[e2,e2 n]
 congr 1
 rw[e1,hc,<-Nat.div_div_eq_div_mul,<-Nat.div_div_eq_div_mul,Nat.mul_div_cancel_left _ h0]
theorem Np.sub_refl {p:Np}(h:p.ok):p.sub p:=⟨rfl,Nat.le_refl _,by unfold Np.ok at h;rw[h];rfl⟩
theorem Np.sub_trans {p q r:Np}(h1:p.sub q)(h2:q.sub r):p.sub r:=by
 obtain⟨a1,a2,a3⟩:=h1
 obtain⟨b1,b2,b3⟩:=h2
 refine⟨a1.trans b1,Nat.le_trans a2 b2,?_⟩
 rw[<-b3,<-a3,qby1 b2]
theorem Np.sub_antisymm {p q:Np}(hp:p.ok)(h1:p.sub q)(h2:q.sub p):p=q:=by
 obtain⟨a1,a2,a3⟩:=h1
 obtain⟨b1,b2,b3⟩:=h2
 have hk:p.k=q.k:=Nat.le_antisymm a2 b2
 have hn:p.n=q.n:=by
  unfold Np.ok at hp
  rw[<-hk,hp]at a3
  exact a3
 cases p;cases q;simp only at*
 subst a1 hk hn
 rfl
theorem Np.nest {p q r:Np}(h1:p.sub q)(h2:p.sub r)(h:q.k<=r.k):q.sub r:=by
 obtain⟨a1,a2,a3⟩:=h1
 obtain⟨b1,b2,b3⟩:=h2
 exact⟨a1.symm.trans b1,h,by rw[<-a3,qby1 h];exact b3⟩
theorem qbr4 (v6:Bool)(hi lo:Int)(w6:Bool)(whi wlo:Int):qsv v6 hi lo w6 whi wlo=some (cmpA v6 hi lo w6 whi wlo):=by
 rw[qbn9];unfold qtu cmpA
 simp only[qbrb,qvq,qqb,oB_s]
 by_cases h1:v6=w6
 · subst h1
   by_cases h2:hi=whi
   · subst h2;simp
   · by_cases h3:hi<whi
     · simp[h2,h3]
     · have:hi>whi:=by omega
       simp[h2,h3,this]
 · cases v6<;>cases w6<;>simp at h1⊢
theorem qb69 (v6:Bool)(hi lo bits:Int)(w6:Bool)(whi wlo wbits:Int):qzl v6 hi lo bits w6 whi wlo wbits=some (cmpP v6 hi lo bits w6 whi wlo wbits):=by
 rw[qbjv];unfold qo7 cmpP
 simp only[qbr4,oB_s,qqb]
theorem q3q (v6:Bool)(hi lo bits:Int)(w6:Bool)(whi wlo wbits:Int):
 (cmpP v6 hi lo bits w6 whi wlo wbits<0/\ltP v6 hi lo bits w6 whi wlo wbits)\/(cmpP v6 hi lo bits w6 whi wlo wbits=0/\v6=w6/\hi=whi/\lo=wlo/\bits=wbits)\/(cmpP v6 hi lo bits w6 whi wlo wbits>0/\ltP w6 whi wlo wbits v6 hi lo bits):=by
 unfold cmpP cmpA ltP
 by_cases h1:v6=w6
 · subst h1
   by_cases h2:hi=whi
   · subst h2
     by_cases h3:lo<wlo
     · left;simp[h3]
     · by_cases h4:lo>wlo
       · right;right;simp[h3,h4]
       · have:lo=wlo:=by omega
         subst this
         by_cases h5:bits<wbits
         · left;simp[h5]
         · by_cases h6:bits>wbits
           · right;right;simp[h5,h6]
           · right;left
             have:bits=wbits:=by omega
             subst this;simp
   · have h2':(hi != whi)=true:=by simpa using h2
     by_cases h3:hi<whi
     · left;simp[h2',h3]
     · have h4:whi<hi:=by omega
       right;right;simp[h2',h3,h4]
 · cases v6<;>cases w6<;>simp at h1⊢
def cmpY (y z:AV):Int:=cmpP (gB y.cells 0) (gI y.cells 1) (gI y.cells 2) (gI y.cells 3) (gB z.cells 0) (gI z.cells 1) (gI z.cells 2) (gI z.cells 3)
def samP (y z:AV):Bool:=(gB y.cells 0==gB z.cells 0)&&((gI y.cells 1==gI z.cells 1)&&((gI y.cells 2==gI z.cells 2)&&((gI y.cells 3==gI z.cells 3)&&true)))
theorem qbc8 {y z:AV}:samP y z=true↔gB y.cells 0=gB z.cells 0/\gI y.cells 1=gI z.cells 1/\gI y.cells 2=gI z.cells 2/\gI y.cells 3=gI z.cells 3:=by simp[samP]
theorem qbc9 {y z:AV}:samP y z=true↔cmpY y z=0:=by
 rw[qbc8]
 unfold cmpY
 rcases q3q (gB y.cells 0) (gI y.cells 1) (gI y.cells 2) (gI y.cells 3) (gB z.cells 0) (gI z.cells 1) (gI z.cells 2) (gI z.cells 3)with⟨h,h2⟩|⟨h,h2⟩|⟨h,h2⟩
 · constructor
   · rintro⟨a,b,c,d⟩;rw[a,b,c,d]at h2;exact absurd h2 qfn
   · intro h3;omega
 · exact⟨fun _=>h,fun _=>h2⟩
 · constructor
   · rintro⟨a,b,c,d⟩;rw[a,b,c,d]at h2;exact absurd h2 qfn
   · intro h3;omega
theorem qo2 (y z:AV):(cmpY y z>0↔cmpY z y<0)/\(cmpY y z=0↔cmpY z y=0)/\(cmpY y z<0↔ltY y z):=by
 unfold cmpY ltY
 have irr:∀{a:Bool} {b c d:Int} {a':Bool} {b' c' d':Int},ltP a b c d a' b' c' d'->¬ltP a' b' c' d' a b c d:=fun h1 h2=>qfn (q1t h1 h2)
 rcases q3q (gB y.cells 0) (gI y.cells 1) (gI y.cells 2) (gI y.cells 3) (gB z.cells 0) (gI z.cells 1) (gI z.cells 2) (gI z.cells 3)with⟨h,h2⟩|⟨h,a,b,c,d⟩|⟨h,h2⟩<;>
 rcases q3q (gB z.cells 0) (gI z.cells 1) (gI z.cells 2) (gI z.cells 3) (gB y.cells 0) (gI y.cells 1) (gI y.cells 2) (gI y.cells 3)with⟨k,k2⟩|⟨k,a',b',c',d'⟩|⟨k,k2⟩
 · exact absurd k2 (irr h2)
 · rw[a',b',c',d']at h2;exact absurd h2 qfn
 · exact⟨by constructor<;>intro<;>omega,by constructor<;>intro<;>omega,⟨fun _=>h2,fun _=>h⟩⟩
 · rw[a,b,c,d]at k2;exact absurd k2 qfn
 · refine⟨by constructor<;>intro<;>omega,by constructor<;>intro<;>omega,⟨fun _=>by omega,fun h3=> ?_⟩⟩
   rw[a,b,c,d]at h3;exact absurd h3 qfn
 · rw[a,b,c,d]at k2;exact absurd k2 qfn
 · refine⟨by constructor<;>intro<;>omega,by constructor<;>intro<;>omega,⟨fun _=>by omega,fun h3=>absurd h3 (irr h2)⟩⟩
 · rw[a',b',c',d']at h2;exact absurd h2 qfn
 · exact absurd k2 (irr h2)
def q0v (y z:AV):Bool:=decide (gI y.cells 3>gI z.cells 3)&&qbap y z
def qea (v6:Bool)(hi lo bits:Int)(w6:Bool)(whi wlo wbits:Int):Bool:=decide (bits>wbits)&&qjv v6 hi lo bits w6 whi wlo wbits
theorem qbwu (v6:Bool)(hi lo bits:Int)(w6:Bool)(whi wlo wbits:Int):qu5 v6 hi lo bits w6 whi wlo wbits=some (qea v6 hi lo bits w6 whi wlo wbits):=by
 rw[qbra];unfold qvp qea
 simp only[qbiq,oB_s]
 cases decide (bits>wbits)<;>rfl
theorem qbti (s:LU)(lo hi:Int)(hs:s.length<=9223372036854775807):qtq s lo hi=some (decide ((s.length:Int)>=lo)&&(decide ((s.length:Int)<=hi)&&qox s)):=by
 rw[qbjs];unfold qo4
 have e:qss s (s.length:Int) (fun(_:Unit)=>some true) FU 0=some (qox s):=by
  rw[q8b,qf8 s hs (qgm s (s.length:Int) fun _=>some true) (fun i nx=>qgl s (s.length:Int) i nx fun _=>some true) (fun _ _=>rfl) (fun r=>some (qox r))]
  · intro nx;simp[qgl,qox]
  · intro i y r nx h1 h2 h3 h4 h5
    have h6:(i:Int)<(s.length:Int):=by omega
    unfold qgl
    simp only[h6,decide_true,cond_t,ixB_nat,h2,oB_s,h4,h5,qox,List.all_cons]
    by_cases a1:(y.toNat:Int)<33
    · have a2:¬33<=y.toNat:=by omega
      simp[a1,a2]
    · have a2:33<=y.toNat:=by omega
      by_cases b1:(y.toNat:Int)>126
      · have b2:¬y.toNat<=126:=by omega
        simp[a1,a2,b1,b2]
      · have b2:y.toNat<=126:=by omega
        simp[a1,a2,b1,b2]
 rw[e]
 by_cases h1:(s.length:Int)<lo
 · have:¬(s.length:Int)>=lo:=by omega
   simp[h1,this]
 · have h1':(s.length:Int)>=lo:=by omega
   by_cases h2:(s.length:Int)>hi
   · have:¬(s.length:Int)<=hi:=by omega
     simp[h1,h2,this]
   · have:(s.length:Int)<=hi:=by omega
     simp[h1,h2,this,h1']
def qbqe (y:AV):Int:=bif !qoj y then 3 else bif !mayB y then 1 else 0
theorem qb5y (y:AV)(hy:qkf y):qxm (gB y.cells 0) (gI y.cells 1) (gI y.cells 2) (gI y.cells 3) (gI y.cells 4) (gS y.cells 5) (gS y.cells 6) (gI y.cells 7)=some (qbqe y):=by
 have hw:q35 (gB y.cells 0) (gI y.cells 1) (gI y.cells 2) (gI y.cells 3)=some (qi (gB y.cells 0)):=by
  rw[qbn3];unfold qtp qi;cases gB y.cells 0<;>rfl
 rw[qbn4];unfold qtr qbqe qoj mayB
 simp only[qbdy,qmc,q5n,qbti _ _ _ hy.2.2.2.1,qbti _ _ _ hy.2.2.2.2,hw,oB_s]
 have e1:decide (((gS y.cells 6).length:Int)>=0)=true:=by simp
 rw[e1]
 cases qcx (gB y.cells 0) (gI y.cells 1) (gI y.cells 2) (gI y.cells 3)
 · rfl
 · have e2:decide (gI y.cells 7<0)= !decide (gI y.cells 7>=0):=by rw[Bool.eq_iff_iff];simp
   have e3:decide (gI y.cells 7>4294967295)= !decide (gI y.cells 7<=4294967295):=by rw[Bool.eq_iff_iff];simp
   rw[e2,e3]
   cases decide (gI y.cells 4<1)<;>cases decide (gI y.cells 4>3)<;>cases(gI y.cells 4==3)<;>cases(gI y.cells 3 != qi (gB y.cells 0))<;>simp only[cond_t,cond_f,Bool.not_true,Bool.not_false]<;>
    cases decide (((gS y.cells 5).length:Int)>=1)<;>cases decide (((gS y.cells 5).length:Int)<=63)<;>cases qox (gS y.cells 5)<;>cases decide (((gS y.cells 6).length:Int)<=32)<;>cases qox (gS y.cells 6)<;>cases decide (gI y.cells 7>=0)<;>cases decide (gI y.cells 7<=4294967295)<;>rfl
def admF (ko kb:Int):Bool:=bif ko==1 then true else bif ko==2 then kb==3 else false
theorem qb3i (y z:AV):q15 (gB z.cells 0) (gI z.cells 1) (gI z.cells 2) (gI z.cells 3) (gI z.cells 4) (gS z.cells 5) (gS z.cells 6) (gI z.cells 7) (gB y.cells 0) (gI y.cells 1) (gI y.cells 2) (gI y.cells 3) (gI y.cells 4) (gS y.cells 5) (gS y.cells 6) (gI y.cells 7)=some (admF (gI z.cells 4) (gI y.cells 4)):=by
 rw[qbl8];unfold qrl admF
 simp only[qqb]
def misY (y z:AV):Bool:=q0v y z&& !admF (gI z.cells 4) (gI y.cells 4)
theorem qb5z {y z:AV}(hz:mayB z=true):misY y z=qbj y z:=by
 have hk:1<=gI z.cells 4/\gI z.cells 4<=3:=by
  unfold mayB at hz
  by_cases h1:gI z.cells 4<1
  · simp[h1]at hz
  · by_cases h2:gI z.cells 4>3
    · simp[h1,h2]at hz
    · omega
 unfold misY qbj q0v admF
 have h3:gI z.cells 4=1\/gI z.cells 4=2\/gI z.cells 4=3:=by omega
 rcases h3 with h|h|h<;>rw[h]<;>cases qbap y z<;>cases decide (gI y.cells 3>gI z.cells 3)<;>cases hh:gI y.cells 4==3<;>simp[hh,bne]
theorem qtk (q:AV->Bool)(l:LA):decide (idxI q l>=0)=l.any q:=by
 unfold idxI
 have:(idxO q l).isSome=l.any q:=by
  induction l with
  |nil=>rfl
  |cons y r ih=>unfold idxO;cases hq:q y<;>simp[hq,ih]
 cases h:idxO q l with
 |none=>rw[h]at this;simp at this⊢;simpa using this
 |some k=>rw[h]at this;simp at this⊢;simpa using this
theorem qbda {R:Type}(l:LA)(hl:qq l)(a0:Bool)(a1:Int)(a2:Int)(a3:Int)(a4:Int)(a5:LU)(a6:LU)(a7:Int)(kr:Int->Bool->Int->Int->Int->Int->List UInt8->List UInt8->Int->Option R)(q:AV->Bool)(hq:∀y,qkf y->∀kr:Bool->Bool->Int->Int->Int->Int->List UInt8->List UInt8->Int->Option R,qsu (gB y.cells 0) (gI y.cells 1) (gI y.cells 2) (gI y.cells 3) (gI y.cells 4) (gS y.cells 5) (gS y.cells 6) (gI y.cells 7) a0 a1 a2 a3 a4 a5 a6 a7 kr=kr (q y) a0 a1 a2 a3 a4 a5 a6 a7):
 qb6 l a0 a1 a2 a3 a4 a5 a6 a7 kr=kr (idxI q l) a0 a1 a2 a3 a4 a5 a6 a7:=by
 rw[qhg];unfold qbn
 rw[qgc]
 have key:=qch l hl.1 (fun n i (s:Bool×Int×Int×Int×Int×(List UInt8)×(List UInt8)×Int)=>qv l (l.length:Int) (fun c0 c1 c2 c3 c4 c5 c6 c7=>kr (-1:Int) c0 c1 c2 c3 c4 c5 c6 c7) kr n i s.1 s.2.1 s.2.2.1 s.2.2.2.1 s.2.2.2.2.1 s.2.2.2.2.2.1 s.2.2.2.2.2.2.1 s.2.2.2.2.2.2.2)
  (fun i s nx=>qu l (l.length:Int) i s.1 s.2.1 s.2.2.1 s.2.2.2.1 s.2.2.2.2.1 s.2.2.2.2.2.1 s.2.2.2.2.2.2.1 s.2.2.2.2.2.2.2 (fun i c0 c1 c2 c3 c4 c5 c6 c7=>nx i (c0,c1,c2,c3,c4,c5,c6,c7)) (fun c0 c1 c2 c3 c4 c5 c6 c7=>kr (-1:Int) c0 c1 c2 c3 c4 c5 c6 c7) kr) (fun _ _ _=>rfl)
  (fun i s=>s=(a0,a1,a2,a3,a4,a5,a6,a7)) (fun r s=>kr (match idxO q r with|some k=>((l.length-r.length+k:Nat):Int)|none=> -1) a0 a1 a2 a3 a4 a5 a6 a7) ?_ ?_ (a0,a1,a2,a3,a4,a5,a6,a7) FU rfl (qcp (by have:=hl.1;omega))
 · refine key.trans ?_
   unfold idxI
   cases idxO q l<;>simp
 · intro s nx hs
   subst hs
   simp[qu,idxO]
 · rintro i y r _ nx h1 h2 h3 h4 rfl h5
   have hy:=hl.2 y (List.mem_of_getElem? h2)
   have h6:(i:Int)<(l.length:Int):=by omega
   have hr:r.length=l.length-(i+1):=by
    have:=congrArg List.length h1
    simp at this
    omega
   unfold qu
   simp only[h6,decide_true,cond_t,ixB_nat,h2,oB_s,hy.1,hq y hy,h4]
   unfold idxO
   cases hqq:q y with
   |true=>
    simp only[cond_t,if_true]
    congr 1
    simp
    omega
   |false=>
    simp only[cond_f,Bool.false_eq_true,if_false]
    rw[h5 _ rfl]
    cases idxO q r with
    |none=>rfl
    |some k=>
     simp
     congr 1
     omega
theorem qbx9 (l:LA)(hl:qq l)(y:AV):qo6 l (gB y.cells 0) (gI y.cells 1) (gI y.cells 2) (gI y.cells 3) (gI y.cells 4) (gS y.cells 5) (gS y.cells 6) (gI y.cells 7)=some (l.any (misY y)):=by
 rw[qbdz];unfold qme
 rw[qge];unfold qbi
 rw[qbda l hl _ _ _ _ _ _ _ _ _ (misY y),qtk]
 intro z hz kr
 rw[q8e];unfold qki
 simp only[qbwu,qb3i,oB_s]
 have e:qea (gB y.cells 0) (gI y.cells 1) (gI y.cells 2) (gI y.cells 3) (gB z.cells 0) (gI z.cells 1) (gI z.cells 2) (gI z.cells 3)=q0v y z:=rfl
 rw[e]
 unfold misY
 cases q0v y z<;>simp
def qqc (pre:LA)(q:AV->Bool):Bool:=match pre.getLast? with
 |some x=>q x
 |none=>false
def q3r (pre:LA)(y:AV):Int:=
 bif !qoj y then 3 else bif !mayB y then 1 else bif qqc pre (fun x=>decide (cmpY x y>0))then 7 else bif qqc pre (fun x=>samP x y)then 12 else bif pre.any (qbj y)then 24 else 0
def chkR:List AV->List AV->Int
 |_,[]=>0
 |pre,y::r=>bif q3r pre y != 0 then q3r pre y else chkR (pre++[y]) r
def qtl (l:LA):Int:=bif decide ((l.length:Int)>512)then 9 else chkR [] l
theorem qbqf {pre:LA}{y:AV}:q3r pre y=0↔qoj y=true/\mayB y=true/\qqc pre (fun x=>decide (cmpY x y>0))=false/\qqc pre (fun x=>samP x y)=false/\pre.any (qbj y)=false:=by
 unfold q3r
 cases qoj y<;>cases mayB y<;>cases qqc pre (fun x=>decide (cmpY x y>0))<;>cases qqc pre (fun x=>samP x y)<;>cases pre.any (qbj y)<;>simp
theorem q67 {α:Type}{l:List α}{i:Nat}(h:i+1<=l.length):(l.take (i+1)).getLast? =l[i]?:=by
 rw[List.getLast?_eq_getElem?]
 have:(l.take (i+1)).length=i+1:=by simp;omega
 rw[this,List.getElem?_take]
 simp
theorem qbwv {α:Type}{l r:List α}{a:α}{i:Nat}(h:l.drop i=a::r):l.length-(a::r).length=i/\l.length-r.length=i+1:=by
 have h1:=congrArg List.length h
 have h2:i<l.length:=by
  rcases Nat.lt_or_ge i l.length with h3|h3
  · exact h3
  · rw[List.drop_of_length_le h3]at h;cases h
 simp at h1⊢
 omega
theorem qb1x {α:Type}{l:List α}{i:Nat}{a:α}(h:l[i]?=some a):l.take (i+1)=l.take i++[a]:=by
 rw[List.take_add_one,h];rfl
theorem qb1y (l:LA)(hl:qq l):qzs l=some (qtl l):=by
 rw[qbku];unfold qpr qtl
 by_cases hlen:(l.length:Int)>512
 · simp[hlen]
 · simp only[hlen,decide_false,cond_f]
   rw[q81,qf8 l hl.1 (fun n i=>qgu l (fun _=>some 0) n i) (fun i nx=>qgt l i nx fun _=>some 0) (fun _ _=>rfl) (fun r=>some (chkR (l.take (l.length-r.length)) r))]
   · simp
   · intro nx;simp[qgt,chkR]
   · intro i y r nx h1 h2 h3 h4 h5
     have hy:=hl.2 y (List.mem_of_getElem? h2)
     have h6:(i:Int)<(l.length:Int):=by omega
     obtain⟨e1,e2⟩:=qbwv h1
     rw[e1]
     have inner:qs1 l (i:Int) (fun _=>nx (IntKind.i64.wrap ((i:Int)+1))) FU 0=bif(l.take i).any (qbj y)then some 24 else nx ((i+1:Nat):Int):=by
      have hti:(l.take i).length=i:=by simp;omega
      rw[q80,qf8 (l.take i) (by have:=hl.1;omega) (qgs l (i:Int) fun _=>nx (IntKind.i64.wrap ((i:Int)+1))) (fun k nx'=>qgr l (i:Int) k nx' fun _=>nx (IntKind.i64.wrap ((i:Int)+1))) (fun _ _=>rfl) (fun r=>bif r.any (qbj y)then some 24 else nx ((i+1:Nat):Int))]
      · intro nx'
        unfold qgr
        rw[hti]
        simp[h4]
      · intro k z r nx' g1 g2 g3 g4 g5
        have g6:(k:Int)<(i:Int):=by omega
        have g7:l[k]?=some z:=by rw[List.getElem?_take]at g2;split at g2;exact g2;cases g2
        have hz:=hl.2 z (List.mem_of_getElem? g7)
        unfold qgr
        simp only[g6,decide_true,cond_t,ixB_nat,h2,g7,oB_s,hy.1,hz.1,qbwq y z hy,g4,g5,List.any_cons]
        cases qbj y z<;>simp
     unfold qgt chkR
     simp only[h6,decide_true,cond_t,ixB_nat,h2,oB_s,hy.1,qxe,qb4w y hy,inner,h5]
     rw[show l.take i++[y]=l.take (l.length-r.length) by rw[e2];exact(qb1x h2).symm]
     rw[show qcx (gB y.cells 0) (gI y.cells 1) (gI y.cells 2) (gI y.cells 3)=qoj y from rfl]
     have fin:(bif(l.take i).any (qbj y)then some (24:Int)else some (chkR (l.take (l.length-r.length)) r))=some (bif((bif(l.take i).any (qbj y)then(24:Int)else 0) != 0)then(bif(l.take i).any (qbj y)then(24:Int)else 0)else chkR (l.take (l.length-r.length)) r):=by
      cases(l.take i).any (qbj y)<;>simp
     unfold q3r
     cases qoj y with
     |false=>simp
     |true=>
      cases mayB y with
      |false=>simp
      |true=>
       simp only[Bool.not_true,cond_f,q8x,qkm,q8z,qkn]
       cases i with
       |zero=>
        have e0:∀q,qqc (l.take 0) q=false:=fun q=>by simp[qqc]
        simp only[e0,cond_f,Int.natCast_zero,Int.lt_irrefl,gt_iff_lt,decide_false]
        exact fin
       |succ i=>
        have hpos:((i+1:Nat):Int)>0:=by omega
        have hw:IntKind.i64.wrap (((i+1:Nat):Int)-1)=(i:Int):=by rw[w64 (by omega) (by have:=hl.1;omega)];omega
        obtain⟨x,hx⟩:∃x,l[i]?=some x:=⟨l[i],by simp⟩
        have hxf:=hl.2 x (List.mem_of_getElem? hx)
        have e0:∀q,qqc (l.take (i+1)) q=q x:=fun q=>by unfold qqc;rw[q67 (by omega),hx]
        simp only[hpos,decide_true,cond_t,hw,ixB_nat,hx,h2,oB_s,hxf.1,hy.1,qb1w,e0]
        rw[show cmpP (gB x.cells 0) (gI x.cells 1) (gI x.cells 2) (gI x.cells 3) (gB y.cells 0) (gI y.cells 1) (gI y.cells 2) (gI y.cells 3)=cmpY x y from rfl]
        rw[show((gB x.cells 0==gB y.cells 0)&&((gI x.cells 1==gI y.cells 1)&&((gI x.cells 2==gI y.cells 2)&&((gI x.cells 3==gI y.cells 3)&&true))))=samP x y from rfl]
        cases decide (cmpY x y>0)with
        |true=>simp
        |false=>
         cases samP x y with
         |true=>simp
         |false=>
          simp only[cond_f]
          exact fin
theorem qbtj:∀(r pre:LA),chkR pre r=0↔∀(i:Nat) (y:AV),r[i]?=some y->q3r (pre++r.take i) y=0
 |[],pre=>by simp[chkR]
 |y::r,pre=>by
  unfold chkR
  by_cases he:q3r pre y=0
  · have he2:(q3r pre y != 0)=false:=by simpa using he
    rw[he2,cond_f,qbtj r (pre++[y])]
    constructor
    · intro h i z hz
      cases i with
      |zero=>simp at hz;subst hz;simpa using he
      |succ i=>
       have:=h i z (by simpa using hz)
       simpa using this
    · intro h i z hz
      have:=h (i+1) z (by simpa using hz)
      simpa using this
  · have he2:(q3r pre y != 0)=true:=by simpa using he
    rw[he2,cond_t]
    constructor
    · intro h;exact absurd h he
    · intro h;exact absurd (by simpa using h 0 y rfl) he
theorem qbtk {l:LA}(hlen:l.length<=512):qtl l=0↔qc1 l:=by
 unfold qtl
 have h0:¬(l.length:Int)>512:=by omega
 simp only[h0,decide_false,cond_f]
 rw[qbtj]
 simp only[List.nil_append]
 have hs:∀x y:AV,(cmpY x y>0\/samP x y=true)↔¬ltY x y:=fun x y=>by
  obtain⟨_,_,s3⟩:=qo2 x y
  rw[qbc9,<-s3]
  omega
 constructor
 · intro h j y hy
   obtain⟨h1,h2,h3,h4,h5⟩:=qbqf.1 (h j y hy)
   have hjl:j<l.length:=(List.getElem?_eq_some_iff.1 hy).1
   refine⟨h1,h2,fun i z hj hz=> ?_,fun k z hk hz=> ?_⟩
   · subst hj
     unfold qqc at h3 h4
     rw[q67 (by omega),hz]at h3 h4
     simp only[decide_eq_false_iff_not]at h3
     apply Classical.byContradiction
     intro hn
     rcases(hs z y).2 hn with h|h
     · exact h3 h
     · have h4':samP z y=false:=h4
       rw[h]at h4';cases h4'
   · rw[List.any_eq_false]at h5
     have:=h5 z (List.mem_of_getElem? (i:=k) (by rw[List.getElem?_take,if_pos hk];exact hz))
     simpa using this
 · intro h j y hy
   have hr:=h j y hy
   have hjl:j<l.length:=(List.getElem?_eq_some_iff.1 hy).1
   refine qbqf.2 ⟨hr.p,hr.may,?_,?_,?_⟩
   · cases j with
     |zero=>simp[qqc]
     |succ i=>
      obtain⟨x,hx⟩:∃x,l[i]?=some x:=⟨l[i],by simp⟩
      unfold qqc
      rw[q67 (by omega),hx]
      simp only[decide_eq_false_iff_not]
      exact fun hc=>(hs x y).1 (.inl hc) (hr.lt i x rfl hx)
   · cases j with
     |zero=>simp[qqc]
     |succ i=>
      obtain⟨x,hx⟩:∃x,l[i]?=some x:=⟨l[i],by simp⟩
      unfold qqc
      rw[q67 (by omega),hx]
      simp only
      rw[Bool.eq_false_iff]
      exact fun hc=>(hs x y).1 (.inr hc) (hr.lt i x rfl hx)
   · rw[List.any_eq_false]
     intro z hz
     obtain⟨k,hk⟩:=List.getElem?_of_mem hz
     rw[List.getElem?_take]at hk
     split at hk
     · rename_i hkj
       have:=hr.bar k z hkj hk
       simp[this]
     · cases hk
def mkB (b0:Bool)(b1 b2 b3 b4:Int)(b5 b6:LU)(b7:Int):AV:=.agg [(.bool b0),(.int .u64 b1),(.int .u64 b2),(.int .i64 b3),(.int .i64 b4),(.str b5),(.str b6),(.int .i64 b7)]
def mkP (b0:Bool)(b1 b2 b3:Int):AV:=.agg [(.bool b0),(.int .u64 b1),(.int .u64 b2),(.int .i64 b3)]
theorem qb8b {cs:LA}(h:fitC qb cs=true):cs=(mkB (gB cs 0) (gI cs 1) (gI cs 2) (gI cs 3) (gI cs 4) (gS cs 5) (gS cs 6) (gI cs 7)).cells:=by
 have:=qug (ls:=qb) (by decide) h
 exact this.symm
theorem qnn {y:AV}(h:fitC qb y.cells=true):mkB (gB y.cells 0) (gI y.cells 1) (gI y.cells 2) (gI y.cells 3) (gI y.cells 4) (gS y.cells 5) (gS y.cells 6) (gI y.cells 7)=y:=by
 have h1:=qb8b h
 cases y with
 |agg cs=>
  simp only[AV.cells]at h1⊢
  unfold mkB at h1⊢
  simp only[AV.cells]at h1
  rw[<-h1]
 |_=>
  have h2:=congrArg List.length h1
  simp[AV.cells,mkB]at h2
theorem qb1z {y:AV}(h:fitC qb y.cells=true):blkV y=y:=qnn h
def occF (l:LA)(v:Bool)(hi lo bits:Int):Bool:=l.any fun y=>qea (gB y.cells 0) (gI y.cells 1) (gI y.cells 2) (gI y.cells 3) v hi lo bits
theorem qbfq {R:Type}(l:LA)(hl:qq l)(a0:Bool)(a1:Int)(a2:Int)(a3:Int)(kr:Int->Bool->Int->Int->Int->Option R)(q:AV->Bool)(hq:∀y,qkf y->∀kr:Bool->Bool->Int->Int->Int->Option R,quv (gB y.cells 0) (gI y.cells 1) (gI y.cells 2) (gI y.cells 3) (gI y.cells 4) (gS y.cells 5) (gS y.cells 6) (gI y.cells 7) a0 a1 a2 a3 kr=kr (q y) a0 a1 a2 a3):
 qcg l a0 a1 a2 a3 kr=kr (idxI q l) a0 a1 a2 a3:=by
 rw[qhu];unfold qbp
 rw[qgh]
 have key:=qch l hl.1 (fun n i (s:Bool×Int×Int×Int)=>qx l (l.length:Int) (fun c0 c1 c2 c3=>kr (-1:Int) c0 c1 c2 c3) kr n i s.1 s.2.1 s.2.2.1 s.2.2.2)
  (fun i s nx=>qw l (l.length:Int) i s.1 s.2.1 s.2.2.1 s.2.2.2 (fun i c0 c1 c2 c3=>nx i (c0,c1,c2,c3)) (fun c0 c1 c2 c3=>kr (-1:Int) c0 c1 c2 c3) kr) (fun _ _ _=>rfl)
  (fun i s=>s=(a0,a1,a2,a3)) (fun r s=>kr (match idxO q r with|some k=>((l.length-r.length+k:Nat):Int)|none=> -1) a0 a1 a2 a3) ?_ ?_ (a0,a1,a2,a3) FU rfl (qcp (by have:=hl.1;omega))
 · refine key.trans ?_
   unfold idxI
   cases idxO q l<;>simp
 · intro s nx hs
   subst hs
   simp[qw,idxO]
 · rintro i y r _ nx h1 h2 h3 h4 rfl h5
   have hy:=hl.2 y (List.mem_of_getElem? h2)
   have h6:(i:Int)<(l.length:Int):=by omega
   have hr:r.length=l.length-(i+1):=by
    have:=congrArg List.length h1
    simp at this
    omega
   unfold qw
   simp only[h6,decide_true,cond_t,ixB_nat,h2,oB_s,hy.1,hq y hy,h4]
   unfold idxO
   cases hqq:q y with
   |true=>
    simp only[cond_t,if_true]
    congr 1
    simp
    omega
   |false=>
    simp only[cond_f,Bool.false_eq_true,if_false]
    rw[h5 _ rfl]
    cases idxO q r with
    |none=>rfl
    |some k=>
     simp
     congr 1
     omega
theorem qbqg (l:LA)(hl:qq l)(v:Bool)(hi lo bits:Int):qrm l v hi lo bits=some (occF l v hi lo bits):=by
 rw[qbfz];unfold qnq
 rw[qgj];unfold qbk
 rw[qbfq l hl _ _ _ _ _ (fun y=>qea (gB y.cells 0) (gI y.cells 1) (gI y.cells 2) (gI y.cells 3) v hi lo bits),qtk]
 · rfl
 · intro z hz kr
   rw[qbay];unfold qlk
   simp only[qbwu,oB_s]
theorem qbqh (v6:Bool)(hi lo bits:Int)(w6:Bool)(whi wlo wbits:Int)(u1:uok hi)(u2:uok lo):qk3 v6 hi lo bits w6 whi wlo wbits=some (qea v6 hi lo bits w6 whi wlo wbits):=by
 rw[q8v];unfold qqq qea
 simp only[q1s _ _ _ _ _ _ _ _ u1 u2,oB_s]
 rw[Bool.and_comm]
theorem qb3j (l:LA)(hl:qq l)(v:Bool)(hi lo bits:Int):qzu l v hi lo bits=some (occF l v hi lo bits):=by
 rw[qbk3];unfold qp0
 rw[qbbv,qf8 l hl.1 (qh6 l v hi lo bits fun _=>some false) (fun i nx=>qh5 l i v hi lo bits nx fun _=>some false) (fun _ _=>rfl) (fun r=>some (occF r v hi lo bits))]
 · intro nx;simp[qh5,occF]
 · intro i y r nx h1 h2 h3 h4 h5
   have hy:=hl.2 y (List.mem_of_getElem? h2)
   have h6:(i:Int)<(l.length:Int):=by omega
   unfold qh5
   simp only[h6,decide_true,cond_t,ixB_nat,h2,oB_s,hy.1,qbqh _ _ _ _ _ _ _ _ hy.2.1 hy.2.2.1,h4,h5]
   unfold occF
   rw[List.any_cons]
   cases qea (gB y.cells 0) (gI y.cells 1) (gI y.cells 2) (gI y.cells 3) v hi lo bits<;>simp
def insF (b:AV):List AV->List AV
 |[]=>[b]
 |y::r=>bif decide (cmpY y b>0)then b::y::r else y::insF b r
theorem q1u (b y:AV)(r:LA):insF b (y::r)=bif decide (cmpY y b>0)then b::y::r else y::insF b r:=rfl
theorem qbdb (b:AV):∀l,(insF b l).length=l.length+1
 |[]=>rfl
 |y::r=>by unfold insF;cases decide (cmpY y b>0)<;>simp[qbdb b r]
theorem qqd {b y:AV}:∀{l:LA},y∈insF b l↔y=b\/y∈l
 |[]=>by simp[insF]
 |z::r=>by
  unfold insF
  cases decide (cmpY z b>0)
  · simp only[cond_f,List.mem_cons,qqd (l:=r)]
    constructor
    · rintro(h|h|h)
      · exact .inr (.inl h)
      · exact .inl h
      · exact .inr (.inr h)
    · rintro(h|h|h)
      · exact .inr (.inl h)
      · exact .inl h
      · exact .inr (.inr h)
  · simp
theorem qbww (b:AV):∀l,insF b l=l.take ((idxO (fun y=>decide (cmpY y b>0)) l).getD l.length)++[b]++l.drop ((idxO (fun y=>decide (cmpY y b>0)) l).getD l.length)
 |[]=>rfl
 |y::r=>by
  unfold insF idxO
  have ih:=qbww b r
  cases h:decide (cmpY y b>0)with
  |true=>simp
  |false=>
   simp only[cond_f,Bool.false_eq_true,if_false]
   rw[ih]
   cases idxO (fun y=>decide (cmpY y b>0)) r<;>simp
theorem qble {R:Type}(l:LA)(hl:qq l)(a0:Bool)(a1:Int)(a2:Int)(a3:Int)(a4:Int)(a5:LU)(a6:LU)(a7:Int)(kr:Int->Bool->Int->Int->Int->Int->List UInt8->List UInt8->Int->Option R)(q:AV->Bool)(hq:∀y,qkf y->∀kr:Bool->Bool->Int->Int->Int->Int->List UInt8->List UInt8->Int->Option R,qxn (gB y.cells 0) (gI y.cells 1) (gI y.cells 2) (gI y.cells 3) (gI y.cells 4) (gS y.cells 5) (gS y.cells 6) (gI y.cells 7) a0 a1 a2 a3 a4 a5 a6 a7 kr=kr (q y) a0 a1 a2 a3 a4 a5 a6 a7):
 qcj l a0 a1 a2 a3 a4 a5 a6 a7 kr=kr (idxI q l) a0 a1 a2 a3 a4 a5 a6 a7:=by
 rw[qid];unfold qbu
 rw[qhh]
 have key:=qch l hl.1 (fun n i (s:Bool×Int×Int×Int×Int×(List UInt8)×(List UInt8)×Int)=>qz l (l.length:Int) (fun c0 c1 c2 c3 c4 c5 c6 c7=>kr (-1:Int) c0 c1 c2 c3 c4 c5 c6 c7) kr n i s.1 s.2.1 s.2.2.1 s.2.2.2.1 s.2.2.2.2.1 s.2.2.2.2.2.1 s.2.2.2.2.2.2.1 s.2.2.2.2.2.2.2)
  (fun i s nx=>qy l (l.length:Int) i s.1 s.2.1 s.2.2.1 s.2.2.2.1 s.2.2.2.2.1 s.2.2.2.2.2.1 s.2.2.2.2.2.2.1 s.2.2.2.2.2.2.2 (fun i c0 c1 c2 c3 c4 c5 c6 c7=>nx i (c0,c1,c2,c3,c4,c5,c6,c7)) (fun c0 c1 c2 c3 c4 c5 c6 c7=>kr (-1:Int) c0 c1 c2 c3 c4 c5 c6 c7) kr) (fun _ _ _=>rfl)
  (fun i s=>s=(a0,a1,a2,a3,a4,a5,a6,a7)) (fun r s=>kr (match idxO q r with|some k=>((l.length-r.length+k:Nat):Int)|none=> -1) a0 a1 a2 a3 a4 a5 a6 a7) ?_ ?_ (a0,a1,a2,a3,a4,a5,a6,a7) FU rfl (qcp (by have:=hl.1;omega))
 · refine key.trans ?_
   unfold idxI
   cases idxO q l<;>simp
 · intro s nx hs
   subst hs
   simp[qy,idxO]
 · rintro i y r _ nx h1 h2 h3 h4 rfl h5
   have hy:=hl.2 y (List.mem_of_getElem? h2)
   have h6:(i:Int)<(l.length:Int):=by omega
   have hr:r.length=l.length-(i+1):=by
    have:=congrArg List.length h1
    simp at this
    omega
   unfold qy
   simp only[h6,decide_true,cond_t,ixB_nat,h2,oB_s,hy.1,hq y hy,h4]
   unfold idxO
   cases hqq:q y with
   |true=>
    simp only[cond_t,if_true]
    congr 1
    simp
    omega
   |false=>
    simp only[cond_f,Bool.false_eq_true,if_false]
    rw[h5 _ rfl]
    cases idxO q r with
    |none=>rfl
    |some k=>
     simp
     congr 1
     omega
theorem qb3k (l:LA)(hl:qq l)(hn:l.length<=100000)(b0:Bool)(b1 b2 b3 b4:Int)(b5 b6:LU)(b7:Int):q16 l b0 b1 b2 b3 b4 b5 b6 b7=some (insF (mkB b0 b1 b2 b3 b4 b5 b6 b7) l):=by
 rw[qbma];unfold qrn
 rw[qble l hl _ _ _ _ _ _ _ _ _ (fun y=>decide (cmpY y (mkB b0 b1 b2 b3 b4 b5 b6 b7)>0))]
 · have hc:qt l=some l:=by
    unfold qt q1o
    have:l.length*80<=140737488355328:=by omega
    simp[this]
   rw[qbd2];unfold qmf
   have fin:∀k:Nat,k<=l.length->qow 80 l (k:Int) [mkB b0 b1 b2 b3 b4 b5 b6 b7]=some (l.take k++[mkB b0 b1 b2 b3 b4 b5 b6 b7]++l.drop k):=fun k hk=>by
    unfold qow
    have:(l.length+1)*80<=140737488355328:=by omega
    simp[hk,this]
   show(bif decide (idxI (fun y=>decide (cmpY y (mkB b0 b1 b2 b3 b4 b5 b6 b7)>0)) l<0)then(oB (qt l) fun r11=>(bif hd r11 r11.length then(bif hd [mkB b0 b1 b2 b3 b4 b5 b6 b7] ([mkB b0 b1 b2 b3 b4 b5 b6 b7].length)then(oB (qow 80 r11 (l.length:Int) [mkB b0 b1 b2 b3 b4 b5 b6 b7]) fun r12=>(bif hd r12 r12.length then(some r12)else none))else none)else none))else(oB (qt l) fun r11=>(bif hd r11 r11.length then(bif hd [mkB b0 b1 b2 b3 b4 b5 b6 b7] ([mkB b0 b1 b2 b3 b4 b5 b6 b7].length)then(oB (qow 80 r11 (idxI (fun y=>decide (cmpY y (mkB b0 b1 b2 b3 b4 b5 b6 b7)>0)) l) [mkB b0 b1 b2 b3 b4 b5 b6 b7]) fun r12=>(bif hd r12 r12.length then(some r12)else none))else none)else none)))=_
   rw[qbww,hc]
   unfold idxI
   cases hq:idxO (fun y=>decide (cmpY y (mkB b0 b1 b2 b3 b4 b5 b6 b7)>0)) l with
   |none=>
    simp only[oB_s,hd_self,cond_t,Option.getD_none]
    rw[fin l.length (Nat.le_refl _)]
    simp
   |some k=>
    obtain⟨y,hy,_⟩:=qnh l k hq
    have hk:=(List.getElem?_eq_some_iff.1 hy).1
    have h0:¬((k:Int)<0):=by omega
    simp only[oB_s,hd_self,cond_t,h0,decide_false,cond_f,Option.getD_some]
    rw[fin k (by omega)]
    simp
 · intro z hz kr
   rw[qbf1];unfold qnr
   simp only[qb69,oB_s]
   rfl
theorem q5o {R:Type}{a:LA}(x:AV)(h:(a.length+1)*80<=140737488355328)(k:Option R):(bif decide ((a.length+([x]:List AV).length)*80<=140737488355328)then k else none)=k:=by
 rw[show([x]:List AV).length=1 from rfl,decide_eq_true h];rfl
theorem qb50 (l:LA)(d:Bool)(i:Nat)(b0:Bool)(b1 b2 b3 b4:Int)(b5 b6:LU)(b7:Int)(a:LA)(kn:Bool->List AV->Option (List AV)){y:AV}(hy:l[i]?=some y)(hf:fitC qb y.cells=true)(ha:(a.length+1)*80<=140737488355328):
 qwh l d (i:Int) b0 b1 b2 b3 b4 b5 b6 b7 a kn=bif(!d&&decide (cmpY y (mkB b0 b1 b2 b3 b4 b5 b6 b7)>0))then kn true (a++[mkB b0 b1 b2 b3 b4 b5 b6 b7])else kn d a:=by
 rw[qbe6];unfold qm3
 rw[qbe4];unfold qm2
 simp only[hd_self,Bool.and_self,cond_t,ixB_nat,hy,oB_s,hf,qb1w]
 rw[show decide (cmpP (gB y.cells 0) (gI y.cells 1) (gI y.cells 2) (gI y.cells 3) b0 b1 b2 b3>0)=decide (cmpY y (mkB b0 b1 b2 b3 b4 b5 b6 b7)>0)from rfl]
 rw[q5o _ ha]
 cases d<;>cases decide (cmpY y (mkB b0 b1 b2 b3 b4 b5 b6 b7)>0)<;>rfl
theorem qb3l (l:LA)(d:Bool)(i:Nat)(b0:Bool)(b1 b2 b3 b4:Int)(b5 b6:LU)(b7:Int)(a:LA)(nx:Bool->Int->List AV->Option (List AV))(kx:Bool->List AV->Option (List AV)){y:AV}(hy:l[i]?=some y)(hf:fitC qb y.cells=true)(hl:l.length<=100000)(ha:(a.length+2)*80<=140737488355328):
 qfx l d (i:Int) b0 b1 b2 b3 b4 b5 b6 b7 a nx kx=bif(!d&&decide (cmpY y (mkB b0 b1 b2 b3 b4 b5 b6 b7)>0))then nx true ((i+1:Nat):Int) (a++[mkB b0 b1 b2 b3 b4 b5 b6 b7]++[y])else nx d ((i+1:Nat):Int) (a++[y]):=by
 have hi:=(List.getElem?_eq_some_iff.1 hy).1
 have h6:(i:Int)<(l.length:Int):=by omega
 have h4:IntKind.i64.wrap ((i:Int)+1)=((i+1:Nat):Int):=w64 (by omega) (by omega)
 have hyy:=qnn hf
 unfold mkB at hyy
 unfold qfx
 rw[qb50 l d i b0 b1 b2 b3 b4 b5 b6 b7 a _ hy hf (by omega),decide_eq_true h6]
 simp only[cond_t,hd_self,Bool.and_self,ixB_nat,hy,oB_s,hf,h4,hyy]
 rw[q5o y (a:=a) (by omega),q5o y (a:=a++[mkB b0 b1 b2 b3 b4 b5 b6 b7]) (by simp;omega)]
theorem qb7a (l:LA)(hl:qq l)(hn:l.length<=100000)(b0:Bool)(b1 b2 b3 b4:Int)(b5 b6:LU)(b7:Int):q4v l b0 b1 b2 b3 b4 b5 b6 b7=some (insF (mkB b0 b1 b2 b3 b4 b5 b6 b7) l):=by
 rw[qbor];unfold qt8
 simp only[qqu,List.length_nil,Bool.and_self,cond_t]
 rw[qbe7]
 have fin:∀(kx:Bool->List AV->Option (List AV)),(∀d a,a.length<=200000->kx d a=some (bif d then a else a++[mkB b0 b1 b2 b3 b4 b5 b6 b7]))->
  qfy l b0 b1 b2 b3 b4 b5 b6 b7 kx FU false 0 []=some (insF (mkB b0 b1 b2 b3 b4 b5 b6 b7) l):=by
  intro kx hkx
  have key:=qch (σ:=Bool×List AV) l hl.1 (fun n i s=>qfy l b0 b1 b2 b3 b4 b5 b6 b7 kx n s.1 i s.2) (fun i s nx=>qfx l s.1 i b0 b1 b2 b3 b4 b5 b6 b7 s.2 (fun d i a=>nx i (d,a)) kx) (fun _ _ _=>rfl)
   (fun i s=>s.2.length<=2*i) (fun r s=>some (s.2++(bif s.1 then r else insF (mkB b0 b1 b2 b3 b4 b5 b6 b7) r))) ?_ ?_ (false,[]) FU (by simp) (qcp (by have:=hl.1;omega))
  · simpa using key
  · rintro⟨d,a⟩ nx hJ
    simp only at hJ⊢
    unfold qfx
    simp only[Int.lt_irrefl,decide_false,cond_f]
    rw[hkx d a (by omega)]
    cases d<;>simp[insF]
  · rintro i y r ⟨d,a⟩ nx h1 h2 h3 h4 hJ h5
    have hy:=hl.2 y (List.mem_of_getElem? h2)
    simp only at hJ⊢
    rw[qb3l l d i b0 b1 b2 b3 b4 b5 b6 b7 a _ kx h2 hy.1 hn (by omega)]
    have e1:=h5 (true,a++[mkB b0 b1 b2 b3 b4 b5 b6 b7]++[y]) (by simp;omega)
    have e2:=h5 (d,a++[y]) (by simp;omega)
    simp only at e1 e2
    rw[e1,e2]
    rw[q1u]
    cases d<;>cases decide (cmpY y (mkB b0 b1 b2 b3 b4 b5 b6 b7)>0)<;>simp
 refine fin _ fun d a ha=> ?_
 cases d
 · simp only[Bool.not_false,cond_t,hd_self,cond_f]
   rw[q5o _ (by omega)]
   rfl
 · simp
def remF (l:LA)(v:Bool)(hi lo bits:Int):List AV:=l.filter fun y=> !atP v hi lo bits y
theorem qbz7 (l:LA)(hl:qq l)(hn:l.length<=100000)(v:Bool)(hi lo bits:Int):qwj l v hi lo bits=some (remF l v hi lo bits):=by
 rw[qbfa];unfold qm4
 simp only[qqu,List.length_nil,Bool.and_self,cond_t]
 rw[q7q]
 have key:=qch (σ:=List AV) l hl.1 (fun n i s=>qf0 l v hi lo bits (fun a0q1=>bif hd a0q1 a0q1.length then some a0q1 else none) n i s) (fun i s nx=>qfz l i v hi lo bits s nx (fun a0q1=>bif hd a0q1 a0q1.length then some a0q1 else none)) (fun _ _ _=>rfl)
  (fun i s=>s.length<=i) (fun r s=>some (s++remF r v hi lo bits)) ?_ ?_ [] FU (by simp) (qcp (by have:=hl.1;omega))
 · simpa using key
 · intro a nx hJ;simp[qfz,remF]
 · intro i y r a nx h1 h2 h3 h4 hJ h5
   have hy:=hl.2 y (List.mem_of_getElem? h2)
   have h6:(i:Int)<(l.length:Int):=by omega
   have hyy:=qnn hy.1
   unfold mkB at hyy
   have g1:(a.length+1)*80<=140737488355328:=by omega
   unfold qfz
   simp only[h6,decide_true,cond_t,hd_self,ixB_nat,h2,oB_s,hy.1,h4,hyy,List.length_cons,List.length_nil,Nat.zero_add,g1]
   rw[show((gB y.cells 0==v)&&((gI y.cells 1==hi)&&((gI y.cells 2==lo)&&((gI y.cells 3==bits)&&true))))=atP v hi lo bits y from rfl]
   unfold remF
   cases hq:atP v hi lo bits y with
   |true=>
    simp only[Bool.not_true,cond_f]
    rw[h5 a (by omega)]
    simp[hq,remF]
   |false=>
    simp only[Bool.not_false,cond_t,hd_one]
    rw[h5 (a++[y]) (by simp;omega)]
    simp[hq,remF]
theorem qbqi {q:AV->Bool}:∀(l:LA) (k:Nat),idxO q l=some k->(∀(j:Nat) (y:AV),k<j->l[j]?=some y->q y=false)->l.take k++l.drop (k+1)=l.filter fun y=> !q y
 |[],k,h,_=>by simp[idxO]at h
 |y::r,k,h,hu=>by
  unfold idxO at h
  cases hq:q y with
  |true=>
   simp[hq]at h
   subst h
   simp only[List.take_zero,List.drop_succ_cons,List.drop_zero,List.nil_append]
   rw[List.filter_cons,hq]
   simp only[Bool.not_true,Bool.false_eq_true,if_false]
   refine(List.filter_eq_self.2 fun z hz=> ?_).symm
   obtain⟨j,hj⟩:=List.getElem?_of_mem hz
   rw[hu (j+1) z (by omega) (by simpa using hj)];rfl
  |false=>
   simp[hq]at h
   obtain⟨k',h1,rfl⟩:=h
   have ih:=qbqi r k' h1 (fun j z hj hz=>hu (j+1) z (by omega) (by simpa using hz))
   rw[List.filter_cons,hq]
   simp only[Bool.not_false,if_true,List.take_succ_cons,List.drop_succ_cons,List.cons_append]
   rw[ih]
theorem qc1.uniq {l:LA}(h:qc1 l){v:Bool}{hi lo bits:Int}{i j:Nat}{y z:AV}(hy:l[i]?=some y)(hz:l[j]?=some z)(h1:atP v hi lo bits y=true)(h2:atP v hi lo bits z=true):i=j:=by
 have key:∀{i j:Nat} {y z:AV},l[i]?=some y->l[j]?=some z->atP v hi lo bits y=true->atP v hi lo bits z=true->¬i<j:=fun hy hz h1 h2 hij=>by
  have:=h.sorted _ _ hy _ _ hij hz
  obtain⟨a,b,c,d⟩:=qmb.1 h1
  obtain⟨a',b',c',d'⟩:=qmb.1 h2
  unfold ltY at this
  rw[a,b,c,d,a',b',c',d']at this
  exact qfn this
 have a:=key hy hz h1 h2
 have b:=key hz hy h2 h1
 omega
theorem qb10 (l:LA)(hn:l.length<=100000)(k:Nat)(hk:k<l.length):qtv l (k:Int)=some (l.take k++l.drop (k+1)):=by
 rw[qbjz];unfold qo9
 have hc:qt l=some l:=by
  unfold qt q1o
  have:l.length*80<=140737488355328:=by omega
  simp[this]
 have hw:IntKind.i64.wrap ((k:Int)+1)=((k+1:Nat):Int):=w64 (by omega) (by omega)
 have hd':qxd l (k:Int) ((k+1:Nat):Int)=some (l.take k++l.drop (k+1)):=by
  unfold qxd
  have:((0:Int)<=(k:Int)/\(k:Int)<((k+1:Nat):Int)/\((k+1:Nat):Int)<=(l.length:Int)/\l.length<=9223372036854775807):=⟨by omega,by omega,by omega,by omega⟩
  simp only[this,and_self,decide_true,cond_t,Int.toNat_natCast]
 simp only[hc,oB_s,hd_self,cond_t,hw,hd']
theorem qbz8 (l:LA)(hn:l.length<=100000)(ht:qc1 l){v:Bool}{hi lo bits:Int}{k:Nat}(hk:idxO (atP v hi lo bits) l=some k):qtv l (k:Int)=some (remF l v hi lo bits):=by
 obtain⟨y,hy,hf⟩:=qnh l k hk
 rw[qb10 l hn k (List.getElem?_eq_some_iff.1 hy).1]
 congr 1
 have hq:=List.find?_some hf
 refine qbqi l k hk fun j z hj hz=> ?_
 rw[Bool.eq_false_iff]
 intro h2
 have:=ht.uniq hy hz hq h2
 omega
def qb8 (l:LA)(v:Bool)(hi lo bits:Int):List AV×Int:=
 bif !(l.any (atP v hi lo bits))then([],11)else bif occF l v hi lo bits then([],25)else(remF l v hi lo bits,0)
theorem qb51 (q:AV->Bool)(l:LA):decide (idxI q l<0)= !(l.any q):=by
 rw[<-qtk,Bool.eq_iff_iff]
 simp
theorem qb52 {q:AV->Bool}{l:LA}(h:l.any q=true):∃k,idxO q l=some k/\idxI q l=(k:Int):=by
 rw[<-qtk]at h
 unfold idxI at*
 cases hq:idxO q l with
 |none=>rw[hq]at h;simp at h
 |some k=>exact⟨k,rfl,rfl⟩
theorem qb3m (l:LA)(hl:qq l)(hn:l.length<=100000)(ht:qc1 l)(v:Bool)(hi lo bits:Int):q17 l v hi lo bits=some (qb8 l v hi lo bits):=by
 rw[qbmd];unfold qro qb8
 simp only[qbnr l hl,oB_s,qbqg l hl,qb51]
 cases ha:l.any (atP v hi lo bits)with
 |false=>rfl
 |true=>
  obtain⟨k,h1,h2⟩:=qb52 ha
  simp only[Bool.not_true,cond_f]
  cases occF l v hi lo bits with
  |true=>rfl
  |false=>
   simp only[cond_f,h2,qbz8 l hn ht h1,oB_s]
theorem qbtl (l:LA)(v:Bool)(hi lo bits:Int):(qsl l v hi lo bits).2=l.any (atP v hi lo bits):=by
 unfold qsl
 cases hf:l.find? (atP v hi lo bits)with
 |none=>
  simp only
  symm
  rw[List.any_eq_false]
  intro y hy
  simpa using List.find?_eq_none.1 hf y hy
 |some y=>
  simp only
  symm
  rw[List.any_eq_true]
  exact⟨y,List.mem_of_find?_eq_some hf,List.find?_some hf⟩
theorem qb11 (l:LA)(hl:qq l)(hn:l.length<=100000)(v:Bool)(hi lo bits:Int):qya l v hi lo bits=some (qb8 l v hi lo bits):=by
 rw[qbhd];unfold qn9 qb8
 simp only[qbjd l hl,oB_s,qb3j l hl,qbtl,qbz7 l hl hn]
 cases l.any (atP v hi lo bits)<;>simp<;>cases occF l v hi lo bits<;>simp
def addF (l:LA)(b:AV):List AV×Int:=
 bif !qoj b then([],3)else bif !mayB b then([],1)else bif l.any (atP (gB b.cells 0) (gI b.cells 1) (gI b.cells 2) (gI b.cells 3))then([],12)else
 bif l.any (qbj b)||occF l (gB b.cells 0) (gI b.cells 1) (gI b.cells 2) (gI b.cells 3)then([],24)else bif decide ((l.length:Int)>=512)then([],9)else(insF b l,0)
theorem qc1.may {l:LA}(ht:qc1 l){y:AV}(hy:y∈l):mayB y=true:=by
 obtain⟨j,hj⟩:=List.getElem?_of_mem hy
 exact(ht j y hj).may
theorem qc1.mis {l:LA}(ht:qc1 l)(b:AV):l.any (misY b)=l.any (qbj b):=by
 rw[Bool.eq_iff_iff,List.any_eq_true,List.any_eq_true]
 constructor<;>(rintro⟨z,hz,hb⟩;refine⟨z,hz,?_⟩;simpa[qb5z (ht.may hz)]using hb)
theorem qb4x (l:LA)(hl:qq l)(hn:l.length<=100000)(ht:qc1 l)(b0:Bool)(b1 b2 b3 b4:Int)(b5 b6:LU)(b7:Int)(hb:qkf (mkB b0 b1 b2 b3 b4 b5 b6 b7)):q3e l b0 b1 b2 b3 b4 b5 b6 b7=some (addF l (mkB b0 b1 b2 b3 b4 b5 b6 b7)):=by
 have h1:qxm b0 b1 b2 b3 b4 b5 b6 b7=some (qbqe (mkB b0 b1 b2 b3 b4 b5 b6 b7)):=qb5y (mkB b0 b1 b2 b3 b4 b5 b6 b7) hb
 have h2:qo6 l b0 b1 b2 b3 b4 b5 b6 b7=some (l.any (misY (mkB b0 b1 b2 b3 b4 b5 b6 b7))):=qbx9 l hl (mkB b0 b1 b2 b3 b4 b5 b6 b7)
 rw[qbt8];unfold qxo addF
 simp only[h1,oB_s,qbjy,qo8,h2,qbnr l hl,qtk,qbqg l hl,qb3k l hl hn,ht.mis]
 rw[show(gB (mkB b0 b1 b2 b3 b4 b5 b6 b7).cells 0)=b0 from rfl,show(gI (mkB b0 b1 b2 b3 b4 b5 b6 b7).cells 1)=b1 from rfl,show(gI (mkB b0 b1 b2 b3 b4 b5 b6 b7).cells 2)=b2 from rfl,show(gI (mkB b0 b1 b2 b3 b4 b5 b6 b7).cells 3)=b3 from rfl]
 unfold qbqe
 cases qoj (mkB b0 b1 b2 b3 b4 b5 b6 b7)with
 |false=>rfl
 |true=>
  cases mayB (mkB b0 b1 b2 b3 b4 b5 b6 b7)with
  |false=>rfl
  |true=>
   simp only[Bool.not_true,cond_f,bne_self_eq_false]
   cases l.any (atP b0 b1 b2 b3)<;>cases l.any (qbj (mkB b0 b1 b2 b3 b4 b5 b6 b7))<;>cases occF l b0 b1 b2 b3<;>cases decide ((l.length:Int)>=512)<;>rfl
theorem qbwx (l:LA)(hl:qq l)(hn:l.length<=100000)(b0:Bool)(b1 b2 b3 b4:Int)(b5 b6:LU)(b7:Int)(hb:qkf (mkB b0 b1 b2 b3 b4 b5 b6 b7)):qx9 l b0 b1 b2 b3 b4 b5 b6 b7=some (addF l (mkB b0 b1 b2 b3 b4 b5 b6 b7)):=by
 have h1:qs0 b0 b1 b2 b3 b4 b5 b6 b7=some (mayB (mkB b0 b1 b2 b3 b4 b5 b6 b7)):=qb4w (mkB b0 b1 b2 b3 b4 b5 b6 b7) hb
 have h2:∀z,qmt b0 b1 b2 b3 b4 b5 b6 b7 (gB z.cells 0) (gI z.cells 1) (gI z.cells 2) (gI z.cells 3) (gI z.cells 4) (gS z.cells 5) (gS z.cells 6) (gI z.cells 7)=some (qbj (mkB b0 b1 b2 b3 b4 b5 b6 b7) z):=fun z=>qbwq (mkB b0 b1 b2 b3 b4 b5 b6 b7) z hb
 rw[qbos];unfold qt9 addF
 have lp:∀kx:Unit->Option (List AV×Int),qwi l b0 b1 b2 b3 b4 b5 b6 b7 kx FU 0=bif l.any (fun z=>qbj (mkB b0 b1 b2 b3 b4 b5 b6 b7) z||qea (gB z.cells 0) (gI z.cells 1) (gI z.cells 2) (gI z.cells 3) b0 b1 b2 b3)then some ([],24)else kx ():=by
  intro kx
  rw[qbe8,qf8 l hl.1 (qi9 l b0 b1 b2 b3 b4 b5 b6 b7 kx) (fun i nx=>qi8 l i b0 b1 b2 b3 b4 b5 b6 b7 nx kx) (fun _ _=>rfl) (fun r=>bif r.any (fun z=>qbj (mkB b0 b1 b2 b3 b4 b5 b6 b7) z||qea (gB z.cells 0) (gI z.cells 1) (gI z.cells 2) (gI z.cells 3) b0 b1 b2 b3)then some ([],24)else kx ())]
  · intro nx;simp[qi8]
  · intro i y r nx g1 g2 g3 g4 g5
    have hy:=hl.2 y (List.mem_of_getElem? g2)
    have g6:(i:Int)<(l.length:Int):=by omega
    unfold qi8
    simp only[g6,decide_true,cond_t,ixB_nat,g2,oB_s,hy.1,h2,qbqh _ _ _ _ _ _ _ _ hy.2.1 hy.2.2.1,g4,g5,List.any_cons]
    cases qbj (mkB b0 b1 b2 b3 b4 b5 b6 b7) y<;>cases qea (gB y.cells 0) (gI y.cells 1) (gI y.cells 2) (gI y.cells 3) b0 b1 b2 b3<;>simp
 simp only[qxe,oB_s,h1,qbjd l hl,qbtl,lp,qb7a l hl hn]
 rw[show(gB (mkB b0 b1 b2 b3 b4 b5 b6 b7).cells 0)=b0 from rfl,show(gI (mkB b0 b1 b2 b3 b4 b5 b6 b7).cells 1)=b1 from rfl,show(gI (mkB b0 b1 b2 b3 b4 b5 b6 b7).cells 2)=b2 from rfl,show(gI (mkB b0 b1 b2 b3 b4 b5 b6 b7).cells 3)=b3 from rfl]
 rw[show qoj (mkB b0 b1 b2 b3 b4 b5 b6 b7)=qcx b0 b1 b2 b3 from rfl]
 have ho:l.any (fun z=>qbj (mkB b0 b1 b2 b3 b4 b5 b6 b7) z||qea (gB z.cells 0) (gI z.cells 1) (gI z.cells 2) (gI z.cells 3) b0 b1 b2 b3)=(l.any (qbj (mkB b0 b1 b2 b3 b4 b5 b6 b7))||occF l b0 b1 b2 b3):=by
  unfold occF
  clear hl hn lp
  induction l with
  |nil=>rfl
  |cons y r ih=>simp only[List.any_cons,ih];cases qbj (mkB b0 b1 b2 b3 b4 b5 b6 b7) y<;>cases qea (gB y.cells 0) (gI y.cells 1) (gI y.cells 2) (gI y.cells 3) b0 b1 b2 b3<;>simp
 rw[ho]
 cases qcx b0 b1 b2 b3<;>simp only[Bool.not_true,Bool.not_false,cond_t,cond_f]
 cases mayB (mkB b0 b1 b2 b3 b4 b5 b6 b7)<;>simp only[Bool.not_true,Bool.not_false,cond_t,cond_f]
 cases l.any (atP b0 b1 b2 b3)<;>simp only[cond_t,cond_f]
 cases(l.any (qbj (mkB b0 b1 b2 b3 b4 b5 b6 b7))||occF l b0 b1 b2 b3)<;>simp only[cond_t,cond_f]
 cases decide ((l.length:Int)>=512)<;>rfl
theorem qbwy {x:Int}(h:uok x):qbg .or .u64 x 0=x:=by
 have:=qbip h (y:=0) ⟨by omega,by omega⟩ (q0u h)
 omega
def shl1 (p:Int×Int):Int×Int:=(IntKind.u64.wrap (IntKind.u64.wrap (p.1*2)+IntKind.u64.wrap (p.2.tdiv 9223372036854775808)),IntKind.u64.wrap (p.2*2))
def shlN:Nat->Int×Int->Int×Int
 |0,p=>p
 |n+1,p=>shlN n (shl1 p)
theorem qbtm:∀n,shlN n (0,0)=(0,0)
 |0=>rfl
 |n+1=>by unfold shlN;rw[show shl1 (0,0)=(0,0) by decide];exact qbtm n
theorem qbr5:∀n:Fin 64,shlN n (0,1)=(0,((2^n.val:Nat):Int)):=by decide+kernel
theorem qbns:∀n:Fin 64,shlN (n.val+64) (0,1)=(((2^n.val:Nat):Int),0):=by decide+kernel
theorem qb53:∀n:Fin 128,(0<=(shlN n (0,1)).1/\(shlN n (0,1)).1<=18446744073709551615)/\(0<=(shlN n (0,1)).2/\(shlN n (0,1)).2<=18446744073709551615):=by decide+kernel
theorem qb54 {n:Nat}(h:n<128):numP (shlN n (0,1)).1 (shlN n (0,1)).2=2^n:=by
 unfold numP
 rcases Nat.lt_or_ge n 64 with h1|h1
 · rw[qbr5 ⟨n,h1⟩]
   show(0:Int).toNat*18446744073709551616+(((2^n:Nat):Int)).toNat=2^n
   rw[Int.toNat_natCast]
   simp
 · obtain⟨j,rfl⟩:∃j,n=j+64:=⟨n-64,by omega⟩
   rw[qbns ⟨j,by omega⟩,Nat.pow_add,qbc7]
   show(((2^j:Nat):Int)).toNat*18446744073709551616+(0:Int).toNat=_
   rw[Int.toNat_natCast]
   simp
theorem qb3n (n:Int)(v:Bool)(hi lo bits:Int)(c0:Bool)(c1 c2 c3:Int)(kx:Int->Int->Option (AV×Bool)):∀(k:Nat) (p:Int×Int) (i:Int),-1000<=i->(qi v-i).toNat=k->
 ∀m,k<m->qeh n v hi lo bits c0 c1 c2 c3 kx m p.1 p.2 i=kx (shlN k p).1 (shlN k p).2:=by
 intro k
 have hl:=qfb v
 induction k with
 |zero=>
  intro p i h0 hk m hm
  obtain⟨m,rfl⟩:∃j,m=j+1:=⟨m-1,by omega⟩
  have:¬i<qi v:=by omega
  simp only[qeh,qlw,qbio,oB_s,this,decide_false,cond_f]
  rfl
 |succ k ih=>
  intro p i h0 hk m hm
  obtain⟨m,rfl⟩:∃j,m=j+1:=⟨m-1,by omega⟩
  have:i<qi v:=by omega
  have hw:IntKind.i64.wrap (i+1)=i+1:=w64 (by omega) (by omega)
  simp only[qeh,qlw,qbio,oB_s,this,decide_true,cond_t,hw]
  exact ih (shl1 p) (i+1) (by omega) (by omega) m (by omega)
def qok:AV:=mkP false 0 0 0
def qkg (v:Bool)(hi lo bits n:Int):Bool:=qcx v hi lo bits&&(decide (bits<=n)&&decide (n<=qi v))
theorem qbit {v:Bool}{hi lo bits n:Int}(h:qkg v hi lo bits n=true):qcx v hi lo bits=true/\0<=bits/\bits<=n/\n<=qi v/\n<=128:=by
 unfold qkg at h
 simp only[Bool.and_eq_true,decide_eq_true_eq]at h
 have h1:=qd9 h.1
 have:=qfb v
 exact⟨h.1,h1.1,h.2.1,h.2.2,by omega⟩
theorem qb3o {v:Bool}{hi lo bits n i:Int}(c0:Bool)(c1 c2 c3:Int)(kn:Bool->Option (AV×Bool)):qwl n i v hi lo bits c0 c1 c2 c3 kn=kn (!qkg v hi lo bits n):=by
 rw[qbff];unfold qm6 qkg
 simp only[qxe,qbio,oB_s]
 have e1:decide (n<bits)= !decide (bits<=n):=by rw[Bool.eq_iff_iff];simp
 have e2:decide (n>qi v)= !decide (n<=qi v):=by rw[Bool.eq_iff_iff];simp
 rw[e1,e2]
 cases qcx v hi lo bits<;>cases decide (bits<=n)<;>rfl
theorem qby2 {v:Bool}{hi lo bits n i:Int}:qho v hi lo bits n i=some (bif !qkg v hi lo bits n then(qok,false)else bif decide (i>(qdj (n-bits).toNat).2)then(qok,false)else
 (mkP v (IntKind.u64.wrap (hi+(shlN (qi v-n).toNat (0,i)).1)) (IntKind.u64.wrap (lo+(shlN (qi v-n).toNat (0,i)).2)) n,true)):=by
 rw[qbm7];unfold qsd
 rw[qb3o]
 cases hp:qkg v hi lo bits n with
 |false=>rfl
 |true=>
  obtain⟨h1,h2,h3,h4,h5⟩:=qbit hp
  have hw:IntKind.i64.wrap (n-bits)=n-bits:=w64 (by omega) (by omega)
  have hm:(min (n-bits) 128).toNat=(n-bits).toNat:=by congr 1;omega
  simp only[Bool.not_true,cond_f,hw,qbwo,oB_s,hm]
  rw[qbby]
  rw[qb3n n v hi lo bits false 0 0 0 _ _ (0,i) n (by omega) rfl FU (qcp (by have:=qfb v;omega))]
  cases decide (i>(qdj (n-bits).toNat).2)<;>rfl
theorem qbdc {v:Bool}{hi lo bits n:Int}(u1:uok hi)(u2:uok lo):qho v hi lo bits n 0=some (bif qkg v hi lo bits n then(mkP v hi lo n,true)else(qok,false)):=by
 rw[qby2]
 cases hp:qkg v hi lo bits n with
 |false=>rfl
 |true=>
  obtain⟨h1,h2,h3,h4,h5⟩:=qbit hp
  have h6:=(qb3h ⟨(n-bits).toNat,by omega⟩).2.1
  have h7:¬(0:Int)>(qdj (n-bits).toNat).2:=by simp only at h6;omega
  rw[qbtm]
  simp only[Bool.not_true,cond_f,h7,decide_false,Int.add_zero,cond_t]
  rw[wu64 u1.1 u1.2,wu64 u2.1 u2.2]
theorem qbwz {v:Bool}{hi lo bits n i:Int}(c0:Bool)(c1 c2 c3:Int)(kn:Bool->Option (AV×Bool)):qzn n i v hi lo bits c0 c1 c2 c3 kn=kn (!qkg v hi lo bits n):=by
 rw[qbj8];unfold qpc qkg
 simp only[q5n,q5m,oB_s]
 have e1:decide (n<bits)= !decide (bits<=n):=by rw[Bool.eq_iff_iff];simp
 have e2:decide (n>qi v)= !decide (n<=qi v):=by rw[Bool.eq_iff_iff];simp
 rw[e1,e2]
 cases qcx v hi lo bits<;>cases decide (bits<=n)<;>rfl
theorem qbdd {v:Bool}{hi lo bits n:Int}(u1:uok hi)(u2:uok lo):qed v hi lo bits n 0=some (bif qkg v hi lo bits n then(mkP v hi lo n,true)else(qok,false)):=by
 rw[q8i];unfold qqh
 rw[qbwz]
 cases hp:qkg v hi lo bits n with
 |false=>rfl
 |true=>
  obtain⟨h1,h2,h3,h4,h5⟩:=qbit hp
  have hw:IntKind.i64.wrap (n-bits)=n-bits:=w64 (by omega) (by omega)
  have hw2:IntKind.i64.wrap (qi v-n)=qi v-n:=w64 (by have:=qfb v;omega) (by have:=qfb v;omega)
  have hu:IntKind.u64.wrap (n-bits)=n-bits:=wu64 (by omega) (by omega)
  have hu2:IntKind.u64.wrap (qi v-n)=qi v-n:=wu64 (by omega) (by have:=qfb v;omega)
  have a0:¬n-bits<0:=by omega
  simp only[Bool.not_true,cond_f,cond_t,hw,q0y,qj2,hu,a0,decide_false,Int.zero_fdiv,bne_self_eq_false,q5m,oB_s,hw2,hu2]
  have fin:(bif decide (n-bits<64)then qmg n 0 (qi v-n) 0 0 v hi lo bits false 0 0 0 (fun a b=>some (mkP v (qbg .or .u64 hi a) (qbg .or .u64 lo b) n,true))else qmg n 0 (qi v-n) 0 0 v hi lo bits false 0 0 0 (fun a b=>some (mkP v (qbg .or .u64 hi a) (qbg .or .u64 lo b) n,true)))=some (mkP v hi lo n,true):=by
   have e:qmg n 0 (qi v-n) 0 0 v hi lo bits false 0 0 0 (fun a b=>some (mkP v (qbg .or .u64 hi a) (qbg .or .u64 lo b) n,true))=some (mkP v hi lo n,true):=by
    rw[q0z];unfold qj3
    have q0:IntKind.u64.wrap 0=0:=by decide
    have hnn:∀x,¬IntKind.u64.wrap x<0:=fun x=>by
     have:0<=IntKind.u64.wrap x:=by simp[IntKind.wrap,IntKind.signed];omega
     omega
    have a1:¬qi v-n<0:=by omega
    simp only[Int.zero_mul,Int.zero_fdiv,q0,hnn,a1,decide_false,cond_f,qbwy u1,qbwy u2]
    cases decide (qi v-n>=64)<;>cases decide (qi v-n>0)<;>rfl
   rw[e];cases decide (n-bits<64)<;>rfl
  exact fin
def qkh (v:Bool)(hi lo bits:Int):Bool:=qcx v hi lo bits&&decide (bits<qi v)
def bitP (v:Bool)(bits:Int):Int×Int:=shlN (qi v-bits-1).toNat (0,1)
def lowP (v:Bool)(hi lo bits:Int):AV:=mkP v hi lo (bits+1)
def qyv (v:Bool)(hi lo bits:Int):AV:=mkP v (qbg .or .u64 hi (bitP v bits).1) (qbg .or .u64 lo (bitP v bits).2) (bits+1)
def qqz (v:Bool)(hi lo bits:Int):AV×AV×Bool:=bif qkh v hi lo bits then(lowP v hi lo bits,qyv v hi lo bits,true)else(qok,qok,false)
theorem q1v {v:Bool}{hi lo bits:Int}(h:qkh v hi lo bits=true):qcx v hi lo bits=true/\0<=bits/\bits<qi v/\bits<128:=by
 unfold qkh at h
 simp only[Bool.and_eq_true,decide_eq_true_eq]at h
 have:=qfb v
 exact⟨h.1,(qd9 h.1).1,h.2,by omega⟩
theorem qbw0 {v:Bool}{bits:Int}(h0:0<=bits)(h:bits<qi v):uok (bitP v bits).1/\uok (bitP v bits).2:=by
 have:=qfb v
 exact qb53 ⟨(qi v-bits-1).toNat,by omega⟩
theorem qbiu {v:Bool}{hi lo bits:Int}:qkg v hi lo bits (IntKind.i64.wrap (bits+1))=qkh v hi lo bits:=by
 unfold qkg qkh
 cases hp:qcx v hi lo bits with
 |false=>rfl
 |true=>
  obtain⟨h1,h2,_⟩:=qd9 hp
  have:=qfb v
  rw[w64 (by omega) (by omega)]
  simp only[Bool.true_and]
  have:bits<=bits+1:=by omega
  simp[this]
  omega
theorem qbw1 {v:Bool}{hi lo bits:Int}(h:qkh v hi lo bits=true)(u1:uok hi)(u2:uok lo):qbg .and .u64 hi (bitP v bits).1=0/\qbg .and .u64 lo (bitP v bits).2=0:=by
 obtain⟨h1,h2,h3,h4⟩:=q1v h
 obtain⟨_,_,_,h5⟩:=(qyu u1 u2).1 h1
 have hl:=qfb v
 obtain⟨k,hk⟩:∃k,kOf v bits=k+1:=⟨(qi v-bits-1).toNat,by unfold kOf;omega⟩
 have hk2:(qi v-bits-1).toNat=k:=by unfold kOf at hk;omega
 have hk3:k<128:=by omega
 unfold bitP
 rw[hk2]
 rw[hk]at h5
 obtain⟨a1,a2⟩:=u1
 obtain⟨b1,b2⟩:=u2
 have mask:∀{x:Int} (j:Nat),uok x->j<64->x.toNat%2^(j+1)=0->qbg .and .u64 x ((2^j:Nat):Int)=0:=by
  intro x j hx hj hm
  have hp:(2:Nat)^j<2^64:=Nat.pow_lt_pow_right (by decide) hj
  have h0:0<(2:Nat)^j:=Nat.two_pow_pos j
  rw[qban]
  have e1:=qyt hx
  have e2:=qyt (x:=((2^j:Nat):Int)) ⟨by omega,by rw[qbc7]at hp;omega⟩
  rw[BitVec.toNat_and]
  have e3:(BitVec.ofInt 64 x).toNat=x.toNat:=by omega
  have e4:(BitVec.ofInt 64 ((2^j:Nat):Int)).toNat=2^j:=by omega
  rw[e3,e4]
  have:x.toNat.testBit j=false:=by
   rw[Nat.testBit_eq_decide_div_mod_eq]
   have h6:x.toNat / 2^j%2=0:=by
    rw[Nat.pow_succ,]at hm
    have:=Nat.mod_mul_right_div_self x.toNat (2^j) 2
    rw[hm]at this
    simpa using this.symm
   simp[h6]
  have h7:x.toNat&&& 2^j=0:=by
   refine Nat.eq_of_testBit_eq fun i=> ?_
   rw[Nat.testBit_and,Nat.testBit_two_pow]
   by_cases hij:j=i
   · subst hij;simp[this]
   · simp[hij]
  rw[h7];rfl
 rcases Nat.lt_or_ge k 64 with h6|h6
 · rw[qbr5 ⟨k,h6⟩]
   refine⟨q0u ⟨a1,a2⟩,mask k ⟨b1,b2⟩ h6 ?_⟩
   have:=qbis hi.toNat lo.toNat (k+1) (by omega)
   unfold numP at h5
   omega
 · obtain⟨j,rfl⟩:∃j,k=j+64:=⟨k-64,by omega⟩
   rw[qbns ⟨j,by omega⟩]
   refine⟨mask j ⟨a1,a2⟩ (by omega) ?_,q0u ⟨b1,b2⟩⟩
   have:=qbr3 hi.toNat lo.toNat (j+1) (by omega)
   unfold numP at h5
   rw[show j+64+1=j+1+64 by omega,this]at h5
   revert h5
   generalize hi.toNat%2^(j+1)=q
   omega
theorem qbtn (v:Bool)(hi lo bits:Int)(u1:uok hi)(u2:uok lo):qse v hi lo bits=some (qqz v hi lo bits):=by
 rw[qbhg];unfold qob qqz
 rw[qbdc u1 u2,qby2,qbiu]
 cases hh:qkh v hi lo bits with
 |false=>rfl
 |true=>
  obtain⟨h1,h2,h3,h4⟩:=q1v hh
  have hw:IntKind.i64.wrap (bits+1)=bits+1:=w64 (by omega) (by omega)
  rw[hw]
  have e1:(bits+1-bits).toNat=1:=by omega
  have e2:(qi v-(bits+1)).toNat=(qi v-bits-1).toNat:=by omega
  have e3:decide ((1:Int)>(qdj 1).2)=false:=by decide
  obtain⟨o1,o2⟩:=qbw0 h2 h3
  obtain⟨f1,f2⟩:=qbw1 hh u1 u2
  simp only[Bool.not_true,cond_f,cond_t,oB_s,e1,e3,e2]
  rw[show shlN (qi v-bits-1).toNat (0,1)=bitP v bits from rfl]
  rw[qbip u1 o1 f1,qbip u2 o2 f2,wu64 (qbao _ _).1 (qbao _ _).2,wu64 (qbao _ _).1 (qbao _ _).2]
  rfl
theorem qb3p {v:Bool}{hi lo bits:Int}(h:qkh v hi lo bits=true):qed v hi lo bits (bits+1) 1=some (qyv v hi lo bits,true):=by
 obtain⟨h1,h2,h3,h4⟩:=q1v h
 have hw0:IntKind.i64.wrap (bits+1)=bits+1:=w64 (by omega) (by omega)
 have hp:=qbiu (v:=v) (hi:=hi) (lo:=lo) (bits:=bits)
 rw[hw0,h]at hp
 rw[q8i];unfold qqh
 rw[qbwz,hp]
 have hl:=qfb v
 have e1:IntKind.i64.wrap (bits+1-bits)=1:=by rw[w64 (by omega) (by omega)];omega
 have e2:IntKind.i64.wrap (qi v-(bits+1))=qi v-bits-1:=by rw[w64 (by omega) (by omega)];omega
 have e3:IntKind.u64.wrap (qi v-bits-1)=qi v-bits-1:=wu64 (by omega) (by omega)
 simp only[Bool.not_true,cond_f,e1,q0y,qj2,q5m,oB_s,e2,e3]
 rw[show decide ((1:Int)<64)=true by decide,show decide (IntKind.u64.wrap 1<0)=false by decide,show((1:Int).fdiv (2^min (IntKind.u64.wrap 1).toNat IntKind.u64.bits) != 0)=false by decide]
 simp only[cond_t,cond_f]
 rw[q0z];unfold qj3
 obtain⟨k,hk⟩:∃k:Nat,qi v-bits-1=k:=⟨(qi v-bits-1).toNat,by omega⟩
 have hk3:k<128:=by omega
 unfold qyv bitP
 rw[hk,Int.toNat_natCast]
 rcases Nat.lt_or_ge k 64 with h6|h6
 · have a1:¬(k:Int)>=64:=by omega
   rw[qbr5 ⟨k,h6⟩]
   simp only[a1,decide_false,cond_f]
   by_cases hk0:k=0
   · subst hk0;rfl
   · have a2:(k:Int)>0:=by omega
     have a3:¬(k:Int)<0:=by omega
     have fin:∀j:Fin 64,j.val≠0->¬IntKind.u64.wrap (64-(j.val:Int))<0/\(1:Int).fdiv (2^min (IntKind.u64.wrap (64-(j.val:Int))).toNat IntKind.u64.bits)=0/\IntKind.u64.wrap (1*2^min j.val IntKind.u64.bits)=((2^j.val:Nat):Int):=by decide+kernel
     obtain⟨f1,f2,f3⟩:=fin ⟨k,h6⟩ hk0
     simp only at f1 f2 f3
     simp only[a2,decide_true,cond_t,a3,decide_false,cond_f,f1,f2,f3]
     rfl
 · obtain⟨j,rfl⟩:∃j,k=j+64:=⟨k-64,by omega⟩
   have a1:((j+64:Nat):Int)>=64:=by omega
   rw[qbns ⟨j,by omega⟩]
   have fin:∀j:Fin 64,¬IntKind.u64.wrap (((j.val+64:Nat):Int)-64)<0/\IntKind.u64.wrap (1*2^min (IntKind.u64.wrap (((j.val+64:Nat):Int)-64)).toNat IntKind.u64.bits)=((2^j.val:Nat):Int):=by decide+kernel
   obtain⟨f1,f2⟩:=fin ⟨j,by omega⟩
   simp only at f1 f2
   simp only[a1,decide_true,cond_t,f1,f2,decide_false,cond_f]
   rfl
theorem qbto (v:Bool)(hi lo bits:Int)(u1:uok hi)(u2:uok lo):qjz v hi lo bits=some (qqz v hi lo bits):=by
 rw[qbmh];unfold qrs qqz
 rw[qbdd u1 u2,qbiu]
 simp only[qbd4,qmh,q5n,oB_s]
 cases hh:qkh v hi lo bits with
 |false=>rfl
 |true=>
  obtain⟨h1,h2,h3,h4⟩:=q1v hh
  have hw:IntKind.i64.wrap (bits+1)=bits+1:=w64 (by omega) (by omega)
  simp only[cond_t,Bool.not_true,cond_f,h1,hw,qb3p hh,oB_s]
  rfl
theorem qb3q {v:Bool}{hi lo bits:Int}(h:qkh v hi lo bits=true)(u1:uok hi)(u2:uok lo):
 numP (qbg .or .u64 hi (bitP v bits).1) (qbg .or .u64 lo (bitP v bits).2)=numP hi lo+2^kOf v (bits+1):=by
 obtain⟨h1,h2,h3,h4⟩:=q1v h
 obtain⟨o1,o2⟩:=qbw0 h2 h3
 obtain⟨f1,f2⟩:=qbw1 h u1 u2
 have hl:=qfb v
 have hk:kOf v (bits+1)=(qi v-bits-1).toNat:=by unfold kOf;congr 1;omega
 rw[<-qbip u1 o1 f1,<-qbip u2 o2 f2,hk,<-qb54 (n:=(qi v-bits-1).toNat) (by omega)]
 unfold bitP at o1 o2⊢
 unfold numP
 obtain⟨a1,a2⟩:=u1
 obtain⟨b1,b2⟩:=u2
 obtain⟨c1,c2⟩:=o1
 obtain⟨d1,d2⟩:=o2
 rw[Int.toNat_add a1 c1,Int.toNat_add b1 d1]
 omega
def mkA (b0:Bool)(b1 b2:Int):AV:=.agg [(.bool b0),(.int .u64 b1),(.int .u64 b2)]
def qol (q:AV->Bool):Option AV->List AV->Option AV
 |b,[]=>b
 |b,y::r=>qol q (bif q y&&(match b with|none=>true|some x=>decide (gI y.cells 3>gI x.cells 3))then some y else b) r
def outC:Option AV->AV×Bool
 |some y=>(y,true)
 |none=>(blk0,false)
def qwq (q:AV->Bool)(l:LA):AV×Bool:=outC (qol q none l)
theorem qb3r (l:LA)(hl:qq l)(v:Bool)(ahi alo:Int):q18 l v ahi alo=some (qwq (fun y=>qgb (gB y.cells 0) (gI y.cells 1) (gI y.cells 2) (gI y.cells 3) v ahi alo) l):=by
 rw[qbme];unfold qrp
 rw[qux];unfold qdz
 rw[qq3]
 have key:∀kx:Bool->Bool->Int->Int->Int->Int->List UInt8->List UInt8->Int->Bool->Int->Int->Bool->Int->Int->Int->Int->List UInt8->List UInt8->Int->Bool->Int->Int->Int->Int->List UInt8->List UInt8->Int->Option (AV×Bool),(∀(e:Bool) (a0:Bool) (a1 a2 a3 a4:Int) (a5 a6:LU) (a7:Int) (b0:Bool) (b1 b2:Int) (c0:Bool) (c1 c2 c3 c4:Int) (c5 c6:LU) (c7:Int) (d0:Bool) (d1 d2 d3 d4:Int) (d5 d6:LU) (d7:Int),kx e a0 a1 a2 a3 a4 a5 a6 a7 b0 b1 b2 c0 c1 c2 c3 c4 c5 c6 c7 d0 d1 d2 d3 d4 d5 d6 d7=some (mkB d0 d1 d2 d3 d4 d5 d6 d7,e))->
  qb0 l (l.length:Int) kx FU false 0 false 0 0 0 0 [] [] 0 v ahi alo false 0 0 0 0 [] [] 0 false 0 0 0 0 [] [] 0=some (qwq (fun y=>qgb (gB y.cells 0) (gI y.cells 1) (gI y.cells 2) (gI y.cells 3) v ahi alo) l):=by
  intro kx hkx
  have key:=qch (σ:=Bool×AV×AV×AV×AV) l hl.1 (fun n i s=>qb0 l (l.length:Int) kx n s.1 i (gB s.2.1.cells 0) (gI s.2.1.cells 1) (gI s.2.1.cells 2) (gI s.2.1.cells 3) (gI s.2.1.cells 4) (gS s.2.1.cells 5) (gS s.2.1.cells 6) (gI s.2.1.cells 7) (gB s.2.2.1.cells 0) (gI s.2.2.1.cells 1) (gI s.2.2.1.cells 2) (gB s.2.2.2.1.cells 0) (gI s.2.2.2.1.cells 1) (gI s.2.2.2.1.cells 2) (gI s.2.2.2.1.cells 3) (gI s.2.2.2.1.cells 4) (gS s.2.2.2.1.cells 5) (gS s.2.2.2.1.cells 6) (gI s.2.2.2.1.cells 7) (gB s.2.2.2.2.cells 0) (gI s.2.2.2.2.cells 1) (gI s.2.2.2.2.cells 2) (gI s.2.2.2.2.cells 3) (gI s.2.2.2.2.cells 4) (gS s.2.2.2.2.cells 5) (gS s.2.2.2.2.cells 6) (gI s.2.2.2.2.cells 7)) (fun i s nx=>qb9 s.1 l (l.length:Int) i (gB s.2.1.cells 0) (gI s.2.1.cells 1) (gI s.2.1.cells 2) (gI s.2.1.cells 3) (gI s.2.1.cells 4) (gS s.2.1.cells 5) (gS s.2.1.cells 6) (gI s.2.1.cells 7) (gB s.2.2.1.cells 0) (gI s.2.2.1.cells 1) (gI s.2.2.1.cells 2) (gB s.2.2.2.1.cells 0) (gI s.2.2.2.1.cells 1) (gI s.2.2.2.1.cells 2) (gI s.2.2.2.1.cells 3) (gI s.2.2.2.1.cells 4) (gS s.2.2.2.1.cells 5) (gS s.2.2.2.1.cells 6) (gI s.2.2.2.1.cells 7) (gB s.2.2.2.2.cells 0) (gI s.2.2.2.2.cells 1) (gI s.2.2.2.2.cells 2) (gI s.2.2.2.2.cells 3) (gI s.2.2.2.2.cells 4) (gS s.2.2.2.2.cells 5) (gS s.2.2.2.2.cells 6) (gI s.2.2.2.2.cells 7) (fun e i a0 a1 a2 a3 a4 a5 a6 a7 b0 b1 b2 c0 c1 c2 c3 c4 c5 c6 c7 d0 d1 d2 d3 d4 d5 d6 d7=>nx i (e,mkB a0 a1 a2 a3 a4 a5 a6 a7,mkA b0 b1 b2,mkB c0 c1 c2 c3 c4 c5 c6 c7,mkB d0 d1 d2 d3 d4 d5 d6 d7)) kx) (fun _ _ _=>rfl)
   (fun i s=>s.2.1=blk0/\s.2.2.1=mkA v ahi alo/\s.2.2.2.1=blk0/\(s.1=false->s.2.2.2.2=blk0)/\(s.1=true->fitC qb s.2.2.2.2.cells=true)) (fun r s=>some (outC (qol (fun y=>qgb (gB y.cells 0) (gI y.cells 1) (gI y.cells 2) (gI y.cells 3) v ahi alo) (bif s.1 then some s.2.2.2.2 else none) r))) ?_ ?_ (false,blk0,mkA v ahi alo,blk0,blk0) FU ⟨rfl,rfl,rfl,fun _=>rfl,fun h=>by cases h⟩ (qcp (by have:=hl.1;omega))
  · exact key
  · rintro⟨e,s1,s2,s3,s4⟩ nx ⟨h1,h2,h3,h4,h5⟩
    simp only at h1 h2 h3 h4 h5
    subst h1 h2 h3
    unfold qb9
    simp only[Int.lt_irrefl,decide_false,cond_f,hkx]
    cases e with
    |false=>rw[h4 rfl];rfl
    |true=>rw[qnn (h5 rfl)];rfl
  · rintro i y r ⟨e,s1,s2,s3,s4⟩ nx g1 g2 g3 g4 ⟨h1,h2,h3,h4,h5⟩ hn
    simp only at h1 h2 h3 h4 h5
    subst h1 h2 h3
    have hy:=hl.2 y (List.mem_of_getElem? g2)
    have h6:(i:Int)<(l.length:Int):=by omega
    unfold qb9
    simp only[h6,decide_true,cond_t,ixB_nat,g2,oB_s,hy.1,g4,qq2,qc7,qbf5,qns,qblv]
    rw[qnn hy.1]
    have n1:=hn (true,blk0,mkA v ahi alo,blk0,y) ⟨rfl,rfl,rfl,fun h=>(by cases h),fun _=>hy.1⟩
    have n2:=hn (e,blk0,mkA v ahi alo,blk0,s4) ⟨rfl,rfl,rfl,h4,h5⟩
    have hs:mkB (gB s4.cells 0) (gI s4.cells 1) (gI s4.cells 2) (gI s4.cells 3) (gI s4.cells 4) (gS s4.cells 5) (gS s4.cells 6) (gI s4.cells 7)=s4:=by
     cases e with
     |false=>rw[h4 rfl];rfl
     |true=>exact qnn (h5 rfl)
    rw[hs]
    unfold qol
    show(bif qgb (gB y.cells 0) (gI y.cells 1) (gI y.cells 2) (gI y.cells 3) v ahi alo then _ else _)=_
    cases hq:qgb (gB y.cells 0) (gI y.cells 1) (gI y.cells 2) (gI y.cells 3) v ahi alo with
    |false=>exact n2
    |true=>
     cases e with
     |false=>exact n1
     |true=>
      simp only[cond_t,Bool.not_true,cond_f,Bool.true_and]
      cases hc:decide (gI y.cells 3>gI s4.cells 3)with
      |true=>exact n1
      |false=>exact n2
 exact key _ (fun _ _ _ _ _ _ _ _ _ _ _ _ _ _ _ _ _ _ _ _ _ _ _ _ _ _ _ _=>rfl)
theorem qb12 (l:LA)(hl:qq l)(v:Bool)(ahi alo:Int)(u1:uok ahi)(u2:uok alo):qx5 l v ahi alo=some (qwq (fun y=>qgb (gB y.cells 0) (gI y.cells 1) (gI y.cells 2) (gI y.cells 3) v ahi alo) l):=by
 rw[qbg5];unfold qn8
 rw[q9f]
 have key:∀kx:Int->Option (AV×Bool),(∀j:Int,kx j=(match(if j<0 then none else l[j.toNat]?)with|some y=>some (y,true)|none=>if j<0 then some (blk0,false)else none))->qey l v ahi alo false 0 0 0 0 [] [] 0 kx FU (-1) 0=some (qwq (fun y=>qgb (gB y.cells 0) (gI y.cells 1) (gI y.cells 2) (gI y.cells 3) v ahi alo) l):=by
  intro kx hkx
  have key:=qch (σ:=Int) l hl.1 (fun n i s=>qey l v ahi alo false 0 0 0 0 [] [] 0 kx n s i) (fun i s nx=>qgz l s i v ahi alo false 0 0 0 0 [] [] 0 (fun s i=>nx i s) kx) (fun _ _ _=>rfl)
   (fun i s=>s= -1\/∃(j:Nat) (x:AV),s=j/\l[j]?=some x) (fun r s=>some (outC (qol (fun y=>qgb (gB y.cells 0) (gI y.cells 1) (gI y.cells 2) (gI y.cells 3) v ahi alo) (bif decide (s<0)then none else l[s.toNat]?) r))) ?_ ?_ (-1) FU (.inl rfl) (qcp (by have:=hl.1;omega))
  · exact key
  · rintro s nx hJ
    unfold qgz
    simp only[Int.lt_irrefl,decide_false,cond_f,hkx]
    rcases hJ with rfl|⟨j,x,rfl,hx⟩
    · rfl
    · have h0:¬(j:Int)<0:=by omega
      simp only[h0,if_false,decide_false,cond_f,Int.toNat_natCast,hx]
      rfl
  · rintro i y r s nx g1 g2 g3 g4 hJ hn
    have hy:=hl.2 y (List.mem_of_getElem? g2)
    have h6:(i:Int)<(l.length:Int):=by omega
    have hi0:¬(i:Int)<0:=by omega
    have n1:=hn (i:Int) (.inr ⟨i,y,rfl,g2⟩)
    have n2:=hn s hJ
    simp only[hi0,decide_false,cond_f,Int.toNat_natCast,g2]at n1
    unfold qgz
    simp only[h6,decide_true,cond_t,ixB_nat,g2,oB_s,hy.1,g4,q7p,qjo,qblw _ _ _ _ _ _ _ u1 u2]
    rcases hJ with rfl|⟨j,x,rfl,hx⟩
    · have e1:decide ((-1:Int)<0)=true:=by decide
      simp only[e1,cond_t]at n2⊢
      unfold qol
      simp only[Bool.and_true]
      cases hq:qgb (gB y.cells 0) (gI y.cells 1) (gI y.cells 2) (gI y.cells 3) v ahi alo with
      |false=>exact n2
      |true=>exact n1
    · have h0:¬(j:Int)<0:=by omega
      have hxf:=hl.2 x (List.mem_of_getElem? hx)
      simp only[h0,decide_false,cond_f,Int.toNat_natCast,hx,ixB_nat,oB_s,hxf.1,cond_t]at n2⊢
      unfold qol
      cases hq:qgb (gB y.cells 0) (gI y.cells 1) (gI y.cells 2) (gI y.cells 3) v ahi alo with
      |false=>exact n2
      |true=>
       simp only[cond_t,Bool.true_and]
       cases decide (gI y.cells 3>gI x.cells 3)with
       |true=>exact n1
       |false=>exact n2
 refine key _ fun j=> ?_
 by_cases hj:j<0
 · simp only[hj,decide_true,cond_t,if_true];rfl
 · simp only[hj,decide_false,cond_f,if_false]
   have:ixB l j=l[j.toNat]?:=by unfold ixB;rw[if_pos (by omega)]
   rw[this]
   cases hx:l[j.toNat]? with
   |none=>rfl
   |some y=>
    have hy:=hl.2 y (List.mem_of_getElem? hx)
    simp only[oB_s,hy.1,cond_t]
    rw[show(AV.agg [(.bool (gB y.cells 0)),(.int .u64 (gI y.cells 1)),(.int .u64 (gI y.cells 2)),(.int .i64 (gI y.cells 3)),(.int .i64 (gI y.cells 4)),(.str (gS y.cells 5)),(.str (gS y.cells 6)),(.int .i64 (gI y.cells 7))])=y from qnn hy.1]
def qbjf (l:LA)(v:Bool)(hi lo bits:Int)(y:AV):Bool:=qea (gB y.cells 0) (gI y.cells 1) (gI y.cells 2) (gI y.cells 3) v hi lo bits&& !(l.any fun o=>qea (gB o.cells 0) (gI o.cells 1) (gI o.cells 2) (gI o.cells 3) v hi lo bits&&q0v y o)
def qyw (l:LA)(v:Bool)(hi lo bits:Int):List AV:=l.filter (qbjf l v hi lo bits)
theorem qbya (l:LA)(hl:qq l)(hn:l.length<=100000)(v:Bool)(hi lo bits:Int):qu0 l v hi lo bits=some (qyw l v hi lo bits):=by
 rw[qbbx];unfold qlv
 simp only[qqu,List.length_nil,Bool.and_self,cond_t]
 rw[q56]
 have key:=qch (σ:=List AV) l hl.1 (fun n i s=>qfi l v hi lo bits (fun a0q1=>bif hd a0q1 a0q1.length then some a0q1 else none) n i s) (fun i s nx=>qfh l i v hi lo bits s nx (fun a0q1=>bif hd a0q1 a0q1.length then some a0q1 else none)) (fun _ _ _=>rfl)
  (fun i s=>s.length<=i) (fun r s=>some (s++r.filter (qbjf l v hi lo bits))) ?_ ?_ [] FU (by simp) (qcp (by have:=hl.1;omega))
 · exact key
 · intro a nx h2;simp[qfh]
 · intro i y r a nx g1 g2 g3 g4 h2 h5
   have hy:=hl.2 y (List.mem_of_getElem? g2)
   have h6:(i:Int)<(l.length:Int):=by omega
   have n1:=h5 (a++[y]) (by simp;omega)
   have n2:=h5 a (by omega)
   have hyy:=qnn hy.1
   unfold mkB at hyy
   have inner:∀kx:Bool->Option (List AV),qos l (i:Int) v hi lo bits a kx FU true 0=kx (!(l.any fun o=>qea (gB o.cells 0) (gI o.cells 1) (gI o.cells 2) (gI o.cells 3) v hi lo bits&&q0v y o)):=by
    intro kx
    rw[q4x]
    have key:=qch (σ:=Bool) l hl.1 (fun n k s=>qe3 l (i:Int) v hi lo bits a kx n s k) (fun k s nx=>qe2 l (i:Int) s k v hi lo bits a (fun s k=>nx k s) kx) (fun _ _ _=>rfl)
     (fun _ _=>True) (fun r s=>kx (s&& !(r.any fun o=>qea (gB o.cells 0) (gI o.cells 1) (gI o.cells 2) (gI o.cells 3) v hi lo bits&&q0v y o))) ?_ ?_ true FU trivial (qcp (by have:=hl.1;omega))
    · exact key
    · intro s nx _;simp[qe2]
    · intro k z r s nx f1 f2 f3 f4 _ f5
      have hz:=hl.2 z (List.mem_of_getElem? f2)
      have f6:(k:Int)<(l.length:Int):=by omega
      unfold qe2
      simp only[f6,decide_true,cond_t,ixB_nat,f2,g2,oB_s,hz.1,hy.1,f4,qbqh _ _ _ _ _ _ _ _ hz.2.1 hz.2.2.1,qbqh _ _ _ _ _ _ _ _ hy.2.1 hy.2.2.1,f5 _ trivial]
      rw[show qea (gB y.cells 0) (gI y.cells 1) (gI y.cells 2) (gI y.cells 3) (gB z.cells 0) (gI z.cells 1) (gI z.cells 2) (gI z.cells 3)=q0v y z from rfl,List.any_cons]
      cases qea (gB z.cells 0) (gI z.cells 1) (gI z.cells 2) (gI z.cells 3) v hi lo bits<;>cases q0v y z<;>simp
   unfold qfh
   simp only[h6,decide_true,cond_t,ixB_nat,g2,oB_s,hy.1,g4,hd_self,Bool.and_self,qbqh _ _ _ _ _ _ _ _ hy.2.1 hy.2.2.1,inner,hyy]
   rw[q5o y (a:=a) (by omega),List.filter_cons,n2,n1]
   unfold qbjf
   cases qea (gB y.cells 0) (gI y.cells 1) (gI y.cells 2) (gI y.cells 3) v hi lo bits<;>cases(l.any fun o=>qea (gB o.cells 0) (gI o.cells 1) (gI o.cells 2) (gI o.cells 3) v hi lo bits&&q0v y o)<;>simp
theorem Np.sub_range {p q:Np}(hp:p.ok)(hq:q.ok):p.sub q↔p.v=q.v/\p.k<=q.k/\q.n<=p.n/\p.n<q.n+2^q.k:=by
 unfold Np.sub
 have h0:=Nat.two_pow_pos q.k
 have h1:=Nat.mod_lt p.n h0
 have h2:=Nat.mod_le p.n (2^q.k)
 constructor
 · rintro⟨a,b,c⟩;exact⟨a,b,by omega,by omega⟩
 · rintro⟨a,b,c,d⟩
   refine⟨a,b,?_⟩
   obtain⟨u,hu⟩:=Nat.dvd_of_mod_eq_zero hq
   have:p.n / 2^q.k=u:=by
    rw[Nat.div_eq_iff h0]
    rw[hu]at c d
    constructor
    · rw[Nat.mul_comm];omega
    · rw[Nat.mul_comm];omega
   have h3:=Nat.div_add_mod p.n (2^q.k)
   rw[this]at h3
   omega
def Np.low (p:Np):Np:=⟨p.v,p.n,p.k-1⟩
def Np.high (p:Np):Np:=⟨p.v,p.n+2^(p.k-1),p.k-1⟩
theorem qbnt {k:Nat}(h:0<k):2^k=2^(k-1)+2^(k-1):=by
 obtain⟨j,rfl⟩:∃j,k=j+1:=⟨k-1,by omega⟩
 rw[Nat.pow_succ];simp;omega
theorem Np.low_ok {p:Np}(hp:p.ok)(hk:0<p.k):p.low.ok:=by
 unfold Np.ok Np.low at*
 simp only
 have:2^(p.k-1) ∣ 2^p.k:=qbje (by omega)
 exact Nat.mod_eq_zero_of_dvd (Nat.dvd_trans this (Nat.dvd_of_mod_eq_zero hp))
theorem Np.high_ok {p:Np}(hp:p.ok)(hk:0<p.k):p.high.ok:=by
 have h1:=Np.low_ok hp hk
 unfold Np.ok Np.high Np.low at*
 simp only at*
 rw[Nat.add_mod_right];exact h1
theorem Np.low_sub {p:Np}(hp:p.ok)(hk:0<p.k):p.low.sub p:=by
 refine(Np.sub_range (Np.low_ok hp hk) hp).2 ⟨rfl,Nat.sub_le _ _,Nat.le_refl _,?_⟩
 have:=Nat.two_pow_pos p.k
 show p.n<_
 omega
theorem Np.high_sub {p:Np}(hp:p.ok)(hk:0<p.k):p.high.sub p:=by
 refine(Np.sub_range (Np.high_ok hp hk) hp).2 ⟨rfl,Nat.sub_le _ _,Nat.le_add_right _ _,?_⟩
 have:=qbnt hk
 have h0:=Nat.two_pow_pos (p.k-1)
 show p.n+2^(p.k-1)<_
 omega
theorem Np.not_both {p q:Np}(hp:p.ok)(hq:q.ok)(hp0:0<p.k)(h1:q.sub p.low)(h2:q.sub p.high):False:=by
 obtain⟨_,_,c,d⟩:=(Np.sub_range hq (Np.low_ok hp hp0)).1 h1
 obtain⟨_,_,c',d'⟩:=(Np.sub_range hq (Np.high_ok hp hp0)).1 h2
 simp only[Np.low,Np.high]at*
 omega
theorem Np.both {p q:Np}(hp:p.ok)(hq:q.ok)(hp0:0<p.k)(h1:p.low.sub q)(h2:p.high.sub q):p.sub q:=by
 have e:=qbnt hp0
 have hle:p.k-1<=q.k:=h1.2.1
 rcases Nat.lt_or_ge q.k p.k with hk|hk
 · exfalso
   have hqk:q.k=p.k-1:=by have:=h1.2.1;simp only[Np.low]at this;omega
   obtain⟨_,_,c,d⟩:=(Np.sub_range (Np.low_ok hp hp0) hq).1 h1
   obtain⟨_,_,c',d'⟩:=(Np.sub_range (Np.high_ok hp hp0) hq).1 h2
   simp only[Np.low,Np.high]at*
   rw[hqk]at d d'
   omega
 · exact Np.nest (Np.low_sub hp hp0) h1 hk
structure Pq where
 v:Bool
 hi:Int
 lo:Int
 bits:Int
def Pq.good (p:Pq):Prop:=qcx p.v p.hi p.lo p.bits=true/\uok p.hi/\uok p.lo
def Pq.np (p:Pq):Np:=⟨p.v,numP p.hi p.lo,kOf p.v p.bits⟩
def Pq.av (p:Pq):AV:=mkP p.v p.hi p.lo p.bits
def pqY (y:AV):Pq:=⟨gB y.cells 0,gI y.cells 1,gI y.cells 2,gI y.cells 3⟩
def winP (p q:Pq):Bool:=qjv p.v p.hi p.lo p.bits q.v q.hi q.lo q.bits
def ovP (p q:Pq):Bool:=winP p q||winP q p
theorem Pq.good.np_ok {p:Pq}(h:p.good):p.np.ok:=((qyu h.2.1 h.2.2).1 h.1).2.2.2
theorem Pq.good.range {p:Pq}(h:p.good):0<=p.bits/\p.bits<=qi p.v/\(p.np.k:Int)=qi p.v-p.bits/\p.np.k<=128:=by
 obtain⟨h1,h2,_⟩:=qd9 h.1
 have:=qfb p.v
 refine⟨h1,h2,?_,?_⟩
 · show((kOf p.v p.bits:Nat):Int)=_
   unfold kOf;omega
 · show kOf p.v p.bits<=128
   unfold kOf;omega
theorem qf9 {p q:Pq}(hp:p.good)(hq:q.good):winP p q=true↔p.np.sub q.np:=by
 unfold winP qjv Np.sub
 rw[hp.1]
 simp only[Bool.true_and,Bool.and_eq_true,decide_eq_true_eq]
 rw[qbth hq.2.1 hq.2.2 hp.2.1 hp.2.2]
 obtain⟨a1,a2,a3,_⟩:=hp.range
 obtain⟨b1,b2,b3,_⟩:=hq.range
 have ha:=(qd9 hp.1).2.2
 constructor
 · rintro⟨h1,h2,h3,h4,h5⟩
   refine⟨h4.symm,?_,h5.symm⟩
   rw[h4]at b3;omega
 · rintro⟨h1,h2,h3⟩
   refine⟨?_,hq.1,ha,h1.symm,h3.symm⟩
   have h1':p.v=q.v:=h1
   rw[h1']at a3;omega
theorem qb7b {p q:Pq}(hp:p.good)(hq:q.good)(h:p.np=q.np):p=q:=by
 obtain⟨a1,a2,a3,_⟩:=hp.range
 obtain⟨b1,b2,b3,_⟩:=hq.range
 have h1:p.v=q.v:=congrArg Np.v h
 have h2:numP p.hi p.lo=numP q.hi q.lo:=congrArg Np.n h
 obtain⟨h3,h4⟩:=qbwt hp.2.1 hp.2.2 hq.2.1 hq.2.2 h2
 have h5:p.bits=q.bits:=by rw[h,h1]at a3;omega
 cases p;cases q;simp only at*
 subst h1 h3 h4 h5;rfl
def Pq.low (p:Pq):Pq:=⟨p.v,p.hi,p.lo,p.bits+1⟩
def Pq.high (p:Pq):Pq:=⟨p.v,qbg .or .u64 p.hi (bitP p.v p.bits).1,qbg .or .u64 p.lo (bitP p.v p.bits).2,p.bits+1⟩
def Pq.half (p:Pq):Bool:=qkh p.v p.hi p.lo p.bits
theorem Pq.half_iff {p:Pq}(hp:p.good):p.half=true↔0<p.np.k:=by
 obtain⟨a1,a2,a3,_⟩:=hp.range
 unfold Pq.half qkh
 rw[hp.1]
 simp only[Bool.true_and,decide_eq_true_eq]
 omega
theorem Pq.low_np {p:Pq}(hp:p.good)(h:p.half=true):p.low.np=p.np.low:=by
 obtain⟨a1,a2,a3,_⟩:=hp.range
 have hk:=(Pq.half_iff hp).1 h
 have:kOf p.v (p.bits+1)=kOf p.v p.bits-1:=by unfold kOf;omega
 unfold Pq.np Pq.low Np.low
 simp only[this]
theorem Pq.high_np {p:Pq}(hp:p.good)(h:p.half=true):p.high.np=p.np.high:=by
 obtain⟨a1,a2,a3,_⟩:=hp.range
 have hk:=(Pq.half_iff hp).1 h
 have:kOf p.v (p.bits+1)=kOf p.v p.bits-1:=by unfold kOf;omega
 unfold Pq.np Pq.high Np.high
 simp only
 rw[qb3q h hp.2.1 hp.2.2,this]
theorem qbqj {v:Bool}{hi lo:Int}(u1:uok hi)(u2:uok lo):qev v hi lo=true↔(v=true\/numP hi lo<2^32):=by
 unfold qev numP
 obtain⟨a1,a2⟩:=u1
 obtain⟨b1,b2⟩:=u2
 cases v with
 |true=>simp
 |false=>
  have e:(2:Nat)^32=4294967296:=by decide
  rw[e]
  simp only[Bool.false_or,Bool.and_eq_true,beq_iff_eq,decide_eq_true_eq,Bool.false_eq_true,false_or]
  omega
theorem Pq.low_good {p:Pq}(hp:p.good)(h:p.half=true):p.low.good:=by
 have hk:=(Pq.half_iff hp).1 h
 obtain⟨a1,a2,a3,_⟩:=hp.range
 refine⟨(qyu hp.2.1 hp.2.2).2 ⟨(qd9 hp.1).2.2,by show 0<=p.bits+1;omega,by show p.bits+1<=qi p.v;omega,?_⟩,hp.2⟩
 have:=Np.low_ok hp.np_ok hk
 rw[<-Pq.low_np hp h]at this
 exact this
theorem Pq.high_good {p:Pq}(hp:p.good)(h:p.half=true):p.high.good:=by
 have hk:=(Pq.half_iff hp).1 h
 obtain⟨a1,a2,a3,a4⟩:=hp.range
 have u1:uok p.high.hi:=qbao _ _
 have u2:uok p.high.lo:=qbao _ _
 have hn:=Pq.high_np hp h
 refine⟨(qyu u1 u2).2 ⟨(qbqj u1 u2).2 ?_,by show 0<=p.bits+1;omega,by show p.bits+1<=qi p.v;omega,?_⟩,u1,u2⟩
 · rcases(qbqj hp.2.1 hp.2.2).1 (qd9 hp.1).2.2 with h1|h1
   · exact .inl h1
   · cases hv:p.v with
     |true=>exact .inl hv
     |false=>
      right
      have e:numP p.high.hi p.high.lo=p.np.n+2^(p.np.k-1):=congrArg Np.n hn
      rw[e]
      have hk32:p.np.k<=32:=by rw[hv]at a3;simp[qi]at a3;omega
      have hpo:=hp.np_ok
      have hlt:p.np.n<2^32:=h1
      obtain⟨u,hu⟩:=Nat.dvd_of_mod_eq_zero hpo
      obtain⟨c,hc⟩:=qbje hk32
      have hlt2:u<c:=by
       rw[hu,hc]at hlt
       exact Nat.lt_of_mul_lt_mul_left hlt
      have:2^p.np.k*(u+1)<=2^p.np.k*c:=Nat.mul_le_mul_left _ hlt2
      rw[Nat.mul_add,<-hu,<-hc,qbnt hk]at this
      have h0:=Nat.two_pow_pos (p.np.k-1)
      omega
 · have:=Np.high_ok hp.np_ok hk
   rw[<-hn]at this
   exact this
def qdk (l:LA):Nat->Pq->List Pq
 |0,_=>[]
 |n+1,p=>bif l.any (fun b=>winP p (pqY b))then[]else bif !(l.any fun b=>ovP (pqY b) p)then[p]else bif p.half then qdk l n p.low++qdk l n p.high else[]
def qeb (l:LA):Prop:=∀y,y∈l->(pqY y).good
theorem qbiv {p q b:Pq}(hp:p.good)(hq:q.good)(hb:b.good)(h:q.np.sub p.np)(ho:ovP b q=true):ovP b p=true:=by
 unfold ovP at*
 rw[Bool.or_eq_true,qf9 hb hq,qf9 hq hb]at ho
 rw[Bool.or_eq_true,qf9 hb hp,qf9 hp hb]
 rcases ho with ho|ho
 · exact .inl (Np.sub_trans ho h)
 · rcases Nat.lt_or_ge b.np.k p.np.k with hk|hk
   · exact .inl (Np.nest ho h (by omega))
   · exact .inr (Np.nest h ho hk)
theorem q0w {l l':LA}(hl:qeb l)(hl':qeb l'){c:Pq}(hc:c.good)
 (hW:∀q:Pq,q.good->q.np.sub c.np->(l.any fun b=>winP q (pqY b))=l'.any fun b=>winP q (pqY b)) (hO:∀q:Pq,q.good->q.np.sub c.np->(l.any fun b=>ovP (pqY b) q)=l'.any fun b=>ovP (pqY b) q):
 ∀(n:Nat) (p:Pq),p.good->p.np.sub c.np->qdk l n p=qdk l' n p
 |0,p,_,_=>rfl
 |n+1,p,hp,hs=>by
  unfold qdk
  rw[hW p hp hs,hO p hp hs]
  cases hh:p.half with
  |false=>rfl
  |true=>
   have hk:=(Pq.half_iff hp).1 hh
   have h1:p.low.np.sub p.np:=by rw[Pq.low_np hp hh];exact Np.low_sub hp.np_ok hk
   have h2:p.high.np.sub p.np:=by rw[Pq.high_np hp hh];exact Np.high_sub hp.np_ok hk
   rw[q0w hl hl' hc hW hO n p.low (Pq.low_good hp hh) (Np.sub_trans h1 hs),q0w hl hl' hc hW hO n p.high (Pq.high_good hp hh) (Np.sub_trans h2 hs)]
theorem qbiw {l:LA}(hl:qeb l){c:Pq}(hc:c.good)(n:Nat)(p:Pq)(hp:p.good)(hs:p.np.sub c.np):qdk (l.filter fun b=>ovP (pqY b) c) n p=qdk l n p:=by
 refine q0w (fun y hy=>hl y ((List.mem_filter.1 hy).1)) hl hc (fun q hq hqc=> ?_) (fun q hq hqc=> ?_) n p hp hs
 · rw[Bool.eq_iff_iff,List.any_eq_true,List.any_eq_true]
   constructor
   · rintro⟨b,hb,h⟩;exact⟨b,(List.mem_filter.1 hb).1,h⟩
   · rintro⟨b,hb,h⟩
     refine⟨b,List.mem_filter.2 ⟨hb,qbiv hc hq (hl b hb) hqc ?_⟩,h⟩
     unfold ovP;rw[h,Bool.or_true]
 · rw[Bool.eq_iff_iff,List.any_eq_true,List.any_eq_true]
   constructor
   · rintro⟨b,hb,h⟩;exact⟨b,(List.mem_filter.1 hb).1,h⟩
   · rintro⟨b,hb,h⟩
     exact⟨b,List.mem_filter.2 ⟨hb,qbiv hc hq (hl b hb) hqc h⟩,h⟩
theorem qbtp {α:Type}{A B C:α->Bool}:∀(l:List α),(∀b,b∈l->A b=true->C b=true)->(∀b,b∈l->B b=true->C b=true)->(∀b,b∈l->A b=true->B b=true->False)->(l.filter A).length+(l.filter B).length<=(l.filter C).length
 |[],_,_,_=>by simp
 |b::r,h1,h2,h3=>by
  have ih:=qbtp r (fun x hx=>h1 x (List.mem_cons_of_mem _ hx)) (fun x hx=>h2 x (List.mem_cons_of_mem _ hx)) (fun x hx=>h3 x (List.mem_cons_of_mem _ hx))
  have k1:=h1 b List.mem_cons_self
  have k2:=h2 b List.mem_cons_self
  have k3:=h3 b List.mem_cons_self
  rw[List.filter_cons,List.filter_cons,List.filter_cons]
  cases hA:A b<;>cases hB:B b
  · cases C b<;>simp<;>omega
  · rw[k2 hB];simp;omega
  · rw[k1 hA];simp;omega
  · exact(k3 hA hB).elim
theorem qbix {l:LA}(hl:qeb l):∀(n:Nat) (p:Pq),p.good->(qdk l n p).length<=(l.filter fun b=>ovP (pqY b) p).length*n+1
 |0,p,_=>by simp[qdk]
 |n+1,p,hp=>by
  unfold qdk
  cases hW:l.any fun b=>winP p (pqY b)with
  |true=>simp
  |false=>
   cases hO:l.any fun b=>ovP (pqY b) p with
   |false=>simp
   |true=>
    cases hh:p.half with
    |false=>simp
    |true=>
     have hk:=(Pq.half_iff hp).1 hh
     have hlg:=Pq.low_good hp hh
     have hhg:=Pq.high_good hp hh
     have h1:p.low.np.sub p.np:=by rw[Pq.low_np hp hh];exact Np.low_sub hp.np_ok hk
     have h2:p.high.np.sub p.np:=by rw[Pq.high_np hp hh];exact Np.high_sub hp.np_ok hk
     have i1:=qbix hl n p.low hlg
     have i2:=qbix hl n p.high hhg
     have hc:=qbtp (A:=fun b=>ovP (pqY b) p.low) (B:=fun b=>ovP (pqY b) p.high) (C:=fun b=>ovP (pqY b) p) l (fun b hb h=>qbiv hp hlg (hl b hb) h1 h) (fun b hb h=>qbiv hp hhg (hl b hb) h2 h) (fun b hb ha hb'=>by
      have hbg:=hl b hb
      have hnw:winP p (pqY b)=false:=by
       rw[List.any_eq_false]at hW
       simpa using hW b hb
      have hns:¬p.np.sub (pqY b).np:=fun h=>by rw[(qf9 hp hbg).2 h]at hnw;cases hnw
      unfold ovP at ha hb'
      rw[Bool.or_eq_true,qf9 hbg hlg,qf9 hlg hbg,Pq.low_np hp hh]at ha
      rw[Bool.or_eq_true,qf9 hbg hhg,qf9 hhg hbg,Pq.high_np hp hh]at hb'
      have hlo:=Np.low_ok hp.np_ok hk
      have hho:=Np.high_ok hp.np_ok hk
      rcases ha with ha|ha<;>rcases hb' with hb'|hb'
      · exact Np.not_both hp.np_ok hbg.np_ok hk ha hb'
      · exact Np.not_both hp.np_ok hho hk (Np.sub_trans hb' ha) (Np.sub_refl hho)
      · exact Np.not_both hp.np_ok hlo hk (Np.sub_refl hlo) (Np.sub_trans ha hb')
      · exact hns (Np.both hp.np_ok hbg.np_ok hk ha hb'))
     have hpos:0<(l.filter fun b=>ovP (pqY b) p).length:=by
      obtain⟨b,hb,h⟩:=List.any_eq_true.1 hO
      exact List.length_pos_of_mem (List.mem_filter.2 ⟨hb,h⟩)
     simp only[Bool.not_true,cond_f,cond_t,List.length_append]
     generalize (l.filter fun b=>ovP (pqY b) p).length=c at*
     generalize (l.filter fun b=>ovP (pqY b) p.low).length=c1 at*
     generalize (l.filter fun b=>ovP (pqY b) p.high).length=c2 at*
     have e1:(c1+c2)*n<=c*n:=Nat.mul_le_mul_right _ hc
     rw[Nat.add_mul]at e1
     rw[Nat.mul_add]
     omega
theorem qbnu {l:LA}(hl:qeb l)(hn:l.length<=1000){n:Nat}(hn2:n<=200){p:Pq}(hp:p.good):(qdk l n p).length<=200001:=by
 have h1:=qbix hl n p hp
 have h2:(l.filter fun b=>ovP (pqY b) p).length<=1000:=Nat.le_trans (List.length_filter_le _ _) hn
 have h3:(l.filter fun b=>ovP (pqY b) p).length*n<=1000*200:=Nat.mul_le_mul h2 hn2
 omega
theorem qbz9 (v6:Bool)(hi lo bits:Int)(w6:Bool)(whi wlo wbits:Int):qzm v6 hi lo bits w6 whi wlo wbits=some (ovP ⟨v6,hi,lo,bits⟩ ⟨w6,whi,wlo,wbits⟩):=by
 rw[qbj6];unfold qpb ovP winP
 simp only[qbiq,oB_s]
 cases qjv v6 hi lo bits w6 whi wlo wbits<;>simp
theorem qb0a (v6:Bool)(hi lo bits:Int)(w6:Bool)(whi wlo wbits:Int)(u1:uok hi)(u2:uok lo)(u3:uok whi)(u4:uok wlo):qwk v6 hi lo bits w6 whi wlo wbits=some (ovP ⟨v6,hi,lo,bits⟩ ⟨w6,whi,wlo,wbits⟩):=by
 rw[qbfd];unfold qm5 ovP winP
 simp only[q1s _ _ _ _ _ _ _ _ u1 u2,q1s _ _ _ _ _ _ _ _ u3 u4,oB_s]
 cases qjv v6 hi lo bits w6 whi wlo wbits<;>simp
theorem qb3s (p q:Pq):ovP p q=ovP q p:=by unfold ovP;rw[Bool.or_comm]
theorem qb55 {R:Type}{a:LA}(x:AV)(h:(a.length+1)*32<=140737488355328)(k:Option R):(bif decide ((a.length+([x]:List AV).length)*32<=140737488355328)then k else none)=k:=by
 rw[show([x]:List AV).length=1 from rfl,decide_eq_true h];rfl
theorem qb13 (rec:List AV->List AV->Bool->Int->Int->Int->Option (List AV))(l:LA)(hl:qq l)(hn:l.length<=1000)(a:LA)(p:Pq)(kx:List AV->Option (List AV)):
 qop rec l (l.length:Int) a p.v p.hi p.lo p.bits kx FU 0 []=bif l.any (fun b=>winP p (pqY b))then some a else kx (l.filter fun b=>ovP (pqY b) p):=by
 rw[q2p]
 have key:=qch (σ:=List AV) l hl.1 (fun n i s=>qpd rec l (l.length:Int) a p.v p.hi p.lo p.bits kx n i s) (fun i s nx=>qih rec l (l.length:Int) i a p.v p.hi p.lo p.bits s nx kx) (fun _ _ _=>rfl)
  (fun i s=>s.length<=i) (fun r s=>bif r.any (fun b=>winP p (pqY b))then some a else kx (s++r.filter fun b=>ovP (pqY b) p)) ?_ ?_ [] FU (by simp) (qcp (by have:=hl.1;omega))
 · exact key
 · intro s nx _;simp[qih]
 · intro i y r s nx g1 g2 g3 g4 h2 h5
   have hy:=hl.2 y (List.mem_of_getElem? g2)
   have h6:(i:Int)<(l.length:Int):=by omega
   have hyy:=qnn hy.1
   unfold mkB at hyy
   have n1:=h5 (s++[y]) (by simp;omega)
   have n2:=h5 s (by omega)
   unfold qih
   simp only[h6,decide_true,cond_t,ixB_nat,g2,oB_s,hy.1,g4,qbiq,qbz9,hyy,hd_self]
   rw[q5o y (a:=s) (by omega),n1,n2,List.any_cons,List.filter_cons]
   rw[show qjv p.v p.hi p.lo p.bits (gB y.cells 0) (gI y.cells 1) (gI y.cells 2) (gI y.cells 3)=winP p (pqY y)from rfl]
   rw[show ovP ⟨gB y.cells 0,gI y.cells 1,gI y.cells 2,gI y.cells 3⟩ ⟨p.v,p.hi,p.lo,p.bits⟩=ovP (pqY y) p from rfl]
   cases winP p (pqY y)<;>cases ovP (pqY y) p<;>simp
theorem qb3t {α:Type}(l:List α)(q:α->Bool):(((l.filter q).length:Int)==0)= !(l.any q):=by
 rw[Bool.eq_iff_iff]
 simp only[beq_iff_eq,Bool.not_eq_true',List.any_eq_false]
 constructor
 · intro h x hx
   have:l.filter q=[]:=List.eq_nil_of_length_eq_zero (by omega)
   simpa using List.filter_eq_nil_iff.1 this x hx
 · intro h
   have:l.filter q=[]:=List.filter_eq_nil_iff.2 h
   rw[this];rfl
theorem qbw2:∀(n:Nat) (p:Pq),p.good->p.np.k+1=n->∀(m:Nat),n<=m->∀(a l:LA),qq l->qeb l->l.length<=1000->a.length+(qdk l n p).length<=1000000000->
 qd7 m a l p.v p.hi p.lo p.bits=some (a++(qdk l n p).map Pq.av)
 |0,p,hp,hk,_,_,_,_,_,_,_,_=>by omega
 |n+1,p,hp,hk,m,hm,a,l,hl,hg,hn,hsz=>by
  obtain⟨m,rfl⟩:∃j,m=j+1:=⟨m-1,by omega⟩
  show qvt (qd7 m) a l p.v p.hi p.lo p.bits=_
  unfold qvt
  simp only[hd_self,qqu,List.length_nil,Bool.and_self,cond_t]
  rw[qb13 _ l hl hn,qb3t]
  unfold qdk at hsz⊢
  cases hW:l.any fun b=>winP p (pqY b)with
  |true=>simp
  |false=>
   simp only[hW,cond_f]at hsz⊢
   cases hO:l.any fun b=>ovP (pqY b) p with
   |false=>
    have hsz':a.length+1<=1000000000:=by simpa[hO]using hsz
    simp only[hO,Bool.not_false,cond_t,hd_self]
    rw[qb55 _ (by omega)]
    rfl
   |true=>
    simp only[hO,Bool.not_true,cond_f]at hsz⊢
    rw[qbto p.v p.hi p.lo p.bits hp.2.1 hp.2.2]
    simp only[oB_s]
    unfold qqz
    cases hh:qkh p.v p.hi p.lo p.bits with
    |false=>
     have hh':p.half=false:=hh
     simp only[hh',cond_f,Bool.not_false,cond_t]
     simp
    |true=>
     have hh':p.half=true:=hh
     have hkk:=(Pq.half_iff hp).1 hh'
     have hlg:=Pq.low_good hp hh'
     have hhg:=Pq.high_good hp hh'
     have h1:p.low.np.sub p.np:=by rw[Pq.low_np hp hh'];exact Np.low_sub hp.np_ok hkk
     have h2:p.high.np.sub p.np:=by rw[Pq.high_np hp hh'];exact Np.high_sub hp.np_ok hkk
     have k1:p.low.np.k+1=n:=by rw[Pq.low_np hp hh'];show p.np.k-1+1=n;omega
     have k2:p.high.np.k+1=n:=by rw[Pq.high_np hp hh'];show p.np.k-1+1=n;omega
     have f1:=qbiw hg hp n p.low hlg h1
     have f2:=qbiw hg hp n p.high hhg h2
     have hf:qq (l.filter fun b=>ovP (pqY b) p):=⟨Nat.le_trans (List.length_filter_le _ _) hl.1,fun y hy=>hl.2 y (List.mem_filter.1 hy).1⟩
     have hfg:qeb (l.filter fun b=>ovP (pqY b) p):=fun y hy=>hg y (List.mem_filter.1 hy).1
     have hfn:(l.filter fun b=>ovP (pqY b) p).length<=1000:=Nat.le_trans (List.length_filter_le _ _) hn
     simp only[hh',cond_t,List.length_append]at hsz⊢
     have r1:=qbw2 n p.low hlg k1 m (by omega) a _ hf hfg hfn (by rw[f1];omega)
     have r2:=qbw2 n p.high hhg k2 m (by omega) (a++(qdk l n p.low).map Pq.av) _ hf hfg hfn (by rw[f2];simp only[List.length_append,List.length_map];omega)
     rw[f1]at r1
     rw[f2]at r2
     simp only[Bool.not_true,cond_f,hd_self,cond_t,Bool.and_self]
     rw[show qd7 m a (l.filter fun b=>ovP (pqY b) p) (gB (lowP p.v p.hi p.lo p.bits).cells 0) (gI (lowP p.v p.hi p.lo p.bits).cells 1) (gI (lowP p.v p.hi p.lo p.bits).cells 2) (gI (lowP p.v p.hi p.lo p.bits).cells 3)=some (a++(qdk l n p.low).map Pq.av)from r1]
     simp only[oB_s,hd_self,cond_t]
     rw[show qd7 m (a++(qdk l n p.low).map Pq.av) (l.filter fun b=>ovP (pqY b) p) (gB (qyv p.v p.hi p.lo p.bits).cells 0) (gI (qyv p.v p.hi p.lo p.bits).cells 1) (gI (qyv p.v p.hi p.lo p.bits).cells 2) (gI (qyv p.v p.hi p.lo p.bits).cells 3)=some (a++(qdk l n p.low).map Pq.av++(qdk l n p.high).map Pq.av)from r2]
     simp
theorem qb0b (rec:List AV->Bool->Int->Int->Int->Option (List AV))(l:LA)(hl:qq l)(p:Pq)(u1:uok p.hi)(u2:uok p.lo)(kx:Bool->Option (List AV)):
 qlf rec l p.v p.hi p.lo p.bits kx FU false 0=bif l.any (fun b=>winP p (pqY b))then some []else kx (l.any fun b=>ovP (pqY b) p):=by
 rw[qy8]
 have key:=qch (σ:=Bool) l hl.1 (fun n i s=>qm7 rec l p.v p.hi p.lo p.bits kx n s i) (fun i s nx=>qf1 rec l s i p.v p.hi p.lo p.bits (fun s i=>nx i s) kx) (fun _ _ _=>rfl)
  (fun _ _=>True) (fun r s=>bif r.any (fun b=>winP p (pqY b))then some []else kx (s||r.any fun b=>ovP (pqY b) p)) ?_ ?_ false FU trivial (qcp (by have:=hl.1;omega))
 · exact key
 · intro s nx _;simp[qf1]
 · intro i y r s nx g1 g2 g3 g4 _ h5
   have hy:=hl.2 y (List.mem_of_getElem? g2)
   have h6:(i:Int)<(l.length:Int):=by omega
   unfold qf1
   simp only[h6,decide_true,cond_t,ixB_nat,g2,oB_s,hy.1,g4,q1s _ _ _ _ _ _ _ _ u1 u2,qb0a _ _ _ _ _ _ _ _ u1 u2 hy.2.1 hy.2.2.1,hd_self,List.any_cons,h5 _ trivial]
   rw[show qjv p.v p.hi p.lo p.bits (gB y.cells 0) (gI y.cells 1) (gI y.cells 2) (gI y.cells 3)=winP p (pqY y)from rfl]
   rw[show ovP ⟨p.v,p.hi,p.lo,p.bits⟩ ⟨gB y.cells 0,gI y.cells 1,gI y.cells 2,gI y.cells 3⟩=ovP (pqY y) p from qb3s _ _]
   cases winP p (pqY y)<;>cases ovP (pqY y) p<;>simp
theorem qbr6:∀(n:Nat) (p:Pq),p.good->p.np.k+1=n->∀(m:Nat),n<=m->∀(l:LA),qq l->qeb l->(qdk l n p).length<=1000000000->
 qct m l p.v p.hi p.lo p.bits=some ((qdk l n p).map Pq.av)
 |0,p,hp,hk,_,_,_,_,_,_=>by omega
 |n+1,p,hp,hk,m,hm,l,hl,hg,hsz=>by
  obtain⟨m,rfl⟩:∃j,m=j+1:=⟨m-1,by omega⟩
  show qm8 (qct m) l p.v p.hi p.lo p.bits=_
  unfold qm8
  rw[qb0b _ l hl p hp.2.1 hp.2.2]
  unfold qdk at hsz⊢
  cases hW:l.any fun b=>winP p (pqY b)with
  |true=>simp
  |false=>
   simp only[hW,cond_f]at hsz⊢
   cases hO:l.any fun b=>ovP (pqY b) p with
   |false=>rfl
   |true=>
    simp only[hO,Bool.not_true,cond_f]at hsz⊢
    rw[qbtn p.v p.hi p.lo p.bits hp.2.1 hp.2.2]
    simp only[oB_s]
    unfold qqz
    cases hh:qkh p.v p.hi p.lo p.bits with
    |false=>
     have hh':p.half=false:=hh
     simp only[hh',cond_f,Bool.not_false,cond_t]
     simp
    |true=>
     have hh':p.half=true:=hh
     have hkk:=(Pq.half_iff hp).1 hh'
     have hlg:=Pq.low_good hp hh'
     have hhg:=Pq.high_good hp hh'
     have k1:p.low.np.k+1=n:=by rw[Pq.low_np hp hh'];show p.np.k-1+1=n;omega
     have k2:p.high.np.k+1=n:=by rw[Pq.high_np hp hh'];show p.np.k-1+1=n;omega
     simp only[hh',cond_t,List.length_append]at hsz
     simp only[hh',cond_t]
     have r1:=qbr6 n p.low hlg k1 m (by omega) l hl hg (by omega)
     have r2:=qbr6 n p.high hhg k2 m (by omega) l hl hg (by omega)
     simp only[Bool.not_true,cond_f]
     rw[show qct m l (gB (lowP p.v p.hi p.lo p.bits).cells 0) (gI (lowP p.v p.hi p.lo p.bits).cells 1) (gI (lowP p.v p.hi p.lo p.bits).cells 2) (gI (lowP p.v p.hi p.lo p.bits).cells 3)=some ((qdk l n p.low).map Pq.av)from r1]
     rw[show qct m l (gB (qyv p.v p.hi p.lo p.bits).cells 0) (gI (qyv p.v p.hi p.lo p.bits).cells 1) (gI (qyv p.v p.hi p.lo p.bits).cells 2) (gI (qyv p.v p.hi p.lo p.bits).cells 3)=some ((qdk l n p.high).map Pq.av)from r2]
     have g1:(([]:List AV).length+((qdk l n p.low).map Pq.av).length)*32<=140737488355328:=by simp;omega
     have g2:(((qdk l n p.low).map Pq.av).length+((qdk l n p.high).map Pq.av).length)*32<=140737488355328:=by simp;omega
     simp only[oB_s,hd_self,cond_t,g1,g2,decide_true]
     rw[List.map_append]
theorem qni {l:LA}(hl:qq l)(ht:qc1 l):qeb l:=fun y hy=>by
 obtain⟨j,hj⟩:=List.getElem?_of_mem hy
 exact⟨(ht j y hj).p,(hl.2 y hy).2.1,(hl.2 y hy).2.2.1⟩
theorem qqe {p q:Pq}(hp:p.good)(hq:q.good):qea p.v p.hi p.lo p.bits q.v q.hi q.lo q.bits=true↔p.np.sub q.np/\p.np.k<q.np.k:=by
 unfold qea
 rw[Bool.and_eq_true,decide_eq_true_eq,show qjv p.v p.hi p.lo p.bits q.v q.hi q.lo q.bits=winP p q from rfl,qf9 hp hq]
 obtain⟨a1,a2,a3,_⟩:=hp.range
 obtain⟨b1,b2,b3,_⟩:=hq.range
 constructor
 · rintro⟨h1,h2⟩
   refine⟨h2,?_⟩
   have:p.v=q.v:=h2.1
   rw[this]at a3;omega
 · rintro⟨h1,h2⟩
   refine⟨?_,h1⟩
   have:p.v=q.v:=h1.1
   rw[this]at a3;omega
def qnj (l:LA)(p:Pq):List AV:=l.filter fun y=>qea (gB y.cells 0) (gI y.cells 1) (gI y.cells 2) (gI y.cells 3) p.v p.hi p.lo p.bits
theorem qbnv {l:LA}(hg:qeb l){p:Pq}(hp:p.good):∀(n:Nat) (y:AV),y∈l->(pqY y).np.sub p.np->(pqY y).np.k<p.np.k->p.np.k-(pqY y).np.k<=n->∃c,c∈qyw l p.v p.hi p.lo p.bits/\(pqY y).np.sub (pqY c).np
 |0,y,hy,h1,h2,h3=>by omega
 |n+1,y,hy,h1,h2,h3=>by
  have hyg:=hg y hy
  by_cases hc:qbjf l p.v p.hi p.lo p.bits y=true
  · exact⟨y,List.mem_filter.2 ⟨hy,hc⟩,Np.sub_refl hyg.np_ok⟩
  · unfold qbjf at hc
    have hlp:qea (gB y.cells 0) (gI y.cells 1) (gI y.cells 2) (gI y.cells 3) p.v p.hi p.lo p.bits=true:=(qqe hyg hp).2 ⟨h1,h2⟩
    rw[hlp]at hc
    simp only[Bool.true_and,Bool.not_eq_true',Bool.not_eq_false,List.any_eq_true]at hc
    obtain⟨o,ho,hoo⟩:=hc
    rw[Bool.and_eq_true]at hoo
    have hog:=hg o ho
    obtain⟨a1,a2⟩:=(qqe hog hp).1 hoo.1
    obtain⟨b1,b2⟩:=(qqe hyg hog).1 (show qea (pqY y).v (pqY y).hi (pqY y).lo (pqY y).bits (pqY o).v (pqY o).hi (pqY o).lo (pqY o).bits=true from hoo.2)
    obtain⟨c,hc1,hc2⟩:=qbnv hg hp n o ho a1 a2 (by omega)
    exact⟨c,hc1,Np.sub_trans b1 hc2⟩
theorem qbur {l:LA}(hg:qeb l){p:Pq}(hp:p.good):qdk (qnj l p) (p.np.k+1) p=qdk (qyw l p.v p.hi p.lo p.bits) (p.np.k+1) p:=by
 have hd:∀y,y∈qnj l p↔y∈l/\(pqY y).np.sub p.np/\(pqY y).np.k<p.np.k:=fun y=>by
  unfold qnj
  rw[List.mem_filter]
  constructor
  · rintro⟨h1,h2⟩;exact⟨h1,(qqe (hg y h1) hp).1 h2⟩
  · rintro⟨h1,h2⟩;exact⟨h1,(qqe (hg y h1) hp).2 h2⟩
 have hcd:∀y,y∈qyw l p.v p.hi p.lo p.bits->y∈qnj l p:=fun y hy=>by
  unfold qyw at hy
  rw[List.mem_filter]at hy
  unfold qbjf at hy
  simp only[Bool.and_eq_true]at hy
  exact List.mem_filter.2 ⟨hy.1,hy.2.1⟩
 have hgd:qeb (qnj l p):=fun y hy=>hg y ((hd y).1 hy).1
 have hgc:qeb (qyw l p.v p.hi p.lo p.bits):=fun y hy=>hgd y (hcd y hy)
 refine q0w hgd hgc hp (fun q hq hs=> ?_) (fun q hq hs=> ?_) _ p hp (Np.sub_refl hp.np_ok)
 · rw[Bool.eq_iff_iff,List.any_eq_true,List.any_eq_true]
   constructor
   · rintro⟨b,hb,h⟩
     obtain⟨h1,h2,h3⟩:=(hd b).1 hb
     obtain⟨c,hc,hs2⟩:=qbnv hg hp _ b h1 h2 h3 (Nat.le_refl _)
     exact⟨c,hc,(qf9 hq (hgc c hc)).2 (Np.sub_trans ((qf9 hq (hgd b hb)).1 h) hs2)⟩
   · rintro⟨c,hc,h⟩;exact⟨c,hcd c hc,h⟩
 · rw[Bool.eq_iff_iff,List.any_eq_true,List.any_eq_true]
   constructor
   · rintro⟨b,hb,h⟩
     obtain⟨h1,h2,h3⟩:=(hd b).1 hb
     obtain⟨c,hc,hs2⟩:=qbnv hg hp _ b h1 h2 h3 (Nat.le_refl _)
     refine⟨c,hc,?_⟩
     unfold ovP at h⊢
     rw[Bool.or_eq_true,qf9 (hgd b hb) hq,qf9 hq (hgd b hb)]at h
     rw[Bool.or_eq_true,qf9 (hgc c hc) hq,qf9 hq (hgc c hc)]
     rcases h with h|h
     · rcases Nat.lt_or_ge (pqY c).np.k q.np.k with hk|hk
       · exact .inl (Np.nest hs2 h (by omega))
       · exact .inr (Np.nest h hs2 hk)
     · exact .inr (Np.sub_trans h hs2)
   · rintro⟨c,hc,h⟩;exact⟨c,hcd c hc,h⟩
def qbjg (l:LA)(p:Pq):List AV:=
 bif(match l.find? (atP p.v p.hi p.lo p.bits)with|some y=>gI y.cells 4==1|none=>false)then(qdk (qnj l p) (p.np.k+1) p).map Pq.av else[]
theorem q1w {l:LA}(hg:qeb l){p:Pq}{y:AV}(hy:l.find? (atP p.v p.hi p.lo p.bits)=some y):p.good/\pqY y=p:=by
 have h1:=List.find?_some hy
 obtain⟨a,b,c,d⟩:=qmb.1 h1
 have e:pqY y=p:=by unfold pqY;rw[a,b,c,d]
 have:=hg y (List.mem_of_find?_eq_some hy)
 rw[e]at this
 exact⟨this,e⟩
theorem qb4y {n:Nat}(h:n<=1000):n<=FU:=by rw[qb4r];omega
theorem qbtq (y:AV):gI (blkV y).cells 4=gI y.cells 4:=rfl
theorem qb7c (l:LA)(hl:qq l)(hg:qeb l)(hn:l.length<=1000)(p:Pq):q0j l p.v p.hi p.lo p.bits=some (qbjg l p):=by
 rw[qbre];unfold qvu qbjg
 rw[qbr2 l hl]
 simp only[oB_s]
 unfold qsl
 cases hf:l.find? (atP p.v p.hi p.lo p.bits)with
 |none=>rfl
 |some y=>
  obtain⟨hp,_⟩:=q1w hg hf
  simp only[qbtq,Bool.not_true,Bool.false_or]
  cases hk:gI y.cells 4==1 with
  |false=>
   have:(gI y.cells 4 != 1)=true:=by unfold bne;rw[hk];rfl
   rw[this];rfl
  |true=>
   have:(gI y.cells 4 != 1)=false:=by unfold bne;rw[hk];rfl
   rw[this]
   simp only[cond_f,qqu,List.length_nil,Bool.and_self,cond_t]
   have lp:∀kx:List AV->Option (List AV),qxs l (l.length:Int) p.v p.hi p.lo p.bits kx FU 0 []=kx (qnj l p):=by
    intro kx
    rw[qbgd]
    have key:=qch (σ:=List AV) l hl.1 (fun n i s=>qj5 l (l.length:Int) p.v p.hi p.lo p.bits kx n i s) (fun i s nx=>qj4 l (l.length:Int) i p.v p.hi p.lo p.bits s nx kx) (fun _ _ _=>rfl)
     (fun i s=>s.length<=i) (fun r s=>kx (s++qnj r p)) ?_ ?_ [] FU (by simp) (qcp (by have:=hl.1;omega))
    · exact key
    · intro s nx _;simp[qj4,qnj]
    · intro i y r s nx g1 g2 g3 g4 h2 h5
      have hy:=hl.2 y (List.mem_of_getElem? g2)
      have h6:(i:Int)<(l.length:Int):=by omega
      have hyy:=qnn hy.1
      unfold mkB at hyy
      have n1:=h5 (s++[y]) (by simp;omega)
      have n2:=h5 s (by omega)
      unfold qj4
      simp only[h6,decide_true,cond_t,ixB_nat,g2,oB_s,hy.1,g4,qbwu,hyy,hd_self]
      rw[q5o y (a:=s) (by omega),n1,n2]
      unfold qnj
      rw[List.filter_cons]
      cases qea (gB y.cells 0) (gI y.cells 1) (gI y.cells 2) (gI y.cells 3) p.v p.hi p.lo p.bits<;>simp
   rw[lp]
   simp only[hd_self,cond_t]
   have hf2:qq (qnj l p):=⟨Nat.le_trans (List.length_filter_le _ _) hl.1,fun y hy=>hl.2 y (List.mem_filter.1 hy).1⟩
   have hfg:qeb (qnj l p):=fun y hy=>hg y (List.mem_filter.1 hy).1
   have hfn:(qnj l p).length<=1000:=Nat.le_trans (List.length_filter_le _ _) hn
   have hk2:=hp.range.2.2.2
   have:=qbw2 (p.np.k+1) p hp rfl FU (qb4y (by omega)) [] (qnj l p) hf2 hfg hfn (by have:=qbnu hfg hfn (n:=p.np.k+1) (by omega) hp;simp;omega)
   rw[q8j,this]
   simp
theorem qb56 (l:LA)(hl:qq l)(hg:qeb l)(hn:l.length<=1000)(p:Pq):qv3 l p.v p.hi p.lo p.bits=some (qbjg l p):=by
 rw[qbm9];unfold qsf qbjg
 rw[qbjd l hl]
 simp only[oB_s]
 unfold qsl
 cases hf:l.find? (atP p.v p.hi p.lo p.bits)with
 |none=>simp only[qy9,qja];rfl
 |some y=>
  obtain⟨hp,_⟩:=q1w hg hf
  simp only[qy9,qja,qbtq,Bool.not_true,Bool.false_or]
  cases hk:gI y.cells 4==1 with
  |false=>
   have:(gI y.cells 4 != 1)=true:=by unfold bne;rw[hk];rfl
   rw[this];rfl
  |true=>
   have:(gI y.cells 4 != 1)=false:=by unfold bne;rw[hk];rfl
   rw[this]
   simp only[cond_f,qxe,hp.1,oB_s,Bool.not_true,qbya l hl (by omega),cond_t]
   have hcd:∀y,y∈qyw l p.v p.hi p.lo p.bits->y∈l:=fun y hy=>(List.mem_filter.1 hy).1
   have hf2:qq (qyw l p.v p.hi p.lo p.bits):=⟨Nat.le_trans (List.length_filter_le _ _) hl.1,fun y hy=>hl.2 y (hcd y hy)⟩
   have hfg:qeb (qyw l p.v p.hi p.lo p.bits):=fun y hy=>hg y (hcd y hy)
   have hfn:(qyw l p.v p.hi p.lo p.bits).length<=1000:=Nat.le_trans (List.length_filter_le _ _) hn
   have hk2:=hp.range.2.2.2
   have:=qbr6 (p.np.k+1) p hp rfl FU (qb4y (by omega)) (qyw l p.v p.hi p.lo p.bits) hf2 hfg (by have:=qbnu hfg hfn (n:=p.np.k+1) (by omega) hp;omega)
   rw[q4y,this,qbur hg hp]
   rfl
theorem q3s {l:LA}:qc1 l↔(∀y,y∈l->qoj y=true/\mayB y=true)/\l.Pairwise fun x y=>ltY x y/\qbj y x=false:=by
 constructor
 · intro h
   refine⟨fun y hy=> ?_,List.pairwise_iff_getElem.2 fun i j hi hj hij=> ?_⟩
   · obtain⟨j,hj⟩:=List.getElem?_of_mem hy
     exact⟨(h j y hj).p,(h j y hj).may⟩
   · have h1:l[i]?=some l[i]:=by simp
     have h2:l[j]?=some l[j]:=by simp
     exact⟨h.sorted i _ h1 j _ hij h2,(h j _ h2).bar i _ hij h1⟩
 · rintro⟨h1,h2⟩ j y hy
   rw[List.pairwise_iff_getElem]at h2
   obtain⟨hj,rfl⟩:=List.getElem?_eq_some_iff.1 hy
   refine⟨(h1 _ (List.getElem_mem hj)).1,(h1 _ (List.getElem_mem hj)).2,fun i z hji hz=> ?_,fun k z hk hz=> ?_⟩
   · obtain⟨hi,rfl⟩:=List.getElem?_eq_some_iff.1 hz
     exact(h2 i j hi hj (by omega)).1
   · obtain⟨hi,rfl⟩:=List.getElem?_eq_some_iff.1 hz
     exact(h2 k j hi hj hk).2
theorem qc1.rem {l:LA}(ht:qc1 l)(v:Bool)(hi lo bits:Int):qc1 (remF l v hi lo bits):=by
 rw[q3s]at ht⊢
 exact⟨fun y hy=>ht.1 y (List.mem_filter.1 hy).1,ht.2.filter _⟩
theorem qb3u {l:LA}(hl:qq l)(v:Bool)(hi lo bits:Int):qq (remF l v hi lo bits):=⟨Nat.le_trans (List.length_filter_le _ _) hl.1,fun y hy=>hl.2 y (List.mem_filter.1 hy).1⟩
theorem qbnw {l:LA}(hl:qq l)(hn:l.length<=100000){b:AV}(hb:qkf b):qq (insF b l):=⟨by rw[qbdb];omega,fun y hy=>by
 rcases qqd.1 hy with rfl|h
 · exact hb
 · exact hl.2 y h⟩
theorem qbde {l:LA}(hl:qq l){v:Bool}{hi lo bits:Int}{y:AV}(h:l.find? (atP v hi lo bits)=some y):qsl l v hi lo bits=(y,true):=by
 unfold qsl;rw[h];simp only
 rw[qb1z (hl.2 y (List.mem_of_find?_eq_some h)).1]
theorem qbqk {l:LA}{v:Bool}{hi lo bits:Int}(h:l.find? (atP v hi lo bits)=none):qsl l v hi lo bits=(blk0,false):=by
 unfold qsl;rw[h]
theorem pick {l:LA}{n:Int}(hn:0<=n/\n<=255)(h0:0<l.length)(hl:l.length<=1000):
 ∃y,ixB l ((IntKind.i64.wrap n).tmod (l.length:Int))=some y/\y∈l:=by
 obtain⟨m,rfl⟩:=Int.eq_ofNat_of_zero_le hn.1
 rw[w64 (by omega) (by omega),<-Int.ofNat_tmod,ixB_nat]
 have hlt:=Nat.mod_lt m h0
 refine⟨l[m%l.length],?_,List.getElem_mem _⟩
 simp[hlt]
def atY (b y:AV):Bool:=atP (gB b.cells 0) (gI b.cells 1) (gI b.cells 2) (gI b.cells 3) y
theorem qbjh {b y:AV}:atY b y=true↔pqY y=pqY b:=by
 unfold atY;rw[qmb];unfold pqY
 constructor
 · rintro⟨h1,h2,h3,h4⟩;rw[h1,h2,h3,h4]
 · intro h;injection h with h1 h2 h3 h4;exact⟨h1,h2,h3,h4⟩
theorem qb7d {y b:AV}(h:cmpY y b>0):ltY b y:=(qo2 b y).2.2.1 ((qo2 y b).1.1 h)
theorem qb7e {y b:AV}(h:¬cmpY y b>0)(hne:atY b y=false):ltY y b:=by
 refine(qo2 y b).2.2.1 ?_
 have:cmpY y b≠0:=fun h0=>by
  have:=qbc8.1 (qbc9.2 h0)
  rw[show atY b y=true from qmb.2 this]at hne;cases hne
 omega
theorem qb7f {y b:AV}(h:ltY y b):¬cmpY y b>0:=by
 have:=(qo2 y b).2.2.2 h
 omega
theorem qbr7 {y b:AV}(h:ltY b y):cmpY y b>0:=(qo2 y b).1.2 ((qo2 b y).2.2.2 h)
theorem qbtr {b:AV}:∀{l:LA},l.Pairwise (fun x y=>ltY x y/\qbj y x=false)->(∀z,z∈l->atY b z=false/\qbj b z=false/\qbj z b=false)->(insF b l).Pairwise fun x y=>ltY x y/\qbj y x=false
 |[],_,_=>by simp[insF]
 |y::r,hp,h=>by
  rw[List.pairwise_cons]at hp
  rw[q1u]
  by_cases hc:cmpY y b>0
  · simp only[hc,decide_true,cond_t]
    have hby:=qb7d hc
    refine List.pairwise_cons.2 ⟨fun z hz=> ?_,List.pairwise_cons.2 hp⟩
    refine⟨?_,(h z hz).2.2⟩
    rcases List.mem_cons.1 hz with rfl|hz'
    · exact hby
    · exact q1t hby (hp.1 z hz').1
  · simp only[hc,decide_false,cond_f]
    have h0:=h y (by simp)
    refine List.pairwise_cons.2 ⟨fun z hz=> ?_,qbtr hp.2 fun z hz=>h z (List.mem_cons_of_mem _ hz)⟩
    rcases qqd.1 hz with rfl|hz'
    · exact⟨qb7e hc h0.1,h0.2.1⟩
    · exact hp.1 z hz'
theorem qc1.ins {l:LA}(ht:qc1 l){b:AV}(h1:qoj b=true)(h2:mayB b=true)(h:∀z,z∈l->atY b z=false/\qbj b z=false/\qbj z b=false):qc1 (insF b l):=by
 obtain⟨a1,a2⟩:=q3s.1 ht
 refine q3s.2 ⟨fun y hy=> ?_,qbtr a2 h⟩
 rcases qqd.1 hy with rfl|hy'
 · exact⟨h1,h2⟩
 · exact a1 y hy'
theorem qbw3 {q:AV->Bool}{b:AV}(hb:q b=false):∀l:List AV,(insF b l).filter q=l.filter q
 |[]=>by simp[insF,hb]
 |y::r=>by
  rw[q1u]
  cases decide (cmpY y b>0)with
  |true=>simp only[cond_t];rw[List.filter_cons];simp[hb]
  |false=>simp only[cond_f];rw[List.filter_cons,List.filter_cons,qbw3 hb r]
theorem qbql {q:AV->Bool}{l:LA}(h:∀z,z∈l->q z=true):l.filter q=l:=List.filter_eq_self.2 h
theorem qby3 {y:AV}:∀{l:LA},l.Pairwise ltY->y∈l->insF y (l.filter fun z=> !atY y z)=l
 |[],_,h=>by simp at h
 |x::r,hp,hm=>by
  rw[List.pairwise_cons]at hp
  have hyy:atY y y=true:=qbjh.2 rfl
  have nat:∀a b:AV,ltY a b->atY b a=false/\atY a b=false:=fun a b hab=>by
   constructor
   · cases hq:atY b a with
     |false=>rfl
     |true=>
      have:=qbr7 hab
      have h0:=qbc9.1 (qbc8.2 (qmb.1 hq))
      have h1:=(qo2 a b).2.2.2 hab
      omega
   · cases hq:atY a b with
     |false=>rfl
     |true=>
      have h0:=qbc9.1 (qbc8.2 (qmb.1 hq))
      have:=qbr7 hab
      omega
  rcases List.mem_cons.1 hm with rfl|hm'
  · have e:(r.filter fun z=> !atY y z)=r:=qbql fun z hz=>by rw[(nat y z (hp.1 z hz)).2];rfl
    rw[List.filter_cons,hyy]
    simp only[Bool.not_true,Bool.false_eq_true,if_false,e]
    cases r with
    |nil=>rfl
    |cons z r=>rw[q1u];simp only[qbr7 (hp.1 z (by simp)),decide_true,cond_t]
  · have hxy:=hp.1 y hm'
    rw[List.filter_cons,(nat x y hxy).1]
    simp only[Bool.not_false,if_true]
    rw[q1u]
    simp only[qb7f hxy,decide_false,cond_f]
    rw[qby3 hp.2 hm']
theorem qb57 {l:LA}(ht:qc1 l):l.Pairwise ltY:=(q3s.1 ht).2.imp fun h=>h.1
theorem qb3v {l:LA}(ht:qc1 l){y:AV}(hy:y∈l):(remF l (pqY y).v (pqY y).hi (pqY y).lo (pqY y).bits).length+1=l.length:=by
 have:=congrArg List.length (qby3 (qb57 ht) hy)
 rw[qbdb]at this
 exact this
def barK (ky kz:Int):Bool:=bif kz==3 then true else bif kz==2 then ky != 3 else false
theorem qbji {y z:AV}(hy:(pqY y).good)(hz:(pqY z).good):qbj y z=false↔((pqY y).np.sub (pqY z).np->(pqY y).np.k<(pqY z).np.k->barK (gI y.cells 4) (gI z.cells 4)=false):=by
 have e:qbj y z=bif qea (pqY y).v (pqY y).hi (pqY y).lo (pqY y).bits (pqY z).v (pqY z).hi (pqY z).lo (pqY z).bits then barK (gI y.cells 4) (gI z.cells 4)else false:=by
  unfold qbj qea
  rw[Bool.and_comm];rfl
 rw[e]
 cases hl:qea (pqY y).v (pqY y).hi (pqY y).lo (pqY y).bits (pqY z).v (pqY z).hi (pqY z).lo (pqY z).bits with
 |true=>obtain⟨h1,h2⟩:=(qqe hy hz).1 hl;simp[h1,h2]
 |false=>
  simp only[cond_f,true_iff]
  intro h1 h2
  rw[(qqe hy hz).2 ⟨h1,h2⟩]at hl;cases hl
theorem qc1.bars {l:LA}(hl:qq l)(ht:qc1 l){y z:AV}(hy:y∈l)(hz:z∈l):qbj y z=false:=by
 have hg:=qni hl ht
 refine(qbji (hg y hy) (hg z hz)).2 fun h1 h2=> ?_
 have hw:winP (pqY y) (pqY z)=true:=(qf9 (hg y hy) (hg z hz)).2 h1
 obtain⟨j,hj⟩:=List.getElem?_of_mem hy
 obtain⟨i,hi⟩:=List.getElem?_of_mem hz
 have hne:atP (gB z.cells 0) (gI z.cells 1) (gI z.cells 2) (gI z.cells 3) y=false:=by
  cases hq:atP (gB z.cells 0) (gI z.cells 1) (gI z.cells 2) (gI z.cells 3) y with
  |false=>rfl
  |true=>rw[qbjh.1 hq]at h2;omega
 obtain⟨h3,_⟩:=qbuq (hl.2 y hy) hw hne
 have hij:i<j:=by
  rcases Nat.lt_trichotomy i j with h|h|h
  · exact h
  · subst h;rw[hi]at hj;cases hj;exact absurd h3 qfn
  · exact absurd (q1t h3 (ht.sorted j y hj i z h hi)) qfn
 exact(qbji (hg y hy) (hg z hz)).1 ((ht j y hj).bar i z hij hi) h1 h2
theorem qby4 {l:LA}(hg:qeb l){p:Pq}(hp:p.good):occF l p.v p.hi p.lo p.bits=false↔∀y,y∈l->¬((pqY y).np.sub p.np/\(pqY y).np.k<p.np.k):=by
 unfold occF
 rw[List.any_eq_false]
 constructor
 · intro h y hy h2;exact h y hy ((qqe (p:=pqY y) (hg y hy) hp).2 h2)
 · intro h y hy h2;exact h y hy ((qqe (p:=pqY y) (hg y hy) hp).1 h2)
theorem qb58 {l:LA}{b:AV}:l.any (atP (gB b.cells 0) (gI b.cells 1) (gI b.cells 2) (gI b.cells 3))=false↔∀z,z∈l->atY b z=false:=by
 rw[List.any_eq_false]
 constructor
 · intro h z hz;have:=h z hz;unfold atY;simpa using this
 · intro h z hz;have:=h z hz;unfold atY at this;rw[this];simp
theorem qbw4 {l:LA}(hl:qq l)(ht:qc1 l){b:AV}(hb:qkf b)(h:(addF l b).2=0):
 (addF l b).1=insF b l/\qc1 (insF b l)/\qb8 (insF b l) (gB b.cells 0) (gI b.cells 1) (gI b.cells 2) (gI b.cells 3)=(l,0):=by
 have hg:=qni hl ht
 unfold addF at*
 cases hp:qoj b with
 |false=>simp[hp]at h
 |true=>
 cases hm:mayB b with
 |false=>simp[hp,hm]at h
 |true=>
 cases ha:l.any (atP (gB b.cells 0) (gI b.cells 1) (gI b.cells 2) (gI b.cells 3))with
 |true=>simp[hp,hm,ha]at h
 |false=>
 cases hbr:(l.any (qbj b)||occF l (gB b.cells 0) (gI b.cells 1) (gI b.cells 2) (gI b.cells 3))with
 |true=>simp only[hp,hm,ha,hbr,Bool.not_true,cond_f,cond_t]at h;cases h
 |false=>
 rw[hp,hm,ha,hbr]at h
 simp only[Bool.not_true,cond_f]at*
 cases h512:decide ((l.length:Int)>=512)with
 |true=>rw[h512]at h;simp at h
 |false=>
 simp only[cond_f]
 rw[Bool.or_eq_false_iff]at hbr
 have hbg:(pqY b).good:=⟨hp,hb.2.1,hb.2.2.1⟩
 have ho:=(qby4 (p:=pqY b) hg hbg).1 hbr.2
 have hat:=qb58.1 ha
 have key:∀z,z∈l->atY b z=false/\qbj b z=false/\qbj z b=false:=fun z hz=>by
  refine⟨hat z hz,?_,?_⟩
  · have:=List.any_eq_false.1 hbr.1 z hz;simpa using this
  · exact(qbji (hg z hz) hbg).2 fun h1 h2=>absurd ⟨h1,h2⟩ (ho z hz)
 have hT:=ht.ins hp hm key
 refine⟨trivial,hT,?_⟩
 unfold qb8
 have e1:(insF b l).any (atP (gB b.cells 0) (gI b.cells 1) (gI b.cells 2) (gI b.cells 3))=true:=List.any_eq_true.2 ⟨b,qqd.2 (.inl rfl),qmb.2 ⟨rfl,rfl,rfl,rfl⟩⟩
 have e2:occF (insF b l) (gB b.cells 0) (gI b.cells 1) (gI b.cells 2) (gI b.cells 3)=false:=by
  refine(qby4 (p:=pqY b) (l:=insF b l) (fun y hy=> ?_) hbg).2 fun y hy=> ?_
  · rcases qqd.1 hy with rfl|hy'
    · exact hbg
    · exact hg y hy'
  · rcases qqd.1 hy with rfl|hy'
    · intro h;omega
    · exact ho y hy'
 have e3:remF (insF b l) (gB b.cells 0) (gI b.cells 1) (gI b.cells 2) (gI b.cells 3)=l:=by
  unfold remF
  rw[qbw3 (b:=b) (by simp[atP]) l]
  exact qbql fun z hz=>by have:=hat z hz;unfold atY at this;rw[this];rfl
 rw[e1,e2,e3];rfl
theorem qbw5 {p:Pq}(hp:p.good)(h:p.half=true):p.low.np.sub p.np/\p.high.np.sub p.np/\p.low.np.k+1=p.np.k/\p.high.np.k+1=p.np.k:=by
 have hk:=(Pq.half_iff hp).1 h
 rw[Pq.low_np hp h,Pq.high_np hp h]
 refine⟨Np.low_sub hp.np_ok hk,Np.high_sub hp.np_ok hk,?_,?_⟩
 · show p.np.k-1+1=p.np.k;omega
 · show p.np.k-1+1=p.np.k;omega
theorem qb14 {l:LA}{q:AV->Bool}{y:AV}(hy:y∈l)(hq:q y=true)(h:∀z,z∈l->q z=true->z=y):l.find? q=some y:=by
 cases hf:l.find? q with
 |none=>have:=List.find?_eq_none.1 hf y hy;rw[hq]at this;simp at this
 |some z=>rw[h z (List.mem_of_find?_eq_some hf) (List.find?_some hf)]
theorem q0x {l:LA}(hl:qq l)(ht:qc1 l){v:Bool}{hi lo bits:Int}(h:(qb8 l v hi lo bits).2=0):
 qq (qb8 l v hi lo bits).1/\qc1 (qb8 l v hi lo bits).1/\(qb8 l v hi lo bits).1.length+1=l.length:=by
 unfold qb8 at*
 cases h1:l.any (atP v hi lo bits)with
 |false=>rw[h1]at h;cases h
 |true=>
 cases h2:occF l v hi lo bits with
 |true=>rw[h1,h2]at h;cases h
 |false=>
 simp only[Bool.not_true,cond_f]
 obtain⟨y,hy,ha⟩:=List.any_eq_true.1 h1
 obtain⟨a,b,c,d⟩:=qmb.1 ha
 have:=qb3v ht hy
 unfold pqY at this
 simp only[a,b,c,d]at this
 exact⟨qb3u hl v hi lo bits,ht.rem v hi lo bits,this⟩
def betR (b0:Option AV)(y:AV):Bool:=match b0 with
 |none=>true
 |some x=>decide (gI y.cells 3>gI x.cells 3)
theorem qbqm (q:AV->Bool)(b0:Option AV)(y:AV)(r:LA):qol q b0 (y::r)=qol q (bif q y&&betR b0 y then some y else b0) r:=by cases b0<;>rfl
theorem qbdf {q:AV->Bool}{b:AV}:∀{l:LA} {b0:Option AV},qol q b0 l=some b->(b0=some b\/b∈l/\q b=true)/\(∀z,z∈l->q z=true->gI z.cells 3<=gI b.cells 3)/\∀x,b0=some x->gI x.cells 3<=gI b.cells 3
 |[],b0,h=>by
  unfold qol at h;subst h
  exact⟨.inl rfl,fun z hz=>by simp at hz,fun x hx=>by cases hx;exact Int.le_refl _⟩
 |y::r,b0,h=>by
  rw[qbqm]at h
  cases hc:(q y&&betR b0 y)with
  |true=>
   rw[hc]at h
   simp only[cond_t]at h
   obtain⟨h1,h2,h3⟩:=qbdf h
   rw[Bool.and_eq_true]at hc
   have hy:=h3 y rfl
   refine⟨?_,?_,?_⟩
   · rcases h1 with h1|⟨h1,h1'⟩
     · cases h1;exact .inr ⟨by simp,hc.1⟩
     · exact .inr ⟨List.mem_cons_of_mem _ h1,h1'⟩
   · intro z hz hq
     rcases List.mem_cons.1 hz with rfl|hz
     · exact hy
     · exact h2 z hz hq
   · intro x hx
     subst hx
     have:=hc.2
     simp only[betR,decide_eq_true_eq]at this
     omega
  |false=>
   rw[hc]at h
   simp only[cond_f]at h
   obtain⟨h1,h2,h3⟩:=qbdf h
   refine⟨?_,?_,h3⟩
   · rcases h1 with h1|⟨h1,h1'⟩
     · exact .inl h1
     · exact .inr ⟨List.mem_cons_of_mem _ h1,h1'⟩
   · intro z hz hq
     rcases List.mem_cons.1 hz with rfl|hz
     · rw[hq]at hc
       cases b0 with
       |none=>simp[betR]at hc
       |some x=>
        have:=h3 x rfl
        simp only[betR,Bool.true_and,decide_eq_false_iff_not]at hc
        omega
     · exact h2 z hz hq
theorem qbqn {q:AV->Bool}:∀{l:LA} {b0:Option AV},qol q b0 l=none->b0=none/\∀z,z∈l->q z=false
 |[],b0,h=>by unfold qol at h;exact⟨h,fun z hz=>by simp at hz⟩
 |y::r,b0,h=>by
  rw[qbqm]at h
  obtain⟨h1,h2⟩:=qbqn h
  cases hq:q y with
  |true=>
   rw[hq]at h1
   cases b0 with
   |none=>simp[betR]at h1
   |some x=>cases hd:betR (some x) y<;>simp[hd]at h1
  |false=>
   rw[hq]at h1
   simp only[Bool.false_and,cond_f]at h1
   refine⟨h1,fun z hz=> ?_⟩
   rcases List.mem_cons.1 hz with rfl|hz
   · exact hq
   · exact h2 z hz
theorem qbqo {l:LA}(ht:qc1 l){y z:AV}(hy:y∈l)(hz:z∈l)(h:pqY z=pqY y):z=y:=by
 obtain⟨i,hi⟩:=List.getElem?_of_mem hy
 obtain⟨j,hj⟩:=List.getElem?_of_mem hz
 have h1:atP (gB y.cells 0) (gI y.cells 1) (gI y.cells 2) (gI y.cells 3) z=true:=qbjh.2 h
 have:=qc1.uniq ht hi hj (qmb.2 ⟨rfl,rfl,rfl,rfl⟩) h1
 subst this
 rw[hi]at hj;cases hj;rfl
theorem qbw6 {z:AV}(hz:(pqY z).good){w:Bool}{ahi alo:Int}(u3:uok ahi)(u4:uok alo):qgb (gB z.cells 0) (gI z.cells 1) (gI z.cells 2) (gI z.cells 3) w ahi alo=true↔qev w ahi alo=true/\(⟨w,numP ahi alo,0⟩:Np).sub (pqY z).np:=by
 refine(qbth (v6:=gB z.cells 0) (hi:=gI z.cells 1) (lo:=gI z.cells 2) (bits:=gI z.cells 3) hz.2.1 hz.2.2 u3 u4).trans ?_
 unfold Np.sub
 constructor
 · rintro⟨_,h2,h3,h4⟩;exact⟨h2,h3.symm,Nat.zero_le _,h4.symm⟩
 · rintro⟨h1,h2,_,h4⟩;exact⟨hz.1,h1,h2.symm,h4.symm⟩
def hasA (w:Bool)(ahi alo:Int)(z:AV):Bool:=qgb (gB z.cells 0) (gI z.cells 1) (gI z.cells 2) (gI z.cells 3) w ahi alo
theorem qbdg {C:LA}(hC:qeb C):∀(n:Nat) (p:Pq),p.good->∀q,q∈qdk C n p->q.good/\q.np.sub p.np/\∀c,c∈C->ovP (pqY c) q=false
 |0,p,hp,q,hq=>by simp[qdk]at hq
 |n+1,p,hp,q,hq=>by
  unfold qdk at hq
  cases hW:C.any fun b=>winP p (pqY b)with
  |true=>simp[hW]at hq
  |false=>
   cases hO:C.any fun b=>ovP (pqY b) p with
   |false=>
    simp[hW,hO]at hq
    subst hq
    exact⟨hp,Np.sub_refl hp.np_ok,fun c hc=>by have:=List.any_eq_false.1 hO c hc;simpa using this⟩
   |true=>
    cases hh:p.half with
    |false=>simp[hW,hO,hh]at hq
    |true=>
     rw[hW,hO,hh]at hq
     simp only[cond_f,Bool.not_true,cond_t,List.mem_append]at hq
     obtain⟨s1,s2,_,_⟩:=qbw5 hp hh
     rcases hq with hq|hq
     · obtain⟨a,b,c⟩:=qbdg hC n p.low (Pq.low_good hp hh) q hq
       exact⟨a,Np.sub_trans b s1,c⟩
     · obtain⟨a,b,c⟩:=qbdg hC n p.high (Pq.high_good hp hh) q hq
       exact⟨a,Np.sub_trans b s2,c⟩
theorem qbqp (q:Pq):fitC qe q.av.cells=true:=rfl
theorem av_w (q:Pq):gB q.av.cells 0=q.v/\gI q.av.cells 1=q.hi/\gI q.av.cells 2=q.lo/\gI q.av.cells 3=q.bits:=⟨rfl,rfl,rfl,rfl⟩
def betQ (better:Int->Int->Bool)(b:Option Pq)(x:Pq):Bool:=match b with
 |none=>true
 |some q=>better x.bits q.bits
def qew (better:Int->Int->Bool)(bits:Int):Option Pq->List Pq->Option Pq
 |b,[]=>b
 |b,x::r=>qew better bits (bif decide (x.bits<=bits)&&betQ better b x then some x else b) r
theorem qvl (better:Int->Int->Bool)(bits:Int)(b:Option Pq)(x:Pq)(r:List Pq):qew better bits b (x::r)=qew better bits (bif decide (x.bits<=bits)&&betQ better b x then some x else b) r:=rfl
def pq0:Pq:=⟨false,0,0,0⟩
def outQ:Option Pq->AV×Bool
 |some q=>(q.av,true)
 |none=>(qok,false)
theorem q68 {better:Int->Int->Bool}{bits:Int}{q:Pq}:∀{F:List Pq} {b:Option Pq},qew better bits b F=some q->(b=some q\/(q∈F/\q.bits<=bits))
 |[],b,h=>.inl h
 |x::r,b,h=>by
  rw[qvl]at h
  rcases q68 h with h1|⟨h1,h2⟩
  · cases hc:decide (x.bits<=bits)&&betQ better b x with
    |true=>
     rw[hc]at h1
     simp only[cond_t]at h1
     cases h1
     rw[Bool.and_eq_true,decide_eq_true_eq]at hc
     exact .inr ⟨by simp,hc.1⟩
    |false=>rw[hc]at h1;exact .inl h1
  · exact .inr ⟨List.mem_cons_of_mem _ h1,h2⟩
theorem q5p (F:List Pq)(hF:F.length<=1000000000)(bits:Int):qfq (F.map Pq.av) bits=some (outQ (qew (fun _ _=>false) bits none F)):=by
 rw[qty];unfold qds
 rw[qq9]
 have hlen:(F.map Pq.av).length=F.length:=List.length_map _
 have key:=qch (σ:=Bool×Pq) F (by omega) (fun n i s=>qcf bits (F.map Pq.av) ((F.map Pq.av).length:Int) false 0 0 0 (fun v b0 b1 b2 b3=>some ((.agg [(.bool b0),(.int .u64 b1),(.int .u64 b2),(.int .i64 b3)]),v)) n s.1 i s.2.v s.2.hi s.2.lo s.2.bits)
  (fun i s nx=>qce bits s.1 (F.map Pq.av) ((F.map Pq.av).length:Int) i false 0 0 0 s.2.v s.2.hi s.2.lo s.2.bits (fun e i v hi lo b=>nx i (e,⟨v,hi,lo,b⟩)) (fun v b0 b1 b2 b3=>some ((.agg [(.bool b0),(.int .u64 b1),(.int .u64 b2),(.int .i64 b3)]),v))) (fun _ _ _=>rfl)
  (fun _ s=>s.1=false->s.2=pq0) (fun r s=>some (outQ (qew (fun _ _=>false) bits (bif s.1 then some s.2 else none) r))) ?_ ?_ (false,pq0) FU (fun _=>rfl) (qcp (by omega))
 · exact key
 · rintro⟨e,q⟩ nx h
   rw[<-hlen]
   unfold qce
   simp only[Int.lt_irrefl,decide_false,cond_f]
   cases e with
   |false=>rw[show q=pq0 from h rfl];rfl
   |true=>rfl
 · rintro i x r ⟨e,q⟩ nx g1 g2 g3 g4 h h5
   have ga:(F.map Pq.av)[i]?=some x.av:=by rw[List.getElem?_map,g2];rfl
   have h6:(i:Int)<((F.map Pq.av).length:Int):=by omega
   obtain⟨w0,w1,w2,w3⟩:=av_w x
   unfold qce
   simp only[h6,decide_true,cond_t,ixB_nat,ga,oB_s,qbqp,w0,w1,w2,w3,g4]
   rw[qqo];unfold qc0
   rw[qba1];unfold qln
   rw[qvl]
   cases hb:decide (x.bits<=bits)with
   |false=>simp only[cond_f,Bool.false_and];exact h5 (e,q) h
   |true=>
    cases e with
    |false=>simp only[Bool.not_false,cond_t,cond_f,Bool.true_and,betQ];exact h5 (true,x) (fun h=>by cases h)
    |true=>
     simp only[Bool.not_true,cond_t,cond_f,Bool.true_and,betQ,oB_s]
     exact h5 (true,q) (fun h=>by cases h)
theorem q5q (F:List Pq)(hF:F.length<=1000000000)(bits:Int):qfp (F.map Pq.av) bits=some (outQ (qew (fun a b=>decide (a>b)) bits none F)):=by
 rw[qtx];unfold qdr
 rw[qq7]
 have hlen:(F.map Pq.av).length=F.length:=List.length_map _
 have key:=qch (σ:=Bool×Pq) F (by omega) (fun n i s=>qcd bits (F.map Pq.av) ((F.map Pq.av).length:Int) false 0 0 0 (fun v b0 b1 b2 b3=>some ((.agg [(.bool b0),(.int .u64 b1),(.int .u64 b2),(.int .i64 b3)]),v)) n s.1 i s.2.v s.2.hi s.2.lo s.2.bits)
  (fun i s nx=>qcc bits s.1 (F.map Pq.av) ((F.map Pq.av).length:Int) i false 0 0 0 s.2.v s.2.hi s.2.lo s.2.bits (fun e i v hi lo b=>nx i (e,⟨v,hi,lo,b⟩)) (fun v b0 b1 b2 b3=>some ((.agg [(.bool b0),(.int .u64 b1),(.int .u64 b2),(.int .i64 b3)]),v))) (fun _ _ _=>rfl)
  (fun _ s=>s.1=false->s.2=pq0) (fun r s=>some (outQ (qew (fun a b=>decide (a>b)) bits (bif s.1 then some s.2 else none) r))) ?_ ?_ (false,pq0) FU (fun _=>rfl) (qcp (by omega))
 · exact key
 · rintro⟨e,q⟩ nx h
   rw[<-hlen]
   unfold qcc
   simp only[Int.lt_irrefl,decide_false,cond_f]
   cases e with
   |false=>rw[show q=pq0 from h rfl];rfl
   |true=>rfl
 · rintro i x r ⟨e,q⟩ nx g1 g2 g3 g4 h h5
   have ga:(F.map Pq.av)[i]?=some x.av:=by rw[List.getElem?_map,g2];rfl
   have h6:(i:Int)<((F.map Pq.av).length:Int):=by omega
   obtain⟨w0,w1,w2,w3⟩:=av_w x
   unfold qcc
   simp only[h6,decide_true,cond_t,ixB_nat,ga,oB_s,qbqp,w0,w1,w2,w3,g4]
   rw[qqm];unfold qcz
   rw[qba0];unfold qlm
   rw[qvl]
   cases hb:decide (x.bits<=bits)with
   |false=>simp only[cond_f,Bool.false_and];exact h5 (e,q) h
   |true=>
    cases e with
    |false=>simp only[Bool.not_false,cond_t,cond_f,Bool.true_and,betQ];exact h5 (true,x) (fun h=>by cases h)
    |true=>
     simp only[Bool.not_true,cond_t,cond_f,Bool.true_and,betQ,oB_s]
     by_cases hc:x.bits>q.bits
     · simp only[hc,decide_true,cond_t];exact h5 (true,x) (fun h=>by cases h)
     · simp only[hc,decide_false,cond_f];exact h5 (true,q) (fun h=>by cases h)
theorem q5r (F:List Pq)(hF:F.length<=1000000000)(bits:Int):qfo (F.map Pq.av) bits=some (outQ (qew (fun a b=>decide (a<b)) bits none F)):=by
 rw[qtw];unfold qdq
 rw[qq5]
 have hlen:(F.map Pq.av).length=F.length:=List.length_map _
 have key:=qch (σ:=Bool×Pq) F (by omega) (fun n i s=>qcb bits (F.map Pq.av) ((F.map Pq.av).length:Int) false 0 0 0 (fun v b0 b1 b2 b3=>some ((.agg [(.bool b0),(.int .u64 b1),(.int .u64 b2),(.int .i64 b3)]),v)) n s.1 i s.2.v s.2.hi s.2.lo s.2.bits)
  (fun i s nx=>qca bits s.1 (F.map Pq.av) ((F.map Pq.av).length:Int) i false 0 0 0 s.2.v s.2.hi s.2.lo s.2.bits (fun e i v hi lo b=>nx i (e,⟨v,hi,lo,b⟩)) (fun v b0 b1 b2 b3=>some ((.agg [(.bool b0),(.int .u64 b1),(.int .u64 b2),(.int .i64 b3)]),v))) (fun _ _ _=>rfl)
  (fun _ s=>s.1=false->s.2=pq0) (fun r s=>some (outQ (qew (fun a b=>decide (a<b)) bits (bif s.1 then some s.2 else none) r))) ?_ ?_ (false,pq0) FU (fun _=>rfl) (qcp (by omega))
 · exact key
 · rintro⟨e,q⟩ nx h
   rw[<-hlen]
   unfold qca
   simp only[Int.lt_irrefl,decide_false,cond_f]
   cases e with
   |false=>rw[show q=pq0 from h rfl];rfl
   |true=>rfl
 · rintro i x r ⟨e,q⟩ nx g1 g2 g3 g4 h h5
   have ga:(F.map Pq.av)[i]?=some x.av:=by rw[List.getElem?_map,g2];rfl
   have h6:(i:Int)<((F.map Pq.av).length:Int):=by omega
   obtain⟨w0,w1,w2,w3⟩:=av_w x
   unfold qca
   simp only[h6,decide_true,cond_t,ixB_nat,ga,oB_s,qbqp,w0,w1,w2,w3,g4]
   rw[qqk];unfold qcy
   rw[qbaz];unfold qll
   rw[qvl]
   cases hb:decide (x.bits<=bits)with
   |false=>simp only[cond_f,Bool.false_and];exact h5 (e,q) h
   |true=>
    cases e with
    |false=>simp only[Bool.not_false,cond_t,cond_f,Bool.true_and,betQ];exact h5 (true,x) (fun h=>by cases h)
    |true=>
     simp only[Bool.not_true,cond_t,cond_f,Bool.true_and,betQ,oB_s]
     by_cases hc:x.bits<q.bits
     · simp only[hc,decide_true,cond_t];exact h5 (true,x) (fun h=>by cases h)
     · simp only[hc,decide_false,cond_f];exact h5 (true,q) (fun h=>by cases h)
theorem qbr8 (F:List Pq)(hF:F.length<=1000000000)(bits sign:Int)(better:Int->Int->Bool)(hg:∀q,q∈F->0<=q.bits/\q.bits<=128)(hb:∀a b:Int,0<=a/\a<=128->0<=b/\b<=128->decide (IntKind.i64.wrap (IntKind.i64.wrap (a-b)*sign)>0)=better a b):
 qlb (F.map Pq.av) bits sign=some (outQ (qew better bits none F)):=by
 rw[qbk7];unfold qp1
 rw[q9p]
 have hlen:(F.map Pq.av).length=F.length:=List.length_map _
 have key:=qch (σ:=Bool×Pq) F (by omega) (fun n i s=>qg5 (F.map Pq.av) bits sign false 0 0 0 (fun v b0 b1 b2 b3=>some ((.agg [(.bool b0),(.int .u64 b1),(.int .u64 b2),(.int .i64 b3)]),v)) n s.1 i s.2.v s.2.hi s.2.lo s.2.bits)
  (fun i s nx=>qg4 (F.map Pq.av) bits sign s.1 i false 0 0 0 s.2.v s.2.hi s.2.lo s.2.bits (fun e i v hi lo b=>nx i (e,⟨v,hi,lo,b⟩)) (fun v b0 b1 b2 b3=>some ((.agg [(.bool b0),(.int .u64 b1),(.int .u64 b2),(.int .i64 b3)]),v))) (fun _ _ _=>rfl)
  (fun _ s=>(s.1=false->s.2=pq0)/\(s.1=true->0<=s.2.bits/\s.2.bits<=128)) (fun r s=>some (outQ (qew better bits (bif s.1 then some s.2 else none) r))) ?_ ?_ (false,pq0) FU ⟨fun _=>rfl,fun h=>by cases h⟩ (qcp (by omega))
 · exact key
 · rintro⟨e,q⟩ nx ⟨h,_⟩
   rw[<-hlen]
   unfold qg4
   simp only[Int.lt_irrefl,decide_false,cond_f]
   cases e with
   |false=>rw[show q=pq0 from h rfl];rfl
   |true=>rfl
 · rintro i x r ⟨e,q⟩ nx g1 g2 g3 g4 ⟨h,h'⟩ h5
   have ga:(F.map Pq.av)[i]?=some x.av:=by rw[List.getElem?_map,g2];rfl
   have h6:(i:Int)<((F.map Pq.av).length:Int):=by omega
   obtain⟨w0,w1,w2,w3⟩:=av_w x
   have hx:=hg x (List.mem_of_getElem? g2)
   unfold qg4
   simp only[h6,decide_true,cond_t]
   rw[q9o];unfold qkw
   simp only[ixB_nat,ga,oB_s,qbqp,cond_t,w0,w1,w2,w3,g4]
   rw[qvl]
   have n1:=h5 (true,x) ⟨fun h=>(by cases h),fun _=>hx⟩
   have n2:=h5 (e,q) ⟨h,h'⟩
   cases hd:decide (x.bits<=bits)with
   |false=>simp only[cond_f,Bool.false_and];exact n2
   |true=>
    cases e with
    |false=>simp only[Bool.not_false,cond_t,cond_f,Bool.true_and,betQ];exact n1
    |true=>
     simp only[Bool.not_true,cond_t,cond_f,Bool.true_and,betQ]
     rw[hb x.bits q.bits hx (h' rfl)]
     cases hc:better x.bits q.bits with
     |true=>exact n1
     |false=>exact n2
def frQ (l:LA)(p:Pq):List Pq:=qdk (qnj l p) (p.np.k+1) p
def qft (policy:Int)(a b:Int):Bool:=bif policy==1 then false else bif policy==2 then decide (a>b)else decide (a<b)
def qib (policy bits:Int)(q:Pq):Pq:=bif(policy==3&&decide (q.bits<bits))then q.high else q
def qvm (p:Pq)(bits policy:Int):Bool:=decide (bits<p.bits)||((decide (bits>qi p.v)||decide (policy<1))||decide (policy>3))
def qbjj (l:LA)(p:Pq)(bits policy:Int):AV×Int:=match qew (qft policy) bits none (frQ l p)with
 |none=>(qok,22)
 |some q=>(mkP (qib policy bits q).v (qib policy bits q).hi (qib policy bits q).lo bits,0)
def qd2 (l:LA)(p:Pq)(bits policy:Int):AV×Int:=match l.find? (atP p.v p.hi p.lo p.bits)with
 |none=>(qok,11)
 |some y=>bif gI y.cells 4 != 1 then(qok,21)else bif qvm p bits policy then(qok,1)else qbjj l p bits policy
theorem q69 {l:LA}(hg:qeb l)(p:Pq):qeb (qnj l p):=fun y hy=>hg y (List.mem_filter.1 hy).1
theorem qbw7 {l:LA}(hg:qeb l){p:Pq}(hp:p.good){q:Pq}(hq:q∈frQ l p):q.good/\q.np.sub p.np:=by
 obtain⟨a,b,_⟩:=qbdg (q69 hg p) _ p hp q hq
 exact⟨a,b⟩
theorem qby5 {l:LA}(hg:qeb l)(hn:l.length<=1000){p:Pq}(hp:p.good):(frQ l p).length<=200001:=
 qbnu (q69 hg p) (Nat.le_trans (List.length_filter_le _ _) hn) (by have:=hp.range.2.2.2;omega) hp
theorem qby6 {s:Pq}(hs:s.good){n:Int}(h1:s.bits<=n)(h2:n<=qi s.v):qkg s.v s.hi s.lo s.bits n=true:=by
 unfold qkg
 rw[hs.1];simp[h1,h2]
theorem qbjk {q:Pq}(hq:q.good){n:Int}(h1:q.bits<n)(h2:n<=qi q.v):q.half=true:=by
 refine(Pq.half_iff hq).2 ?_
 obtain⟨_,_,a3,_⟩:=hq.range
 omega
theorem qbdh {q:Pq}(hq:q.good){policy bits:Int}(h1:q.bits<=bits)(h2:bits<=qi q.v):(qib policy bits q).good/\(qib policy bits q).bits<=bits/\(qib policy bits q).v=q.v:=by
 unfold qib
 cases hc:(policy==3&&decide (q.bits<bits))with
 |false=>exact⟨hq,h1,rfl⟩
 |true=>
  rw[Bool.and_eq_true,decide_eq_true_eq]at hc
  exact⟨Pq.high_good hq (qbjk hq hc.2 h2),by show q.bits+1<=bits;omega,rfl⟩
noncomputable def qb0c (policy bits:Int)(x:AV):Option (AV×Int):=(bif((policy==(3:Int))&&(decide ((gI x.cells 3)<bits)))then(oB (qjz (gB x.cells 0) (gI x.cells 1) (gI x.cells 2) (gI x.cells 3)) fun r16=>(oB (qed (gB r16.2.1.cells 0) (gI r16.2.1.cells 1) (gI r16.2.1.cells 2) (gI r16.2.1.cells 3) bits (0:Int)) fun r17=>(some ((.agg [(.bool (gB r17.1.cells 0)),(.int .u64 (gI r17.1.cells 1)),(.int .u64 (gI r17.1.cells 2)),(.int .i64 (gI r17.1.cells 3))]),(0:Int)))))else(oB (qed (gB x.cells 0) (gI x.cells 1) (gI x.cells 2) (gI x.cells 3) bits (0:Int)) fun r18=>(some ((.agg [(.bool (gB r18.1.cells 0)),(.int .u64 (gI r18.1.cells 1)),(.int .u64 (gI r18.1.cells 2)),(.int .i64 (gI r18.1.cells 3))]),(0:Int)))))
theorem qb59 {q:Pq}(hq:q.good){policy bits:Int}(h1:q.bits<=bits)(h2:bits<=qi q.v):qb0c policy bits q.av=some (mkP (qib policy bits q).v (qib policy bits q).hi (qib policy bits q).lo bits,0):=by
 unfold qb0c
 obtain⟨w0,w1,w2,w3⟩:=av_w q
 rw[w0,w1,w2,w3]
 obtain⟨sg,sb,sv⟩:=qbdh (policy:=policy) hq h1 h2
 have sp:=qby6 sg sb (by rw[sv];exact h2)
 unfold qib at*
 by_cases hp3:policy=3
 · by_cases hlt:q.bits<bits
   · have hh:=qbjk hq hlt h2
     have c:(policy==3&&decide (q.bits<bits))=true:=by simp[hp3,hlt]
     rw[c]at sg sp⊢
     simp only[cond_t]at sg sp⊢
     rw[qbto _ _ _ _ hq.2.1 hq.2.2]
     have hv:qqz q.v q.hi q.lo q.bits=(q.low.av,q.high.av,true):=by
      unfold qqz
      rw[show qkh q.v q.hi q.lo q.bits=true from hh];rfl
     rw[hv]
     simp only[oB_s]
     obtain⟨z0,z1,z2,z3⟩:=av_w q.high
     rw[z0,z1,z2,z3,qbdd sg.2.1 sg.2.2,sp]
     rfl
   · have c:(policy==3&&decide (q.bits<bits))=false:=by simp[hlt]
     rw[c]at sg sp⊢
     simp only[cond_f]at sg sp⊢
     rw[qbdd hq.2.1 hq.2.2,sp];rfl
 · have c:(policy==3&&decide (q.bits<bits))=false:=by simp[hp3]
   rw[c]at sg sp⊢
   simp only[cond_f]at sg sp⊢
   rw[qbdd hq.2.1 hq.2.2,sp];rfl
theorem qb3w (l:LA)(hl:qq l)(hg:qeb l)(hn:l.length<=1000)(p:Pq)(bits policy:Int):qxt l p.v p.hi p.lo p.bits bits policy=some (qd2 l p bits policy):=by
 rw[qbge];unfold qnv qd2
 rw[qbr2 l hl,oB_s]
 cases hf:l.find? (atP p.v p.hi p.lo p.bits)with
 |none=>rw[qbqk hf];rfl
 |some y=>
  rw[qbde hl hf]
  obtain⟨hp,_⟩:=q1w hg hf
  simp only[Bool.not_true,cond_f]
  cases hk:gI y.cells 4 != 1 with
  |true=>rfl
  |false=>
   simp only[cond_f]
   have hlen:qxp p.v p.hi p.lo p.bits=some (qi p.v):=by
    rw[qbf7];unfold qnu qi
    cases p.v<;>rfl
   rw[hlen]
   simp only[oB_s]
   cases hb:qvm p bits policy with
   |true=>
    unfold qvm at hb
    by_cases h1:bits<p.bits
    · simp only[h1,decide_true,cond_t];rfl
    · simp only[h1,decide_false,cond_f,Bool.false_or]at hb⊢
      rw[hb];rfl
   |false=>
    unfold qvm at hb
    by_cases h1:bits<p.bits
    · simp[h1]at hb
    · simp only[h1,decide_false,cond_f,Bool.false_or]at hb⊢
      rw[hb]
      simp only[cond_f]
      simp only[Bool.or_eq_false_iff,decide_eq_false_iff_not]at hb
      obtain⟨⟨h2,h3⟩,h4⟩:=hb
      have hF:=qby5 hg hn hp
      have e1:q0j l p.v p.hi p.lo p.bits=some ((frQ l p).map Pq.av):=by
       rw[qb7c l hl hg hn p]
       unfold qbjg
       rw[hf]
       have:(gI y.cells 4==1)=true:=by simpa using hk
       simp only[this,cond_t];rfl
      rw[e1]
      simp only[oB_s]
      have fin:∀b:Int->Int->Bool,qft policy=b->(bif(!(outQ (qew b bits none (frQ l p))).2)then(some (qok,(22:Int)))else qb0c policy bits (outQ (qew b bits none (frQ l p))).1)=some (qbjj l p bits policy):=by
       intro b hb
       unfold qbjj
       rw[hb]
       cases hq:qew b bits none (frQ l p)with
       |none=>rfl
       |some q=>
        rcases q68 hq with h|⟨h,h'⟩
        · cases h
        · obtain⟨qg,qs⟩:=qbw7 hg hp h
          have hv:q.v=p.v:=qs.1
          simp only[outQ,Bool.not_true,cond_f]
          exact qb59 qg h' (by rw[hv];omega)
      have hpol:policy=1\/policy=2\/policy=3:=by omega
      rcases hpol with rfl|rfl|rfl
      · refine Eq.trans ?_ (fin (fun _ _=>false) (by funext a b;rfl))
        rw[q5p _ (by omega)];rfl
      · refine Eq.trans ?_ (fin (fun a b=>decide (a>b)) (by funext a b;rfl))
        rw[q5q _ (by omega)];rfl
      · refine Eq.trans ?_ (fin (fun a b=>decide (a<b)) (by funext a b;rfl))
        rw[q5r _ (by omega)];rfl
theorem qb6a {q:Pq}(hq:q.good){policy bits:Int}(h1:q.bits<=bits)(h2:bits<=qi q.v)(a:Bool)(b c d:Int):
 qly bits policy a b c d (gB q.av.cells 0) (gI q.av.cells 1) (gI q.av.cells 2) (gI q.av.cells 3) (fun b1_0 b1_1 b1_2 b1_3=>(oB (qho b1_0 b1_1 b1_2 b1_3 bits (0:Int)) fun r11=>(some ((.agg [(.bool (gB r11.1.cells 0)),(.int .u64 (gI r11.1.cells 1)),(.int .u64 (gI r11.1.cells 2)),(.int .i64 (gI r11.1.cells 3))]),(0:Int)))))=some (mkP (qib policy bits q).v (qib policy bits q).hi (qib policy bits q).lo bits,0):=by
 rw[q7x];unfold qjr
 obtain⟨w0,w1,w2,w3⟩:=av_w q
 rw[w0,w1,w2,w3]
 obtain⟨sg,sb,sv⟩:=qbdh (policy:=policy) hq h1 h2
 have sp:=qby6 sg sb (by rw[sv];exact h2)
 unfold qib at*
 by_cases hp3:policy=3
 · by_cases hlt:q.bits<bits
   · have hh:=qbjk hq hlt h2
     have c:(policy==3&&decide (q.bits<bits))=true:=by simp[hp3,hlt]
     rw[c]at sg sp⊢
     simp only[cond_t]at sg sp⊢
     rw[qbtn _ _ _ _ hq.2.1 hq.2.2]
     have hv:qqz q.v q.hi q.lo q.bits=(q.low.av,q.high.av,true):=by
      unfold qqz
      rw[show qkh q.v q.hi q.lo q.bits=true from hh];rfl
     rw[hv]
     simp only[oB_s]
     obtain⟨z0,z1,z2,z3⟩:=av_w q.high
     rw[z0,z1,z2,z3,qbdc sg.2.1 sg.2.2,sp]
     rfl
   · have c:(policy==3&&decide (q.bits<bits))=false:=by simp[hlt]
     rw[c]at sg sp⊢
     simp only[cond_f]at sg sp⊢
     rw[qbdc hq.2.1 hq.2.2,sp];rfl
 · have c:(policy==3&&decide (q.bits<bits))=false:=by simp[hp3]
   rw[c]at sg sp⊢
   simp only[cond_f]at sg sp⊢
   rw[qbdc hq.2.1 hq.2.2,sp];rfl
theorem qb7g (a b:Int)(ha:0<=a/\a<=128)(hb:0<=b/\b<=128):decide (IntKind.i64.wrap (IntKind.i64.wrap (a-b)*0)>0)=qft 1 a b:=by
 rw[w64 (i:=a-b) (by omega) (by omega),w64 (by omega) (by omega)]
 have:¬((a-b)*0>0):=by omega
 simp only[this,decide_false];rfl
theorem qb7h (a b:Int)(ha:0<=a/\a<=128)(hb:0<=b/\b<=128):decide (IntKind.i64.wrap (IntKind.i64.wrap (a-b)*1)>0)=qft 2 a b:=by
 rw[w64 (i:=a-b) (by omega) (by omega),w64 (by omega) (by omega)]
 show _=decide (a>b)
 by_cases h:a>b
 · have:(a-b)*1>0:=by omega
   simp only[this,h,decide_true]
 · have:¬((a-b)*1>0):=by omega
   simp only[this,h,decide_false]
theorem qb7i (a b:Int)(ha:0<=a/\a<=128)(hb:0<=b/\b<=128):decide (IntKind.i64.wrap (IntKind.i64.wrap (a-b)*(-1))>0)=qft 3 a b:=by
 rw[w64 (i:=a-b) (by omega) (by omega),w64 (by omega) (by omega)]
 show _=decide (a<b)
 by_cases h:a<b
 · have:(a-b)*(-1)>0:=by omega
   simp only[this,h,decide_true]
 · have:¬((a-b)*(-1)>0):=by omega
   simp only[this,h,decide_false]
theorem qb3x {l:LA}(hg:qeb l){p:Pq}(hp:p.good):∀q,q∈frQ l p->0<=q.bits/\q.bits<=128:=fun q hq=>by
 obtain⟨a1,a2,_⟩:=(qbw7 hg hp hq).1.range
 have:=qfb q.v
 omega
theorem qb3y {l:LA}(hl:qq l)(hg:qeb l)(hn:l.length<=1000){p:Pq}{y:AV}(hf:l.find? (atP p.v p.hi p.lo p.bits)=some y)(hk:(gI y.cells 4 != 1)=false):qv3 l p.v p.hi p.lo p.bits=some ((frQ l p).map Pq.av):=by
 rw[qb56 l hl hg hn p]
 unfold qbjg
 rw[hf]
 have:(gI y.cells 4==1)=true:=by simpa using hk
 simp only[this,cond_t];rfl
theorem qb15 (l:LA)(hl:qq l)(hg:qeb l)(hn:l.length<=1000)(p:Pq)(bits policy:Int):qye l p.v p.hi p.lo p.bits bits policy=some (qd2 l p bits policy):=by
 rw[qbhk];unfold qoc qd2
 rw[qbjd l hl,oB_s]
 cases hf:l.find? (atP p.v p.hi p.lo p.bits)with
 |none=>rw[qbqk hf];rfl
 |some y=>
  rw[qbde hl hf]
  obtain⟨hp,_⟩:=q1w hg hf
  simp only[Bool.not_true,cond_f]
  cases hk:gI y.cells 4 != 1 with
  |true=>rfl
  |false=>
   simp only[cond_f]
   have hlen:qyb p.v p.hi p.lo p.bits=some (qi p.v):=by
    rw[qbhe];unfold qoa qi
    cases p.v<;>rfl
   rw[q9m];unfold qku
   rw[hlen]
   have e0:(bif decide (bits>=p.bits)then(oB (some (qi p.v)) fun r1=>some (decide (bits<=r1)))else some false)=some (decide (bits>=p.bits)&&decide (bits<=qi p.v)):=by
    by_cases h:bits>=p.bits
    · simp only[h,decide_true,cond_t,oB_s,Bool.true_and]
    · simp only[h,decide_false,cond_f,Bool.false_and]
   rw[e0]
   simp only[oB_s]
   have e1:(((!(decide (bits>=p.bits)&&decide (bits<=qi p.v)))||decide (policy<1))||decide (policy>3))=qvm p bits policy:=by
    unfold qvm
    by_cases a:bits<p.bits
    · have:¬bits>=p.bits:=by omega
      simp[a,this]
    · have:bits>=p.bits:=by omega
      by_cases b:bits>qi p.v
      · have hb:¬bits<=qi p.v:=by omega
        simp[a,b,this,hb]
      · have hb:bits<=qi p.v:=by omega
        simp[a,b,this,hb]
   rw[e1]
   cases hb:qvm p bits policy with
   |true=>rfl
   |false=>
    simp only[cond_f]
    unfold qvm at hb
    simp only[Bool.or_eq_false_iff,decide_eq_false_iff_not]at hb
    obtain⟨h1,⟨h2,h3⟩,h4⟩:=hb
    have hF:=qby5 hg hn hp
    have fin:(bif(!(outQ (qew (qft policy) bits none (frQ l p))).2)then(some (qok,(22:Int)))else qly bits policy false 0 0 0 (gB (outQ (qew (qft policy) bits none (frQ l p))).1.cells 0) (gI (outQ (qew (qft policy) bits none (frQ l p))).1.cells 1) (gI (outQ (qew (qft policy) bits none (frQ l p))).1.cells 2) (gI (outQ (qew (qft policy) bits none (frQ l p))).1.cells 3) (fun b1_0 b1_1 b1_2 b1_3=>(oB (qho b1_0 b1_1 b1_2 b1_3 bits (0:Int)) fun r11=>(some ((.agg [(.bool (gB r11.1.cells 0)),(.int .u64 (gI r11.1.cells 1)),(.int .u64 (gI r11.1.cells 2)),(.int .i64 (gI r11.1.cells 3))]),(0:Int))))))=some (qbjj l p bits policy):=by
     unfold qbjj
     cases hq:qew (qft policy) bits none (frQ l p)with
     |none=>rfl
     |some q=>
      rcases q68 hq with h|⟨h,h'⟩
      · cases h
      · obtain⟨qg,qs⟩:=qbw7 hg hp h
        have hv:q.v=p.v:=qs.1
        simp only[outQ,Bool.not_true,cond_f]
        exact qb6a qg h' (by rw[hv];omega) _ _ _ _
    have hb:=qb3x hg hp
    have hpol:policy=1\/policy=2\/policy=3:=by omega
    rw[q7t];unfold qjp
    simp only[q7v];unfold qjq
    rw[qb3y hl hg hn hf hk]
    rcases hpol with rfl|rfl|rfl
    · refine Eq.trans ?_ fin
      show(oB (qlb ((frQ l p).map Pq.av) bits 0) fun r6=>_)=_
      rw[qbr8 _ (by omega) bits 0 (qft 1) hb qb7g];rfl
    · refine Eq.trans ?_ fin
      show(oB (qlb ((frQ l p).map Pq.av) bits 1) fun r6=>_)=_
      rw[qbr8 _ (by omega) bits 1 (qft 2) hb qb7h];rfl
    · refine Eq.trans ?_ fin
      show(oB (qlb ((frQ l p).map Pq.av) bits (-1)) fun r6=>_)=_
      rw[qbr8 _ (by omega) bits (-1) (qft 3) hb qb7i];rfl
structure Chosen (l:LA)(p q:Pq)(bits:Int):Prop where
 good:q.good
 bits:q.bits=bits
 sub:q.np.sub p.np
 pg:p.good
 free:∀d,d∈qnj l p->ovP (pqY d) q=false
theorem qyx {l:LA}(hg:qeb l)(p:Pq)(bits policy:Int):(∃e,qd2 l p bits policy=(qok,e)/\e≠0)\/∃q,qd2 l p bits policy=(q.av,0)/\Chosen l p q bits:=by
 unfold qd2
 cases hf:l.find? (atP p.v p.hi p.lo p.bits)with
 |none=>exact .inl ⟨11,rfl,by decide⟩
 |some y=>
  obtain⟨hp,_⟩:=q1w hg hf
  simp only
  cases hk:gI y.cells 4 != 1 with
  |true=>exact .inl ⟨21,rfl,by decide⟩
  |false=>
   simp only[cond_f]
   cases hb:qvm p bits policy with
   |true=>exact .inl ⟨1,rfl,by decide⟩
   |false=>
    simp only[cond_f]
    unfold qvm at hb
    simp only[Bool.or_eq_false_iff,decide_eq_false_iff_not]at hb
    obtain⟨h1,⟨h2,h3⟩,h4⟩:=hb
    unfold qbjj
    cases hq:qew (qft policy) bits none (frQ l p)with
    |none=>exact .inl ⟨22,rfl,by decide⟩
    |some q=>
     rcases q68 hq with h|⟨h,h'⟩
     · cases h
     · obtain⟨qg,qs,qf⟩:=qbdg (q69 hg p) _ p hp q h
       have hv:q.v=p.v:=qs.1
       obtain⟨sg,sb,sv⟩:=qbdh (policy:=policy) qg h' (by rw[hv];omega)
       have ss:(qib policy bits q).np.sub q.np:=by
        unfold qib
        cases hc:(policy==3&&decide (q.bits<bits))with
        |false=>exact Np.sub_refl qg.np_ok
        |true=>
         rw[Bool.and_eq_true,decide_eq_true_eq]at hc
         exact(qbw5 qg (qbjk qg hc.2 (by rw[hv];omega))).2.1
       simp only
       generalize qib policy bits q=s at*
       obtain⟨b1,b2,b3,b4⟩:=sg.range
       have hkk:kOf s.v bits<=s.np.k:=by
        show kOf s.v bits<=kOf s.v s.bits
        unfold kOf;omega
       have gq:(⟨s.v,s.hi,s.lo,bits⟩:Pq).good:=by
        refine⟨(qyu sg.2.1 sg.2.2).2 ⟨(qd9 sg.1).2.2,by show 0<=bits;omega,by show bits<=qi s.v;rw[sv,hv];omega,?_⟩,sg.2⟩
        exact Nat.mod_eq_zero_of_dvd (Nat.dvd_trans (qbje hkk) (Nat.dvd_of_mod_eq_zero sg.np_ok))
       have gs:(⟨s.v,s.hi,s.lo,bits⟩:Pq).np.sub s.np:=⟨rfl,hkk,by
        have:=sg.np_ok
        unfold Np.ok at this
        show s.np.n-s.np.n%2^s.np.k=s.np.n
        rw[this];rfl⟩
       refine .inr ⟨⟨s.v,s.hi,s.lo,bits⟩,rfl,gq,rfl,Np.sub_trans gs (Np.sub_trans ss qs),hp,fun d hd=> ?_⟩
       cases ho:ovP (pqY d) ⟨s.v,s.hi,s.lo,bits⟩with
       |false=>rfl
       |true=>
        have:=qbiv qg gq (q69 hg p d hd) (Np.sub_trans gs ss) ho
        rw[qf d hd]at this;cases this
def qe4 (l:LA)(p:Pq)(bits policy:Int)(nm ow:LU):List AV×AV×Int:=
 bif(qd2 l p bits policy).2 != 0 then([],qok,(qd2 l p bits policy).2)else
 bif(addF l (mkB (gB (qd2 l p bits policy).1.cells 0) (gI (qd2 l p bits policy).1.cells 1) (gI (qd2 l p bits policy).1.cells 2) (gI (qd2 l p bits policy).1.cells 3) 2 nm ow 0)).2 != 0 then([],qok,(addF l (mkB (gB (qd2 l p bits policy).1.cells 0) (gI (qd2 l p bits policy).1.cells 1) (gI (qd2 l p bits policy).1.cells 2) (gI (qd2 l p bits policy).1.cells 3) 2 nm ow 0)).2)
 else((addF l (mkB (gB (qd2 l p bits policy).1.cells 0) (gI (qd2 l p bits policy).1.cells 1) (gI (qd2 l p bits policy).1.cells 2) (gI (qd2 l p bits policy).1.cells 3) 2 nm ow 0)).1,(qd2 l p bits policy).1,0)
theorem qbaq {q:Pq}(hq:q.good){nm ow:LU}(h1:nm.length<=9223372036854775807)(h2:ow.length<=9223372036854775807):qkf (mkB q.v q.hi q.lo q.bits 2 nm ow 0):=
 ⟨rfl,hq.2.1,hq.2.2,by show nm.length<=_;omega,by show ow.length<=_;omega⟩
theorem qbqq (l:LA)(hl:qq l)(ht:qc1 l)(hn:l.length<=1000)(p:Pq)(bits policy:Int)(nm ow:LU)(h1:nm.length<=9223372036854775807)(h2:ow.length<=9223372036854775807):
 qnw l p.v p.hi p.lo p.bits bits policy nm ow=some (qe4 l p bits policy nm ow):=by
 have hg:=qni hl ht
 rw[qba2];unfold qlo qe4
 rw[qb3w l hl hg hn]
 simp only[oB_s]
 rcases qyx hg p bits policy with⟨e,he,hne⟩|⟨q,hq,hc⟩
 · rw[he]
   have:(e != 0)=true:=by simpa using hne
   simp only[this,cond_t];rfl
 · rw[hq]
   obtain⟨w0,w1,w2,w3⟩:=av_w q
   simp only[bne_self_eq_false,cond_f,w0,w1,w2,w3]
   rw[qb4x l hl (by omega) ht q.v q.hi q.lo q.bits 2 nm ow 0 (qbaq hc.good h1 h2)]
   simp only[oB_s]
   cases(addF l (mkB q.v q.hi q.lo q.bits 2 nm ow 0)).2 != 0<;>rfl
theorem qblz (l:LA)(hl:qq l)(ht:qc1 l)(hn:l.length<=1000)(p:Pq)(bits policy:Int)(nm ow:LU)(h1:nm.length<=9223372036854775807)(h2:ow.length<=9223372036854775807):
 qod l p.v p.hi p.lo p.bits bits policy nm ow=some (qe4 l p bits policy nm ow):=by
 have hg:=qni hl ht
 rw[qbb3];unfold qlz qe4
 rw[qb15 l hl hg hn]
 simp only[oB_s]
 rcases qyx hg p bits policy with⟨e,he,hne⟩|⟨q,hq,hc⟩
 · rw[he]
   have:(e != 0)=true:=by simpa using hne
   simp only[this,cond_t];rfl
 · rw[hq]
   obtain⟨w0,w1,w2,w3⟩:=av_w q
   simp only[bne_self_eq_false,cond_f,w0,w1,w2,w3]
   rw[qbwx l hl (by omega) q.v q.hi q.lo q.bits 2 nm ow 0 (qbaq hc.good h1 h2)]
   simp only[oB_s]
   cases(addF l (mkB q.v q.hi q.lo q.bits 2 nm ow 0)).2 != 0<;>rfl
theorem qb3z {l:LA}{b:AV}:(addF l b).1=[]\/(addF l b).1=insF b l:=by
 unfold addF
 cases !qoj b with
 |true=>exact .inl rfl
 |false=>
 cases !mayB b with
 |true=>exact .inl rfl
 |false=>
 cases l.any (atP (gB b.cells 0) (gI b.cells 1) (gI b.cells 2) (gI b.cells 3))with
 |true=>exact .inl rfl
 |false=>
 cases(l.any (qbj b)||occF l (gB b.cells 0) (gI b.cells 1) (gI b.cells 2) (gI b.cells 3))with
 |true=>exact .inl rfl
 |false=>
 cases decide ((l.length:Int)>=512)with
 |true=>exact .inl rfl
 |false=>exact .inr rfl
def labC (c:UInt8):Bool:=(decide (97<=c.toNat)&&decide (c.toNat<=122))||(decide (48<=c.toNat)&&decide (c.toNat<=57))||c.toNat==45||c.toNat==95
def q7a (x:LU):Bool:=x==[42]||(decide (1<=x.length)&&decide (x.length<=63)&&x.all labC)
theorem qb16 (x:LU)(hx:x.length<=9223372036854775807):qwc x=some (q7a x):=by
 rw[qbes]
 unfold qmu
 rw[q54,qf8 x hx (qfg x fun _=>some true) (fun i nx=>qff x i nx fun _=>some true) (fun _ _=>rfl) (fun r=>some (r.all labC))]
 · unfold q7a
   by_cases h1:x=[42]
   · simp[h1]
   · have e1:(x==[42])=false:=by simpa using h1
     rw[e1]
     by_cases h2:x.length<1
     · have:x.length=0:=by omega
       simp[this]
     · by_cases h3:63<x.length
       · have e:¬x.length<=63:=by omega
         have e':(63:Int)<(x.length:Int):=by omega
         simp[e,e']
       · have a1:¬((x.length:Int)<1):=by omega
         have a2:¬((63:Int)<(x.length:Int)):=by omega
         have a3:1<=x.length:=by omega
         have a4:x.length<=63:=by omega
         simp[a1,a2,a3,a4]
 · intro nx;simp[qff]
 · intro i a r nx h1 h2 h3 h4 h5
   have h6:(i:Int)<(x.length:Int):=by omega
   have key:∀kn:Bool->Option Bool,qps x i (a.toNat:Int) kn=kn (!labC a):=by
    intro kn
    have co:∀(p a b:Bool),(bif p then kn a else kn b)=kn (bif p then a else b):=by intro p;cases p<;>intros<;>rfl
    rw[q53]
    unfold qit labC
    simp only[co]
    have fin:∀n:Fin 256,(bif(decide ((n.val:Int)>=(97:Int)))&&(decide ((n.val:Int)<=(122:Int)))then false else(bif(decide ((n.val:Int)>=(48:Int)))then(!(((decide ((n.val:Int)<=(57:Int)))||((n.val:Int)==(45:Int)))||((n.val:Int)==(95:Int))))else(!(((n.val:Int)==(45:Int))||((n.val:Int)==(95:Int))))))=
     !((decide (97<=n.val)&&decide (n.val<=122))||(decide (48<=n.val)&&decide (n.val<=57))||n.val==45||n.val==95):=by decide+kernel
    exact congrArg kn (fin ⟨a.toNat,a.toNat_lt⟩)
   unfold qff
   simp only[h6,decide_true,cond_t,ixB_nat,h2,oB_s,key,h4]
   cases h7:labC a
   · simp[h7]
   · simp only[Bool.not_true,cond_t,cond_f,h5,List.all_cons,h7,Bool.true_and]
def spl:List UInt8->List UInt8->List (List UInt8)
 |_,[]=>[]
 |cur,c::r=>if c=46 then cur::spl [] r else spl (cur++[c]) r
def qoy (x:LU):Bool:=decide (2<=x.length)&&decide (x.length<=254)&&x.getLast? ==some 46
def qoz:Bool->List (List UInt8)->Bool
 |_,[]=>true
 |f,l::ls=>q7a l&&(f|| !(l==[42]))&&qoz false ls
def qjb (x:LU):List (List UInt8)×Bool:=
 if x=[46]then([],true)else if qoy x=true/\qoz true (spl [] x)=true then(spl [] x,true)else([],false)
def qbd (x:LU):Bool:=(qjb x).2
def avS (l:List (List UInt8)):List AV:=l.map AV.str
theorem qbr9:∀(r cur:LU),(spl cur r).length<=r.length
 |[],_=>by simp[spl]
 |c::r,cur=>by
  unfold spl;split
  · have:=qbr9 r [];simp;omega
  · have:=qbr9 r (cur++[c]);simp;omega
theorem qb30 (x:LU)(hx:x.length<=254)(kx:List AV->Option (List AV×Bool)):
 qs3 x kx FU 0 0 []=if qoz true (spl [] x)=true then kx (avS (spl [] x))else some ([],false):=by
 rw[q86]
 let S:(Int×Int×List AV)->Option (List AV×Bool):=fun s=>
  if qoz (decide (s.1=0)) (spl ((x.take s.2.1.toNat).drop s.1.toNat) (x.drop s.2.1.toNat))=true then kx (s.2.2++avS (spl ((x.take s.2.1.toNat).drop s.1.toNat) (x.drop s.2.1.toNat)))else some ([],false)
 have key:=qbja (fun n (s:Int×Int×List AV)=>qgw x kx n s.1 s.2.1 s.2.2) (fun s nx=>qgv x s.1 s.2.1 s.2.2 (fun a b c=>nx (a,b,c)) kx) (fun _ _=>rfl)
  (fun s=>0<=s.1/\s.1<=s.2.1/\s.2.1<=x.length/\s.2.2.length<=s.2.1) (fun s=>(x.length-s.2.1).toNat) S ?_ FU (0,0,[]) (by simp) (qcp (by simp;omega))
 · have e:S (0,0,[])=if qoz true (spl [] x)=true then kx (avS (spl [] x))else some ([],false):=by simp[S]
   rw[<-e];exact key
 · rintro⟨st,i,acc⟩ ⟨h0,h1,h2,h3⟩ nx hn
   simp only at h0 h1 h2 h3
   obtain⟨i,rfl⟩:∃j:Nat,i=j:=⟨i.toNat,by omega⟩
   obtain⟨st,rfl⟩:∃j:Nat,st=j:=⟨st.toNat,by omega⟩
   have hw:IntKind.i64.wrap ((i:Int)+1)=((i+1:Nat):Int):=w64 (by omega) (by omega)
   simp only[S,Int.toNat_natCast]
   by_cases hlt:i<x.length
   · have hd:x.drop i=x[i]::x.drop (i+1):=List.drop_eq_getElem_cons hlt
     have hi:x[i]?=some x[i]:=by simp[hlt]
     have ht:x.take (i+1)=x.take i++[x[i]]:=(List.take_append_getElem hlt).symm
     have hlt':(i:Int)<(x.length:Int):=by omega
     unfold qgv
     simp only[hlt',decide_true,cond_t,ixB_nat,hi,oB_s,hw]
     by_cases hc:x[i]=46
     · have hc':(((x[i]).toNat:Int) != 46)=false:=by rw[hc];rfl
       have hcut:cutI x (some (st:Int)) (some (i:Int))=some ((x.take i).drop st):=by
        simp only[cutI,Option.getD_some,Int.toNat_natCast]
        rw[if_pos ⟨by omega,by omega,by omega⟩]
       have hsl:((x.take i).drop st).length<=9223372036854775807:=by simp;omega
       simp only[hc',cond_f,hcut,oB_s,hd_self,Bool.and_true,cond_t,q85,qkp,qb16 _ hsl]
       have hsz:(acc.length+1)*16<=140737488355328:=by omega
       have hnx:=hn (((i+1:Nat):Int),((i+1:Nat):Int),acc++[.str ((x.take i).drop st)]) ⟨by simp;omega,by simp,by simp;omega,by simp;omega⟩ (by simp;omega)
       simp only[S,Int.toNat_natCast]at hnx
       have hz:(x.take (i+1)).drop (i+1)=[]:=by simp
       rw[hz]at hnx
       have hne:decide (((i+1:Nat):Int)=0)=false:=by simp;omega
       rw[hne]at hnx
       rw[hd]
       simp only[spl,hc,if_true,qoz]
       cases hl:q7a ((x.take i).drop st)
       · simp
       · by_cases hstar:(x.take i).drop st=[42]
         · rw[hstar]at hnx⊢
           by_cases h00:st=0
           · have e1:decide ((st:Int)>0)=false:=by simp;omega
             have e2:decide ((st:Int)=0)=true:=by simp;omega
             simp only[e1,e2,Bool.not_true,cond_f,cond_t,beq_self_eq_true,List.length_singleton,hsz,decide_true,Bool.true_or,Bool.and_true,Bool.true_and]
             rw[hnx]
             simp[avS,List.append_assoc]
           · have e1:decide ((st:Int)>0)=true:=by simp;omega
             have e2:decide ((st:Int)=0)=false:=by simp;omega
             have e3:0<st:=by omega
             simp[e1,e2,e3,h00]
         · have e1:((x.take i).drop st==[42])=false:=by simpa using hstar
           simp only[e1,Bool.not_true,cond_f,cond_t,Bool.not_false,Bool.or_true,Bool.and_true,Bool.true_and,List.length_singleton,hsz,decide_true]
           rw[hnx]
           simp[avS,List.append_assoc]
     · have hc':(((x[i]).toNat:Int) != 46)=true:=by
        have:(x[i]).toNat≠46:=fun h=>hc (by rw[<-UInt8.toNat_inj];exact h)
        simp;omega
       simp only[hc',cond_t]
       have hnx:=hn ((st:Int),((i+1:Nat):Int),acc) ⟨by simp,by simp;omega,by simp;omega,by simp;omega⟩ (by simp;omega)
       simp only[S,Int.toNat_natCast]at hnx
       rw[hnx,hd]
       simp only[spl,hc,if_false]
       have e:(x.take (i+1)).drop st=(x.take i).drop st++[x[i]]:=by
        rw[ht,List.drop_append_of_le_length (by simp;omega)]
       rw[e]
   · have:i=x.length:=by omega
     subst this
     unfold qgv
     simp[spl,qoz,avS]
theorem q32 (x:LU)(hx:x.length<=9223372036854775807):qfv x=some (avS (qjb x).1,(qjb x).2):=by
 rw[qbkv]
 unfold qpt qjb
 by_cases h1:x=[46]
 · simp[h1,avS]
 · have e1:(x==[46])=false:=by simpa using h1
   rw[if_neg h1]
   simp only[e1,cond_f,q83,qko,hd_self,Bool.and_true,cond_t]
   by_cases h2:2<=x.length/\x.length<=254
   · have a1:¬((x.length:Int)<2):=by omega
     have a2:¬((254:Int)<(x.length:Int)):=by omega
     have hw:IntKind.i64.wrap ((x.length:Int)-1)=((x.length-1:Nat):Int):=by rw[w64 (by omega) (by omega)];omega
     have hi:x[x.length-1]?=some (x[x.length-1]'(by omega)):=by simp<;>omega
     have hl:x.getLast? =some (x[x.length-1]'(by omega)):=by rw[List.getLast?_eq_getElem?,hi]
     simp only[a1,gt_iff_lt,a2,decide_false,Bool.or_false,cond_f,hw,ixB_nat,hi,oB_s]
     by_cases h3:x[x.length-1]'(by omega)=46
     · have h3':(((x[x.length-1]'(by omega)).toNat:Int) != 46)=false:=by rw[h3];rfl
       have hok:qoy x=true:=by simp[qoy,h2.1,h2.2,hl,h3]
       simp only[h3',cond_f]
       rw[qb30 x h2.2]
       by_cases h4:qoz true (spl [] x)=true
       · simp[hok,h4]
       · simp[hok,h4,avS]
     · have h3':(((x[x.length-1]'(by omega)).toNat:Int) != 46)=true:=by
        have:(x[x.length-1]'(by omega)).toNat≠46:=fun h=>h3 (by rw[<-UInt8.toNat_inj];exact h)
        simp;omega
       have hok:qoy x=false:=by simp[qoy,hl,h3]
       simp only[h3',cond_t]
       simp[hok,avS]
   · have hok:qoy x=false:=by
      unfold qoy
      by_cases h:2<=x.length
      · have:¬x.length<=254:=fun h'=>h2 ⟨h,h'⟩
        simp[this]
      · simp[h]
     have a:(decide ((x.length:Int)<2)||decide ((x.length:Int)>254))=true:=by
      simp;omega
     simp only[a,cond_t]
     simp[hok,avS]
theorem qbiy (x:LU)(hx:x.length<=9223372036854775807):qoq x=some (qbd x):=by
 rw[qbkw]
 unfold qpu
 rw[q32 x hx];rfl
def qem:List UInt8->List UInt8->List (List UInt8)
 |cur,[]=>[cur]
 |cur,c::r=>if c=46 then cur::qem [] r else qem (cur++[c]) r
theorem q1x:∀(s cur:LU),(qem cur s).length=s.count 46+1
 |[],cur=>rfl
 |c::r,cur=>by
  unfold qem
  split
  · rename_i h;subst h;simp[q1x r]
  · rename_i h
    rw[q1x r,List.count_cons_of_ne (fun e=>h e)]
theorem qbqr:∀(s cur:LU),s.count 46=0->qem cur s=[cur++s]
 |[],cur,_=>by simp[qem]
 |c::r,cur,h=>by
  unfold qem
  split
  · rename_i h';subst h';simp at h
  · rename_i h'
    rw[List.count_cons_of_ne (fun e=>h' e)]at h
    rw[qbqr r _ h]
    simp
theorem qbqs:∀(s cur:LU),0<s.count 46->∃pre post,s=pre++46::post/\Lib.indexByte s 46=(pre.length:Int)/\qem cur s=(cur++pre)::qem [] post
 |[],cur,h=>by simp at h
 |c::r,cur,h=>by
  by_cases h':c=46
  · subst h'
    exact⟨[],r,rfl,by simp[Lib.indexByte],by simp[qem]⟩
  · rw[List.count_cons_of_ne (fun e=>h' e)]at h
    obtain⟨pre,post,h1,h2,h3⟩:=qbqs r (cur++[c]) h
    refine⟨c::pre,post,by simp[h1],?_,?_⟩
    · have hb:(c==46)=false:=by simpa using h'
      have hn:¬((Lib.indexByte r 46)= -1):=by omega
      unfold Lib.indexByte
      simp[hb,hn,h2]
    · show(if c=46 then cur::qem [] r else qem (cur++[c]) r)=_
      rw[if_neg h',h3]
      simp
theorem qb6b (s:LU):qvv s [46]=some (Lib.indexByte s 46):=by
 rw[qbmk];unfold qrt
 rw[qba4];unfold qlq
 rw[q4d];unfold qhx q3p
 by_cases h:([46]:List UInt8)=s
 · subst h;rfl
 · have hb:(([46]:List UInt8)==s)=false:=by simpa using h
   rw[hb]
   rfl
theorem qb6c (s:LU):q2a s [46]=some ((s.count 46:Nat):Int):=by
 rw[qbml];unfold qru q3o Lib.countByte
 rfl
theorem qb6d (pre post:LU):cutI (pre++46::post) none (some ((pre.length:Nat):Int))=some pre:=by
 unfold cutI
 simp only[Option.getD_none,Option.getD_some]
 rw[if_pos ⟨by omega,by omega,by simp;omega⟩]
 simp
theorem qb31 (pre post:LU):cutI (pre++46::post) (some ((pre.length+1:Nat):Int)) none=some post:=by
 unfold cutI
 simp only[Option.getD_none,Option.getD_some]
 rw[if_pos ⟨by omega,by simp;omega,by omega⟩]
 rw[Int.toNat_natCast,Int.toNat_natCast,List.take_length]
 rw[List.drop_append]
 simp
theorem qby7 (s:LU)(hs:s.length<=1000000000):qvw s [46]=some ((qem [] s).map AV.str):=by
 rw[qbmm];unfold qrv
 rw[qbeb];unfold qmj
 have hc:s.count 46<=s.length:=List.count_le_length
 have w1:IntKind.i64.wrap (((s.count 46:Nat):Int)+1)=((s.count 46+1:Nat):Int):=w64 (by omega) (by omega)
 have w2:IntKind.i64.wrap ((s.length:Int)+1)=((s.length+1:Nat):Int):=w64 (by omega) (by omega)
 have hm:(if((s.length+1:Nat):Int)<((s.count 46+1:Nat):Int)then((s.length+1:Nat):Int)else((s.count 46+1:Nat):Int))=((s.count 46+1:Nat):Int):=if_neg (by omega)
 have hd1:decide (0<=((s.count 46+1:Nat):Int)/\((s.count 46+1:Nat):Int)<=((s.count 46+1:Nat):Int)/\((s.count 46+1:Nat):Int)*16<=281474976710656)=true:=decide_eq_true ⟨by omega,by omega,by omega⟩
 have w3:IntKind.i64.wrap (((s.count 46+1:Nat):Int)-1)=((s.count 46:Nat):Int):=by rw[w64 (by omega) (by omega)];omega
 have b1:(((-1:Int))==0)=false:=rfl
 have b2:(([46]:List UInt8)==([]:List UInt8))=false:=rfl
 have b3:decide ((-1:Int)<0)=true:=rfl
 simp only[b1,b2,cond_f,q5w,qir,b3,cond_t,qb6c,oB_s,w1,w2,hm,hd1,hd_self,Bool.and_true,w3,Int.toNat_natCast]
 generalize hn:s.count 46=n at*
 rw[q5x]
 let kx:List UInt8->Int->List AV->Option (List AV):=fun v0 v10 a0=>(bif decide (0<=v10/\v10<a0.length)then(oB (a0[v10.toNat]?) fun y1=>(oB (putE y1 0 1 [(.str v0)]) fun z2=>(bif hd (a0.set v10.toNat z2) a0.length then(oB (cutI (a0.set v10.toNat z2) none (some (IntKind.i64.wrap (v10+1)))) fun s3=>(some s3))else none)))else none)
 have key:=qbja (fun k (q:List UInt8×Int×List AV)=>qdi [46] 0 (n:Int) kx k q.1 q.2.1 q.2.2)
  (fun q nx=>qfd q.1 [46] 0 (n:Int) q.2.1 q.2.2 (fun a b c=>nx (a,(b,c))) kx) (fun _ _=>rfl)
  (fun q=>∃dn:List (List UInt8),q.2.1=dn.length/\q.2.2=dn.map AV.str++List.replicate (n+1-dn.length) (AV.str [])/\dn.length<=n/\q.1.count 46=n-dn.length/\dn++qem [] q.1=qem [] s/\q.1.length<=1000000000)
  (fun q=>n-q.2.1.toNat) (fun q=>some ((qem [] s).map AV.str)) ?_ FU (s,(0,List.replicate (n+1) (AV.str []))) ⟨[],rfl,by simp,by simp,by simpa using hn,rfl,hs⟩ (qcp (by simp;omega))
 · have key':qdi [46] 0 (n:Int) kx FU s 0 (List.replicate (n+1) (AV.str []))=some ((qem [] s).map AV.str):=key
   show oB (qdi [46] 0 (n:Int) kx FU s 0 (List.replicate (n+1) (AV.str []))) _=_
   rw[key']
   rfl
 · rintro⟨v0,v10,a0⟩ ⟨dn,rfl,rfl,h1,h2,h3,h5⟩ nx hnx
   simp only at h1 h2 h3 h5
   show qfd v0 [46] 0 (n:Int) (dn.length:Int) (dn.map AV.str++List.replicate (n+1-dn.length) (AV.str [])) (fun a b c=>nx (a,(b,c))) kx=some ((qem [] s).map AV.str)
   have hlen:(dn.map AV.str++List.replicate (n+1-dn.length) (AV.str [])).length=n+1:=by simp;omega
   have hget:(dn.map AV.str++List.replicate (n+1-dn.length) (AV.str []))[dn.length]?=some (.str []):=by
    rw[List.getElem?_append_right (by simp)]
    simp only[List.length_map,Nat.sub_self]
    rw[List.getElem?_replicate,if_pos (by omega)]
   have hdec:decide (0<=(dn.length:Int)/\(dn.length:Int)<((dn.map AV.str++List.replicate (n+1-dn.length) (AV.str [])).length:Int))=true:=decide_eq_true ⟨by omega,by rw[hlen];omega⟩
   have hset:∀x,(dn.map AV.str++List.replicate (n+1-dn.length) (AV.str [])).set dn.length (.str x)=(dn++[x]).map AV.str++List.replicate (n+1-(dn.length+1)) (AV.str []):=by
    intro x
    rw[List.set_append_right _ _ (by simp)]
    simp only[List.length_map,Nat.sub_self]
    rw[show n+1-dn.length=(n+1-(dn.length+1))+1 by omega,List.replicate_succ]
    simp
   have hhd:∀x,hd ((dn.map AV.str++List.replicate (n+1-dn.length) (AV.str [])).set dn.length (.str x)) (dn.map AV.str++List.replicate (n+1-dn.length) (AV.str [])).length=true:=fun x=>by simp[hd]
   unfold qfd
   by_cases hlt:dn.length<n
   · have c1:decide ((dn.length:Int)<(n:Int))=true:=decide_eq_true (by omega)
     obtain⟨pre,post,e1,e2,e3⟩:=qbqs v0 [] (by omega)
     subst e1
     have hpl:pre.length+1+post.length=(pre++46::post).length:=by simp;omega
     generalize hv:pre++46::post=v0 at*
     have c2:decide (Lib.indexByte v0 46<0)=false:=decide_eq_false (by omega)
     have w4:IntKind.i64.wrap (Lib.indexByte v0 46+0)=(pre.length:Int):=by rw[e2,w64 (by omega) (by omega)];omega
     have w5:IntKind.i64.wrap (Lib.indexByte v0 46+(([46]:List UInt8).length:Int))=((pre.length+1:Nat):Int):=by rw[e2];simp;rw[w64 (by omega) (by omega)]
     have w6:IntKind.i64.wrap ((dn.length:Int)+1)=((dn.length+1:Nat):Int):=w64 (by omega) (by omega)
     have k1:cutI v0 none (some ((pre.length:Nat):Int))=some pre:=by rw[<-hv];exact qb6d pre post
     have k2:cutI v0 (some ((pre.length+1:Nat):Int)) none=some post:=by rw[<-hv];exact qb31 pre post
     have hp:putE (.str []) 0 1 [AV.str pre]=some (.str pre):=rfl
     simp only[c1,cond_t,qb6b,oB_s,c2,cond_f,w4,k1,hd_self,hdec,Int.toNat_natCast,hget,hp,w5,k2,hhd,w6]
     refine hnx _ ⟨dn++[pre],by simp,by rw[hset];simp,by simp;omega,?_,?_,by show post.length<=1000000000;omega⟩ (by simp;omega)
     · have hcp:v0.count 46=(qem [] v0).length-1:=by rw[q1x];simp
       have:(qem [] post).length=post.count 46+1:=q1x post []
       rw[e3]at hcp
       simp at hcp
       simp
       omega
     · rw[<-h3,e3]
       simp
   · have hdn:dn.length=n:=by omega
     have c1:decide ((dn.length:Int)<(n:Int))=false:=decide_eq_false (by omega)
     have hp:putE (.str []) 0 1 [AV.str v0]=some (.str v0):=rfl
     have w6:IntKind.i64.wrap ((dn.length:Int)+1)=((n+1:Nat):Int):=by rw[w64 (by omega) (by omega)];omega
     have k3:cutI ((dn++[v0]).map AV.str++List.replicate (n+1-(dn.length+1)) (AV.str [])) none (some ((n+1:Nat):Int))=some ((dn++[v0]).map AV.str):=by
      have hz:n+1-(dn.length+1)=0:=by omega
      rw[hz]
      simp only[List.replicate_zero,List.append_nil]
      have hL:((dn++[v0]).map AV.str).length=n+1:=by simp;omega
      generalize (dn++[v0]).map AV.str=L at hL⊢
      unfold cutI
      simp only[Option.getD_none,Option.getD_some]
      rw[if_pos ⟨by omega,by omega,by omega⟩,Int.toNat_natCast,<-hL,List.take_length]
      rfl
     simp only[c1,cond_f]
     show kx v0 (dn.length:Int) _=_
     simp only[kx,cond_t,hdec,Int.toNat_natCast,hget,oB_s,hp,hhd,w6]
     rw[hset,k3]
     simp only[oB_s]
     rw[<-h3,qbqr v0 [] (by omega)]
     simp
def ordB (x:LU):Bool:=decide (1<=x.length)&&decide (x.length<=63)&&x.all labC
theorem qb0d (x:LU)(hx:x.length<=9223372036854775807):qzo x=some (ordB x):=by
 rw[qbkf];unfold qpe
 rw[q8p,qf8 x hx (qgq x (x.length:Int) fun _=>some true) (fun i nx=>qgp x (x.length:Int) i nx fun _=>some true) (fun _ _=>rfl) (fun r=>some (r.all labC))]
 · unfold ordB
   by_cases h1:x=[]
   · subst h1;rfl
   · have e1:(x==[])=false:=by simpa using h1
     have h2:1<=x.length:=by
      cases x with
      |nil=>exact absurd rfl h1
      |cons a r=>simp
     by_cases h3:x.length<=63
     · have:¬(x.length:Int)>63:=by omega
       simp only[e1,this,h2,h3,decide_true,decide_false,Bool.or_self,cond_f,Bool.true_and]
     · have:(x.length:Int)>63:=by omega
       simp[e1,this,h3]
 · intro nx;simp[qgp]
 · intro i a r nx h1 h2 h3 h4 h5
   have h6:(i:Int)<(x.length:Int):=by omega
   have key:∀kn:Bool->Option Bool,qsx x (a.toNat:Int) (x.length:Int) i kn=kn (!labC a):=by
    intro kn
    have co:∀(p a b:Bool),(bif p then kn a else kn b)=kn (bif p then a else b):=by intro p;cases p<;>intros<;>rfl
    rw[q8o]
    unfold qkj labC
    simp only[co]
    have fin:∀n:Fin 256,(bif((decide ((n.val:Int)<(97:Int)))||(decide ((n.val:Int)>(122:Int))))then(bif(decide ((n.val:Int)<(48:Int)))then(((n.val:Int) != (45:Int))&&((n.val:Int) != (95:Int)))else(((decide ((n.val:Int)>(57:Int)))&&((n.val:Int) != (45:Int)))&&((n.val:Int) != (95:Int))))else false)=
     !((decide (97<=n.val)&&decide (n.val<=122))||(decide (48<=n.val)&&decide (n.val<=57))||n.val==45||n.val==95):=by decide+kernel
    exact congrArg kn (fin ⟨a.toNat,a.toNat_lt⟩)
   unfold qgp
   simp only[h6,decide_true,cond_t,ixB_nat,h2,oB_s,key,h4]
   cases h7:labC a
   · simp[h7]
   · simp only[Bool.not_true,cond_t,cond_f,h5,List.all_cons,h7,Bool.true_and]
def sufB (x y:LU):Bool:=decide (y.length<=x.length)&&x.drop (x.length-y.length)==y
theorem qbl0 (x y:LU)(hx:x.length<=9223372036854775807):qnx x y=some (sufB x y):=by
 rw[qba3];unfold qlp
 rw[q4c];unfold qhw sufB
 by_cases h:y.length<=x.length
 · have h1:(x.length:Int)>=(y.length:Int):=by omega
   have w:IntKind.i64.wrap ((x.length:Int)-(y.length:Int))=((x.length-y.length:Nat):Int):=by rw[w64 (by omega) (by omega)];omega
   have hc:cutI x (some ((x.length-y.length:Nat):Int)) none=some (x.drop (x.length-y.length)):=by
    unfold cutI
    simp only[Option.getD_none,Option.getD_some]
    rw[if_pos ⟨by omega,by omega,by omega⟩,Int.toNat_natCast,Int.toNat_natCast,List.take_length]
   simp only[h1,decide_true,cond_t,w,hc,oB_s,h,Bool.true_and]
 · have h1:¬(x.length:Int)>=(y.length:Int):=by omega
   simp[h1,h]
def q7b:Bool->List (List UInt8)->Bool
 |_,[]=>true
 |f,l::ls=>(ordB l||(f&&l==[42]))&&q7b false ls
def valB (x:LU):Bool:=x==[46]||(decide (x.length<255)&&sufB x [46]&&q7b true (qem [] (x.take (x.length-1))))
theorem qbnx:∀(s cur:LU),∀l,l∈qem cur s->l.length<=cur.length+s.length
 |[],cur,l,h=>by simp[qem]at h;subst h;simp
 |c::r,cur,l,h=>by
  unfold qem at h
  split at h
  · rcases List.mem_cons.1 h with rfl|h
    · simp<;>omega
    · have:=qbnx r [] l h;simp at this⊢;omega
  · have:=qbnx r _ l h;simp at this⊢;omega
theorem qb7j (ps:List (List UInt8))(hps:ps.length<=9223372036854775807)(hl:∀l,l∈ps->l.length<=9223372036854775807):
 qxw (ps.map AV.str) ((ps.map AV.str).length:Int) (fun _=>some true) FU 0=some (q7b true ps):=by
 have hlen:(ps.map AV.str).length=ps.length:=by simp
 rw[qbgk,hlen]
 have key:=qch (σ:=Unit) ps hps (fun n i _=>qka (ps.map AV.str) (ps.length:Int) (fun _=>some true) n i) (fun i _ nx=>qj9 (ps.map AV.str) (ps.length:Int) i (fun j=>nx j ()) (fun _=>some true)) (fun _ _ _=>rfl)
  (fun _ _=>True) (fun r _=>some (q7b (decide (r.length=ps.length)) r)) ?_ ?_ () FU trivial (qcp (by omega))
 · simpa using key
 · intro s nx _
   simp[qj9,q7b]
 · intro i l r s nx h1 h2 h3 h4 _ h5
   have h6:(i:Int)<(ps.length:Int):=by omega
   have hg:(ps.map AV.str)[i]?=some (.str l):=by simp[h2]
   have hr:r.length=ps.length-(i+1):=by
    have:=congrArg List.length h1
    simp at this
    omega
   unfold qj9
   simp only[h6,decide_true,cond_t,ixB_nat,hg,oB_s]
   rw[show fitC [.s] (AV.str l).cells=true from rfl,show gS (AV.str l).cells 0=l from rfl]
   simp only[cond_t,qbgj,qnz,qb0d l (hl l (List.mem_of_getElem? h2)),oB_s,h4,h5 () trivial,q7b]
   have e1:decide (r.length=ps.length)=false:=decide_eq_false (by omega)
   have e2:decide ((l::r).length=ps.length)=decide (i=0):=decide_eq_decide.2 (by simp;omega)
   rw[e1,e2]
   by_cases hi:i=0
   · subst hi
     cases ordB l<;>cases(l==[42])<;>rfl
   · have a1:decide ((i:Int)>0)=true:=decide_eq_true (by omega)
     have a2:decide (i=0)=false:=decide_eq_false hi
     rw[a1,a2]
     cases ordB l<;>rfl
theorem qb32 (x:LU)(hx:x.length<=9223372036854775807):qgk x=some (valB x):=by
 rw[qbrf];unfold qvx valB
 by_cases h1:x=[46]
 · subst h1;rfl
 · have e1:(x==[46])=false:=by simpa using h1
   rw[e1]
   simp only[cond_f,qbgh,qny,qbl0 x _ hx,oB_s,Bool.false_or]
   by_cases h2:x.length<255
   · have e2:¬(x.length:Int)>=255:=by omega
     simp only[e2,decide_false,cond_f,h2,decide_true,Bool.true_and]
     cases h3:sufB x [46]with
     |false=>rfl
     |true=>
      have h4:1<=x.length:=by
       simp[sufB]at h3
       exact h3.1
      have w:IntKind.i64.wrap ((x.length:Int)-1)=((x.length-1:Nat):Int):=by rw[w64 (by omega) (by omega)];omega
      have hc:cutI x none (some ((x.length-1:Nat):Int))=some (x.take (x.length-1)):=by
       unfold cutI
       simp only[Option.getD_none,Option.getD_some]
       rw[if_pos ⟨by omega,by omega,by omega⟩,Int.toNat_natCast]
       rfl
      have hpl:=q1x (x.take (x.length-1)) []
      have hcl:(x.take (x.length-1)).count 46<=(x.take (x.length-1)).length:=List.count_le_length
      have htl:(x.take (x.length-1)).length<=254:=by simp;omega
      simp only[Bool.not_true,cond_f,w,hc,oB_s,qby7 _ (by omega:(x.take (x.length-1)).length<=1000000000)]
      rw[qb7j _ (by omega) (fun l hl=>by have:=qbnx _ _ l hl;simp only[List.length_nil]at this;omega)]
      simp
   · have e2:(x.length:Int)>=255:=by omega
     simp[e2,h2]
theorem q7c:∀(y cur:LU),spl cur (y++[46])=qem cur y
 |[],cur=>by simp[spl,qem]
 |c::r,cur=>by
  simp only[List.cons_append,spl,qem]
  split
  · rw[q7c r]
  · rw[q7c r]
theorem qby8:∀(ls:List (List UInt8)) (f:Bool),q7b f ls=qoz f ls
 |[],f=>rfl
 |l::ls,f=>by
  unfold q7b qoz
  rw[qby8 ls false]
  by_cases h:l=[42]
  · subst h
    rw[show ordB [42]=false from by decide,show q7a [42]=true from by decide]
    cases f<;>rfl
  · have e:(l==[42])=false:=by simpa using h
    rw[e]
    rw[show q7a l=ordB l by simp[q7a,ordB,e]]
    cases ordB l<;>cases f<;>rfl
theorem qb7k (x:LU):valB x=qbd x:=by
 unfold valB qbd qjb
 by_cases h1:x=[46]
 · subst h1;rfl
 · have e1:(x==[46])=false:=by simpa using h1
   rw[e1,if_neg h1,Bool.false_or]
   rcases List.eq_nil_or_concat x with rfl|⟨y,c,rfl⟩
   · rfl
   · rw[List.concat_eq_append]at*
     have hl:(y++[c]).length-1=y.length:=by simp
     have hs:sufB (y++[c]) [46]=(c==46):=by
      unfold sufB
      have:(y++[c]).length-([46]:List UInt8).length=y.length:=by simp
      rw[this]
      simp
     have he:qoy (y++[c])=(decide (1<=y.length)&&decide ((y++[c]).length<255)&&(c==46)):=by
      unfold qoy
      have a1:decide (2<=(y++[c]).length)=decide (1<=y.length):=decide_eq_decide.2 (by simp)
      have a2:decide ((y++[c]).length<=254)=decide ((y++[c]).length<255):=decide_eq_decide.2 (by omega)
      rw[a1,a2]
      simp
     rw[hl,hs,he,List.take_left]
     by_cases hc:c=46
     · subst hc
       rw[q7c,qby8]
       have hy:1<=y.length:=by
        cases y with
        |nil=>exact absurd rfl h1
        |cons a r=>simp
       rw[decide_eq_true hy]
       cases decide ((y++[46]).length<255)<;>cases qoz true (qem [] y)<;>simp
     · have hb:(c==46)=false:=by simpa using hc
       rw[hb]
       simp
theorem qtm (x:LU)(hx:x.length<=9223372036854775807):qgk x=some (qbd x):=by rw[qb32 x hx,qb7k]
def qvn (x y:LU):Bool:=qbd x&&(qbd y&&(y==[46]||x==y||sufB x (46::y)))
theorem qbqt {x:LU}(h:qbd x=true):x.length<=254:=by
 unfold qbd qjb at h
 split at h
 · rename_i h1;subst h1;simp
 · split at h
   · rename_i h2
     have:=h2.1
     simp[qoy]at this
     omega
   · cases h
theorem qb6e (x y:LU)(hx:x.length<=9223372036854775807)(hy:y.length<=9223372036854775807):q7j x y=some (qvn x y):=by
 rw[qbrh];unfold qv0 qvn
 simp only[qtm x hx,qtm y hy,oB_s]
 cases h1:qbd x with
 |false=>rfl
 |true=>
  cases h2:qbd y with
  |false=>rfl
  |true=>
   have hl:=qbqt h2
   simp only[cond_t,Bool.true_and]
   rw[qbug];unfold qxx
   have hd:decide (([46]:List UInt8).length+y.length<=9223372036854775807)=true:=decide_eq_true (by simp;omega)
   cases h3:(y==[46]||x==y)with
   |true=>rfl
   |false=>
    simp only[cond_f,hd,cond_t,qbl0 x _ hx,oB_s,Bool.false_or]
    rfl
def ql (x:LU):List (List UInt8):=(qjb x).1
theorem qbny (x:LU)(hx:x.length<=9223372036854775807):qsy x=some (avS (ql x)):=by
 rw[qbog];unfold qtz
 simp only[qbgo,qn1,qtm x hx,oB_s]
 by_cases h1:x=[46]
 · subst h1;rfl
 · have e1:(x==[46])=false:=by simpa using h1
   rw[e1]
   simp only[cond_f]
   cases h2:qbd x with
   |false=>
    unfold ql
    unfold qbd qjb at h2
    unfold qjb
    rw[if_neg h1]at h2⊢
    split at h2
    · cases h2
    · rename_i h3
      rw[if_neg h3]
      rfl
   |true=>
    have hl:=qbqt h2
    have h5:=h2
    unfold qbd qjb at h5
    rw[if_neg h1]at h5
    split at h5
    · rename_i h3
      have hend:=h3.1
      simp only[qoy,Bool.and_eq_true,decide_eq_true_eq,beq_iff_eq]at hend
      have h4:1<=x.length:=by omega
      have w:IntKind.i64.wrap ((x.length:Int)-1)=((x.length-1:Nat):Int):=by rw[w64 (by omega) (by omega)];omega
      have hc:cutI x none (some ((x.length-1:Nat):Int))=some (x.take (x.length-1)):=by
       unfold cutI
       simp only[Option.getD_none,Option.getD_some]
       rw[if_pos ⟨by omega,by omega,by omega⟩,Int.toNat_natCast]
       rfl
      have htl:(x.take (x.length-1)).length<=254:=by simp;omega
      simp only[Bool.not_true,cond_f,w,hc,oB_s,qby7 _ (by omega:(x.take (x.length-1)).length<=1000000000)]
      unfold ql qjb
      rw[if_neg h1,if_pos h3]
      rcases List.eq_nil_or_concat x with rfl|⟨y,c,rfl⟩
      · simp at h4
      · rw[List.concat_eq_append]at*
        have hc46:c=46:=by have:=hend.2;simpa using this
        subst hc46
        have hlen:(y++[46]).length-1=y.length:=by simp
        rw[hlen,List.take_left,q7c]
        rfl
    · cases h5
theorem qbjl {α R:Type}(l:List α)(hl:l.length<=9223372036854775807)(L:Nat->Int->Option R)(B:Int->(Int->Option R)->Option R)(hL:∀n i,L (n+1) i=B i (L n))
 (S:Nat->List α->Option R) (h0:∀nx,B (l.length:Int) nx=S l.length [])
 (hs:∀(i:Nat) (a:α) (r:List α) nx,l.drop i=a::r->l[i]?=some a->i<l.length->IntKind.i64.wrap ((i:Int)+1)=((i+1:Nat):Int)->nx ((i+1:Nat):Int)=S (i+1) r->B (i:Int) nx=S i (a::r)):
 L FU 0=S 0 l:=by
 have:=qf8 l hl L B hL (fun r=>S (l.length-r.length) r) (fun nx=>by simpa using h0 nx) (fun i a r nx h1 h2 h3 h4 h5=>by
  have hr:r.length=l.length-(i+1):=by
   have:=congrArg List.length h1
   simp at this;omega
  have e1:l.length-r.length=i+1:=by omega
  have e2:l.length-(a::r).length=i:=by simp;omega
  simp only[e1]at h5
  simp only[e2]
  exact hs i a r nx h1 h2 h3 h4 h5)
 simpa using this
theorem q1y {l:LT}{ls:List LT}{cs:LA}(h:fitC (l::ls) cs=true):∃x r,cs=x::r/\fitL l x=true/\fitC ls r=true:=by
 cases cs with
 |nil=>simp[fitC]at h
 |cons x r=>
  simp only[fitC]at h
  cases hl:fitL l x
  · rw[hl]at h;cases h
  · rw[hl]at h;exact⟨x,r,rfl,hl,h⟩
theorem qb33 {cs:LA}(h:fitC [] cs=true):cs=[]:=by
 cases cs with
 |nil=>rfl
 |cons x r=>simp[fitC]at h
theorem qbsa:∀(q cur y:LU),spl cur (q++46::y)=spl cur (q++[46])++spl [] y
 |[],cur,y=>by simp[spl]
 |c::r,cur,y=>by
  simp only[List.cons_append,spl]
  split
  · simp[qbsa r [] y]
  · exact qbsa r _ y
theorem qqf:∀(x cur:LU),x.getLast? =some 46->(spl cur x).flatMap (· ++[46])=cur++x
 |[],cur,h=>by simp at h
 |[c],cur,h=>by
  have:c=46:=by simpa using h
  subst this
  simp[spl]
 |c::d::r,cur,h=>by
  have h':(d::r).getLast? =some 46:=by simpa using h
  unfold spl
  split
  · rename_i hc
    subst hc
    simp[qqf (d::r) [] h']
  · rw[qqf (d::r) _ h']
    simp
theorem qo0 {x:LU}(h:qbd x=true):x=[46]/\ql x=[]\/x≠[46]/\2<=x.length/\x.getLast? =some 46/\qoz true (spl [] x)=true/\ql x=spl [] x:=by
 unfold qbd at h
 unfold ql
 unfold qjb at h⊢
 by_cases h1:x=[46]
 · left;exact⟨h1,by rw[if_pos h1]⟩
 · right
   rw[if_neg h1]at h⊢
   split at h
   · rename_i h2
     rw[if_pos h2]
     have h3:=h2.1
     simp only[qoy,Bool.and_eq_true,decide_eq_true_eq,beq_iff_eq]at h3
     exact⟨h1,h3.1.1,h3.2,h2.2,rfl⟩
   · cases h
theorem qb34 {x y:LU}:sufB x y=true↔y<:+x:=by
 unfold sufB
 rw[Bool.and_eq_true,decide_eq_true_eq,beq_iff_eq,List.suffix_iff_eq_drop]
 constructor
 · rintro⟨_,h⟩;exact h.symm
 · intro h
   refine⟨?_,h.symm⟩
   have:=congrArg List.length h
   simp at this;omega
theorem qb17 {x y:LU}(hx:qbd x=true)(hy:qbd y=true):ql y<:+ql x↔(y==[46]||x==y||sufB x (46::y))=true:=by
 simp only[Bool.or_eq_true,beq_iff_eq,qb34]
 rcases qo0 hy with⟨rfl,e⟩|⟨y1,y2,y3,y4,y5⟩
 · simp[e]
 · have jy:=qqf y [] y3
   rw[List.nil_append]at jy
   rcases qo0 hx with⟨rfl,e⟩|⟨x1,x2,x3,x4,x5⟩
   · rw[e,y5]
     constructor
     · intro h
       have:spl [] y=[]:=List.suffix_nil.1 h
       rw[this]at jy
       simp at jy
       subst jy
       simp at y2
     · rintro((h|h)|h)
       · exact absurd h y1
       · exact absurd h.symm y1
       · have:=h.length_le
         rw[List.length_cons,List.length_singleton]at this
         omega
   · have jx:=qqf x [] x3
     rw[List.nil_append]at jx
     rw[x5,y5]
     constructor
     · rintro⟨p,hp⟩
       rw[<-hp,List.flatMap_append,jy]at jx
       rcases List.eq_nil_or_concat p with rfl|⟨q,l,rfl⟩
       · left;right;simpa using jx.symm
       · right
         rw[List.concat_eq_append]at jx
         refine⟨q.flatMap (· ++[46])++l,?_⟩
         rw[<-jx];simp
     · rintro((h|h)|⟨q,h⟩)
       · exact absurd h y1
       · subst h;exact List.suffix_refl _
       · rw[<-h,qbsa]
         exact⟨_,rfl⟩
def comm:List (List UInt8)->List (List UInt8)->Nat
 |a::r,b::s=>if a=b then comm r s+1 else 0
 |_,_=>0
theorem qbw8:∀(a b:List (List UInt8)),comm a b=b.length↔b<+:a
 |[],[]=>by simp[comm]
 |[],_::_=>by simp[comm]
 |_::_,[]=>by simp[comm]
 |a::r,b::s=>by
  unfold comm
  by_cases h:a=b
  · subst h
    rw[if_pos rfl,List.cons_prefix_cons]
    simp[qbw8 r s]
  · rw[if_neg h,List.cons_prefix_cons]
    simp
    exact fun e=>absurd e.symm h
theorem q0d (l:List (List UInt8))(i:Nat)(h:i<l.length):(avS l)[l.length-1-i]?=some (.str (l.reverse[i]'(by simpa using h))):=by
 unfold avS
 rw[List.getElem?_map,List.getElem_reverse,List.getElem?_eq_getElem (by omega)]
 rfl
theorem qbw9 (xs ys:List (List UInt8))(hx:xs.length<=1000000000)(hy:ys.length<=1000000000):qqr (avS xs) (avS ys)=some ((comm xs.reverse ys.reverse:Nat):Int):=by
 rw[qbm2];unfold qr7
 rw[qbew]
 have lx:(avS xs).length=xs.length:=by simp[avS]
 have ly:(avS ys).length=ys.length:=by simp[avS]
 have key:=qbja (fun n (i:Int)=>qfw (avS xs) (avS ys) (fun v5=>some v5) n i) (fun i nx=>qmy (avS xs) (avS ys) i nx (fun v5=>some v5)) (fun _ _=>rfl)
  (fun i=>0<=i/\i<=xs.length) (fun i=>(xs.length-i).toNat) (fun i=>some (i+((comm (xs.reverse.drop i.toNat) (ys.reverse.drop i.toNat):Nat):Int))) ?_ FU 0 (by simp) (qcp (by simp;omega))
 · rw[show qfw (avS xs) (avS ys) (fun v5=>some v5) FU 0=_ from key]
   simp
 · rintro i ⟨h0,h1⟩ nx hn
   obtain⟨i,rfl⟩:∃j:Nat,i=j:=⟨i.toNat,by omega⟩
   unfold qmy
   rw[qbev];unfold qmx
   simp only[lx,ly,Int.toNat_natCast]
   have hw:IntKind.i64.wrap ((i:Int)+1)=((i+1:Nat):Int):=w64 (by omega) (by omega)
   by_cases hi:i<xs.length
   · have hdx:xs.reverse.drop i=xs.reverse[i]'(by simpa using hi)::xs.reverse.drop (i+1):=List.drop_eq_getElem_cons (by simpa using hi)
     by_cases hj:i<ys.length
     · have hdy:ys.reverse.drop i=ys.reverse[i]'(by simpa using hj)::ys.reverse.drop (i+1):=List.drop_eq_getElem_cons (by simpa using hj)
       have w1:IntKind.i64.wrap (IntKind.i64.wrap ((xs.length:Int)-1)-(i:Int))=((xs.length-1-i:Nat):Int):=by
        rw[w64 (i:=(xs.length:Int)-1) (by omega) (by omega),w64 (by omega) (by omega)];omega
       have w2:IntKind.i64.wrap (IntKind.i64.wrap ((ys.length:Int)-1)-(i:Int))=((ys.length-1-i:Nat):Int):=by
        rw[w64 (i:=(ys.length:Int)-1) (by omega) (by omega),w64 (by omega) (by omega)];omega
       have d1:decide ((i:Int)<(xs.length:Int))=true:=decide_eq_true (by omega)
       have d2:decide ((i:Int)<(ys.length:Int))=true:=decide_eq_true (by omega)
       simp only[d1,d2,cond_t,w1,w2,ixB_nat,q0d _ _ hi,q0d _ _ hj,oB_s,hw]
       have f:∀s:List UInt8,fitC [.s] (AV.str s).cells=true:=fun _=>rfl
       have g:∀s:List UInt8,gS (AV.str s).cells 0=s:=fun _=>rfl
       simp only[f,cond_t,g]
       have hnx:=hn ((i+1:Nat):Int) ⟨by omega,by omega⟩ (by omega)
       simp only[Int.toNat_natCast]at hnx
       rw[hdx,hdy]
       unfold comm
       by_cases he:xs.reverse[i]'(by simpa using hi)=ys.reverse[i]'(by simpa using hj)
       · have hb:(xs.reverse[i]'(by simpa using hi)==ys.reverse[i]'(by simpa using hj))=true:=beq_iff_eq.2 he
         rw[hb,cond_t,hnx,if_pos he]
         congr 1;omega
       · have hb:(xs.reverse[i]'(by simpa using hi)==ys.reverse[i]'(by simpa using hj))=false:=by simpa using he
         rw[hb,cond_f,if_neg he]
         simp
     · have d1:decide ((i:Int)<(xs.length:Int))=true:=decide_eq_true (by omega)
       have d2:decide ((i:Int)<(ys.length:Int))=false:=decide_eq_false (by omega)
       have e:ys.reverse.drop i=[]:=List.drop_eq_nil_of_le (by simp;omega)
       rw[e,hdx]
       simp only[d1,d2,cond_t,cond_f]
       simp[comm]
   · have d1:decide ((i:Int)<(xs.length:Int))=false:=decide_eq_false (by omega)
     have e:xs.reverse.drop i=[]:=List.drop_eq_nil_of_le (by simp;omega)
     rw[e]
     simp only[d1,cond_f]
     simp[comm]
theorem quk {x:LU}:(ql x).length<=254:=by
 unfold ql qjb
 split
 · simp
 · split
   · rename_i h
     have h3:=h.1
     simp only[qoy,Bool.and_eq_true,decide_eq_true_eq,beq_iff_eq]at h3
     have:=qbr9 x []
     simp;omega
   · simp
theorem qb18 (x:LU)(hx:x.length<=9223372036854775807):qx3 x=some (avS (ql x)):=by
 rw[qbg0];unfold qn6
 rw[q32 x hx];rfl
theorem qb35 (x y:LU)(hx:x.length<=9223372036854775807)(hy:y.length<=9223372036854775807):qzt x y=some (qvn x y):=by
 rw[qbk0];unfold qpx qvn
 rw[q32 x hx,q32 y hy]
 simp only[oB_s]
 show(bif qbd x&&qbd y then oB (qqr (avS (ql x)) (avS (ql y))) _ else _)=_
 cases h1:qbd x
 · rfl
 cases h2:qbd y
 · rfl
 have l1:=quk (x:=x)
 have l2:=quk (x:=y)
 rw[qbw9 _ _ (by omega) (by omega)]
 simp only[Bool.and_self,cond_t,oB_s,Bool.true_and]
 have ly:(avS (qjb y).1).length=(ql y).length:=by simp[avS,ql]
 rw[ly]
 congr 1
 rw[Bool.eq_iff_iff,beq_iff_eq,<-qb17 h1 h2,<-List.reverse_prefix,<-qbw8,List.length_reverse]
 omega
theorem qb19 {x:LU}(h:qbd x=true):((ql x).head? =some [42])↔x.head? =some 42:=by
 rcases qo0 h with⟨rfl,e⟩|⟨y1,y2,y3,y4,y5⟩
 · simp[e]
 · rw[y5]
   have jy:=qqf x [] y3
   rw[List.nil_append]at jy
   cases hs:spl [] x with
   |nil=>rw[hs]at jy;simp at jy;subst jy;simp at y2
   |cons l ls=>
    rw[hs]at jy y4
    simp only[qoz,Bool.and_eq_true]at y4
    have hl:=y4.1.1
    simp only[List.head?_cons,Option.some.injEq]
    constructor
    · intro e;subst e;rw[<-jy];simp
    · intro e
      unfold q7a at hl
      simp only[Bool.or_eq_true,beq_iff_eq,Bool.and_eq_true,decide_eq_true_eq]at hl
      rcases hl with hl|⟨⟨hl1,_⟩,hl2⟩
      · exact hl
      · cases l with
        |nil=>simp at hl1
        |cons c r=>
         rw[<-jy]at e
         have:c=42:=by simpa using e
         subst this
         simp[labC]at hl2
def cmpS (a b:LU):Int:=Lib.compareBytes a b
theorem q7d:∀a b,cmpS a b= -1\/cmpS a b=0\/cmpS a b=1
 |[],[]=>by simp[cmpS,Lib.compareBytes]
 |[],_::_=>by simp[cmpS,Lib.compareBytes]
 |_::_,[]=>by simp[cmpS,Lib.compareBytes]
 |a::as_,b::bs=>by
  have ih:=q7d as_ bs
  show(if a<b then(-1:Int)else if b<a then 1 else cmpS as_ bs)= -1\/_\/_
  have e:cmpS (a::as_) (b::bs)=if a<b then(-1:Int)else if b<a then 1 else cmpS as_ bs:=rfl
  rw[e]
  split
  · simp
  · split
    · simp
    · exact ih
theorem q0e (a b:UInt8):a<b\/a=b\/b<a:=by
 rcases Nat.lt_trichotomy a.toNat b.toNat with h|h|h
 · exact .inl h
 · exact .inr (.inl (UInt8.toNat_inj.1 h))
 · exact .inr (.inr h)
theorem qfc {a b:UInt8}(h:a<b):¬b<a:=fun h2=>by
 have h1:a.toNat<b.toNat:=h
 have h2:b.toNat<a.toNat:=h2
 omega
theorem qb36 {a b c:UInt8}(h:a<b)(h2:b<c):a<c:=Nat.lt_trans (show a.toNat<b.toNat from h) h2
theorem q1z (a b:UInt8)(r s:LU):cmpS (a::r) (b::s)=if a<b then-1 else if b<a then 1 else cmpS r s:=rfl
theorem qk6:∀{a b},cmpS a b=0↔a=b
 |[],[]=>by simp[cmpS,Lib.compareBytes]
 |[],_::_=>by simp[cmpS,Lib.compareBytes]
 |_::_,[]=>by simp[cmpS,Lib.compareBytes]
 |a::r,b::s=>by
  rw[q1z]
  rcases q0e a b with h|rfl|h
  · rw[if_pos h]
    simp only[List.cons.injEq]
    exact⟨fun h=>by omega,fun e=>by rw[e.1]at h;exact absurd h (qfc h)⟩
  · rw[if_neg (fun h=>qfc h h),if_neg (fun h=>qfc h h),qk6]
    simp
  · rw[if_neg (qfc h),if_pos h]
    simp only[List.cons.injEq]
    exact⟨fun h=>by omega,fun e=>by rw[e.1]at h;exact absurd h (qfc h)⟩
theorem qbiz:∀a b,cmpS b a= -cmpS a b
 |[],[]=>by simp[cmpS,Lib.compareBytes]
 |[],_::_=>by simp[cmpS,Lib.compareBytes]
 |_::_,[]=>by simp[cmpS,Lib.compareBytes]
 |a::r,b::s=>by
  rw[q1z,q1z]
  rcases q0e a b with h|rfl|h
  · simp[h,qfc h]
  · simp[fun h=>qfc (a:=a) (b:=a) h h,qbiz r s]
  · simp[h,qfc h]
theorem qbdi:∀{a b c},cmpS a b<0->cmpS b c<0->cmpS a c<0
 |[],[],_,h,_=>by simp[cmpS,Lib.compareBytes]at h
 |[],_::_,[],_,h=>by simp[cmpS,Lib.compareBytes]at h
 |[],_::_,_::_,_,_=>by simp[cmpS,Lib.compareBytes]
 |_::_,[],_,h,_=>by simp[cmpS,Lib.compareBytes]at h
 |_::_,_::_,[],_,h=>by simp[cmpS,Lib.compareBytes]at h
 |a::r,b::s,c::t,h1,h2=>by
  rw[q1z]at h1 h2⊢
  rcases q0e a b with h|rfl|h
  · rcases q0e b c with k|rfl|k
    · rw[if_pos (qb36 h k)];omega
    · rw[if_pos h];omega
    · rw[if_neg (qfc k),if_pos k]at h2;omega
  · rw[if_neg (fun h=>qfc h h),if_neg (fun h=>qfc h h)]at h1
    rcases q0e a c with k|rfl|k
    · rw[if_pos k];omega
    · rw[if_neg (fun h=>qfc h h),if_neg (fun h=>qfc h h)]at h2⊢
      exact qbdi h1 h2
    · rw[if_neg (qfc k),if_pos k]at h2;omega
  · rw[if_neg (qfc h),if_pos h]at h1;omega
theorem qbts:∀a b,Op.bytesLess a b=decide (cmpS a b<0)
 |[],[]=>by simp[Op.bytesLess,cmpS,Lib.compareBytes]
 |[],_::_=>by simp[Op.bytesLess,cmpS,Lib.compareBytes]
 |_::_,[]=>by simp[Op.bytesLess,cmpS,Lib.compareBytes]
 |a::r,b::s=>by
  rw[q1z]
  unfold Op.bytesLess
  rw[qbts r s]
  rcases q0e a b with h|rfl|h
  · simp[h]
  · simp[fun h=>qfc (a:=a) (b:=a) h h]
  · have hne:a≠b:=fun e=>by rw[e]at h;exact qfc h h
    simp[h,qfc h,hne]
theorem qbqu (a b:LU):qrx a b=some (cmpS a b):=by
 rw[qbgm]
 unfold qn0
 rw[q4g]
 rfl
theorem qb7l (a b:LU):qv2 a b=some (cmpS a b):=by
 rw[qbm1]
 unfold qr6
 rw[qbts]
 rcases q7d a b with h|h|h
 · simp[h]
 · have e:=qk6.1 h
   subst e
   simp[h]
 · have e:(a==b)=false:=by
    have:a≠b:=fun e=>by rw[qk6.2 e]at h;omega
    simpa using this
   simp[h,e]
def cmpZ:List (List UInt8)->List (List UInt8)->Option Int
 |a::r,b::s=>if cmpS a b=0 then cmpZ r s else some (cmpS a b)
 |_,_=>none
def cmpR (x y:List (List UInt8)):Int:=(cmpZ x y).getD (if x.length<y.length then-1 else if x.length>y.length then 1 else 0)
def cmpN (x y:LU):Int:=
 if qbd x=true/\qbd y=false then-1 else if qbd y=true/\qbd x=false then 1 else if qbd x=false then cmpS x y else cmpR (ql x).reverse (ql y).reverse
theorem q10 (a b:LU)(r s:List (List UInt8)):cmpR (a::r) (b::s)=if cmpS a b=0 then cmpR r s else cmpS a b:=by
 unfold cmpR
 simp only[cmpZ]
 split
 · simp
 · rfl
theorem qbtt:∀{x y},cmpR x y=0↔x=y
 |[],[]=>by simp[cmpR,cmpZ]
 |[],_::_=>by simp[cmpR,cmpZ]
 |_::_,[]=>by simp[cmpR,cmpZ]
 |a::r,b::s=>by
  rw[q10]
  split
  · rename_i h
    rw[qbtt,qk6.1 h];simp
  · rename_i h
    simp only[List.cons.injEq]
    exact⟨fun e=>absurd e h,fun e=>absurd (qk6.2 e.1) h⟩
theorem qbtu:∀x y,cmpR y x= -cmpR x y
 |[],[]=>by simp[cmpR,cmpZ]
 |[],_::_=>by simp[cmpR,cmpZ]
 |_::_,[]=>by simp[cmpR,cmpZ]
 |a::r,b::s=>by
  rw[q10,q10,qbiz a b,qbtu r s]
  split<;>split<;>omega
theorem qbqv:∀{x y z},cmpR x y<0->cmpR y z<0->cmpR x z<0
 |[],[],_,h,_=>by simp[cmpR,cmpZ]at h
 |[],_::_,[],_,h=>by simp[cmpR,cmpZ]at h
 |[],_::_,_::_,_,_=>by simp[cmpR,cmpZ]
 |_::_,[],_,h,_=>by simp[cmpR,cmpZ]at h
 |_::_,_::_,[],_,h=>by simp[cmpR,cmpZ]at h
 |a::r,b::s,c::t,h1,h2=>by
  rw[q10]at h1 h2⊢
  by_cases e1:cmpS a b=0
  · have:=qk6.1 e1
    subst this
    rw[if_pos e1]at h1
    by_cases e2:cmpS a c=0
    · rw[if_pos e2]at h2⊢
      exact qbqv h1 h2
    · rw[if_neg e2]at h2⊢;exact h2
  · rw[if_neg e1]at h1
    by_cases e2:cmpS b c=0
    · have:=qk6.1 e2
      subst this
      rw[if_neg e1];exact h1
    · rw[if_neg e2]at h2
      have:=qbdi h1 h2
      rw[if_neg (by omega)];exact this
theorem qbtv:∀x y,cmpR x y= -1\/cmpR x y=0\/cmpR x y=1
 |[],[]=>by simp[cmpR,cmpZ]
 |[],_::_=>by simp[cmpR,cmpZ]
 |_::_,[]=>by simp[cmpR,cmpZ]
 |a::r,b::s=>by
  rw[q10]
  split
  · exact qbtv r s
  · exact q7d a b
theorem qb0e {x y:LU}(hx:qbd x=true)(hy:qbd y=true)(h:ql x=ql y):x=y:=by
 rcases qo0 hx with⟨a1,a2⟩|⟨a1,a2,a3,a4,a5⟩<;>rcases qo0 hy with⟨b1,b2⟩|⟨b1,b2,b3,b4,b5⟩
 · rw[a1,b1]
 · exfalso
   have h2:=qqf y [] b3
   rw[<-b5,<-h,a2]at h2
   simp at h2
   subst h2
   simp at b2
 · exfalso
   have h2:=qqf x [] a3
   rw[<-a5,h,b2]at h2
   simp at h2
   subst h2
   simp at a2
 · have h1:=qqf x [] a3
   have h2:=qqf y [] b3
   rw[<-a5,h,b5]at h1
   simp only[List.nil_append]at h1 h2
   exact h1.symm.trans h2
theorem qbtw {x y:LU}:cmpN x y=0↔x=y:=by
 unfold cmpN
 cases hx:qbd x<;>cases hy:qbd y
 · simp[qk6]
 · simp only[Bool.true_eq_false,and_self,Bool.false_eq_true,false_and,if_false,if_true]
   exact⟨fun h=>by omega,fun e=>by rw[e,hy]at hx;cases hx⟩
 · simp only[and_self,if_true]
   exact⟨fun h=>by omega,fun e=>by rw[e,hy]at hx;cases hx⟩
 · simp only[Bool.true_eq_false,and_false,if_false,qbtt]
   exact⟨fun h=>qb0e hx hy (by simpa using congrArg List.reverse h),fun e=>by rw[e]⟩
theorem qb2a (x y:LU):cmpN y x= -cmpN x y:=by
 unfold cmpN
 cases hx:qbd x<;>cases hy:qbd y<;>simp
 · exact qbiz x y
 · exact qbtu _ _
theorem qb0f {x y z:LU}(h1:cmpN x y<0)(h2:cmpN y z<0):cmpN x z<0:=by
 unfold cmpN at*
 cases hx:qbd x<;>cases hy:qbd y<;>cases hz:qbd z<;>simp[hx,hy,hz]at h1 h2⊢
 · exact qbdi h1 h2
 · exact qbqv h1 h2
theorem qb2b (x y:LU):cmpN x y= -1\/cmpN x y=0\/cmpN x y=1:=by
 unfold cmpN
 split
 · simp
 · split
   · simp
   · split
     · exact q7d x y
     · exact qbtv _ _
theorem qbtx (xs ys:List (List UInt8))(hx:xs.length<=1000000000)(hy:ys.length<=1000000000)(kx:Unit->Option Int):∀(n j:Nat),j<=xs.length->j<=ys.length->xs.length-j<n->
 qe9 (avS xs) (avS ys) kx n ((j+1:Nat):Int)=match cmpZ (xs.reverse.drop j) (ys.reverse.drop j)with
  |some c=>some c
  |none=>kx ()
 |0,j,_,_,h=>by omega
 |n+1,j,h1,h2,h3=>by
  unfold qe9 qrb
  have hlx:(avS xs).length=xs.length:=by simp[avS]
  have hly:(avS ys).length=ys.length:=by simp[avS]
  rw[hlx,hly]
  by_cases hc:j<xs.length/\j<ys.length
  · have e1:(decide (((j+1:Nat):Int)<=(xs.length:Int))&&decide (((j+1:Nat):Int)<=(ys.length:Int)))=true:=by simp;omega
    rw[e1,cond_t,w64 (by omega) (by omega),qbp8 (j:=xs.length-1-j) (by omega),q0d xs j hc.1,oB_s]
    rw[show fitC [.s] (AV.str (xs.reverse[j]'(by simpa using hc.1))).cells=true from rfl,cond_t,w64 (by omega) (by omega),qbp8 (j:=ys.length-1-j) (by omega),q0d ys j hc.2,oB_s]
    rw[show fitC [.s] (AV.str (ys.reverse[j]'(by simpa using hc.2))).cells=true from rfl,cond_t]
    rw[show gS (AV.str (xs.reverse[j]'(by simpa using hc.1))).cells 0=xs.reverse[j]'(by simpa using hc.1)from rfl,show gS (AV.str (ys.reverse[j]'(by simpa using hc.2))).cells 0=ys.reverse[j]'(by simpa using hc.2)from rfl,qbqu,oB_s]
    rw[List.drop_eq_getElem_cons (l:=xs.reverse) (i:=j) (by simpa using hc.1),List.drop_eq_getElem_cons (l:=ys.reverse) (i:=j) (by simpa using hc.2)]
    simp only[cmpZ]
    by_cases h0:cmpS (xs.reverse[j]'(by simpa using hc.1)) (ys.reverse[j]'(by simpa using hc.2))=0
    · rw[if_pos h0,h0]
      simp only[bne_self_eq_false,cond_f]
      have ih:=qbtx xs ys hx hy kx n (j+1) (by omega) (by omega) (by omega)
      rw[w64 (by omega) (by omega)]
      rw[show((j+1:Nat):Int)+1=((j+1+1:Nat):Int) by omega]
      exact ih
    · rw[if_neg h0]
      have:(cmpS (xs.reverse[j]'(by simpa using hc.1)) (ys.reverse[j]'(by simpa using hc.2)) != 0)=true:=by simpa using h0
      rw[this,cond_t]
  · have e1:(decide (((j+1:Nat):Int)<=(xs.length:Int))&&decide (((j+1:Nat):Int)<=(ys.length:Int)))=false:=by
     rw[Bool.and_eq_false_iff];simp;omega
    rw[e1,cond_f]
    have:cmpZ (xs.reverse.drop j) (ys.reverse.drop j)=none:=by
     rcases Classical.not_and_iff_not_or_not.1 hc with h|h
     · rw[List.drop_eq_nil_of_le (by simp;omega)];simp[cmpZ]
     · have e:ys.reverse.drop j=[]:=List.drop_eq_nil_of_le (by simp;omega)
       rw[e]
       cases xs.reverse.drop j<;>simp[cmpZ]
    rw[this]
theorem lenC (a b:Nat):(bif decide ((a:Int)<(b:Int))then some (-1:Int)else bif decide ((a:Int)>(b:Int))then some 1 else some 0)=some (if a<b then-1 else if a>b then 1 else 0):=by
 rcases Nat.lt_trichotomy a b with h|h|h
 · have:(a:Int)<b:=by omega
   simp[h,this]
 · subst h;simp
 · have h1:¬(a:Int)<b:=by omega
   have h2:(b:Int)<a:=by omega
   have h3:¬a<b:=by omega
   simp[h1,h2,h3,h]
theorem qbqw (x y:LU)(hx:x.length<=9223372036854775807)(hy:y.length<=9223372036854775807):qvy x y=some (cmpN x y):=by
 rw[qbmp]
 unfold qry cmpN
 rw[qtm x hx,oB_s,qtm y hy,oB_s,qbny x hx,oB_s,qbny y hy,oB_s,qba7]
 have hlx:=quk (x:=x)
 have hly:=quk (x:=y)
 have hL:=qbtx (ql x) (ql y) (by omega) (by omega) (fun _=>(bif(decide (((avS (ql x)).length:Int)<((avS (ql y)).length:Int)))then(some (-1:Int))else(bif(decide (((avS (ql x)).length:Int)>((avS (ql y)).length:Int)))then(some (1:Int))else(some (0:Int))))) FU 0 (by omega) (by omega) (qcp (by omega))
 rw[show((0+1:Nat):Int)=1 from rfl]at hL
 rw[hL]
 cases qbd x<;>cases qbd y<;>simp only[Bool.not_true,Bool.not_false,Bool.and_true,Bool.and_false,Bool.and_self,cond_t,cond_f,qbqu,oB_s,and_self,if_true,Bool.true_eq_false,Bool.false_eq_true,and_false,false_and,if_false]
 simp only[List.drop_zero]
 unfold cmpR
 cases cmpZ (ql x).reverse (ql y).reverse with
 |some c=>rfl
 |none=>
  simp only[avS,List.length_map,Option.getD_none,List.length_reverse]
  exact lenC _ _
theorem qbty:∀(a b:List (List UInt8)),cmpZ a b=if h:comm a b<a.length/\comm a b<b.length then some (cmpS (a[comm a b]'h.1) (b[comm a b]'h.2))else none
 |[],b=>by simp[cmpZ,comm]
 |a::r,[]=>by simp[cmpZ,comm]
 |a::r,b::s=>by
  unfold cmpZ comm
  by_cases e:a=b
  · subst e
    rw[if_pos (qk6.2 rfl),qbty r s]
    simp only[if_true]
    by_cases h:comm r s<r.length/\comm r s<s.length
    · rw[dif_pos h,dif_pos (by simp;omega)]
      simp
    · rw[dif_neg h,dif_neg (by simp;omega)]
  · rw[if_neg (fun h=>e (qk6.1 h))]
    simp[e]
theorem qb2c (x:LU):(qjb x).2=qbd x:=rfl
theorem qbqx (x y:LU)(hx:x.length<=9223372036854775807)(hy:y.length<=9223372036854775807):qpv x y=some (cmpN x y):=by
 rw[qbex]
 unfold qmz cmpN
 rw[q32 x hx,oB_s,q32 y hy,oB_s]
 simp only[qb2c,qb7l,oB_s]
 have hlx:=quk (x:=x)
 have hly:=quk (x:=y)
 rw[show(qjb x).1=ql x from rfl,show(qjb y).1=ql y from rfl,qbw9 _ _ (by omega) (by omega),oB_s]
 cases qbd x<;>cases qbd y<;>simp only[Bool.not_true,Bool.not_false,Bool.or_true,Bool.or_false,Bool.or_self,cond_t,cond_f,and_self,if_true,Bool.true_eq_false,Bool.false_eq_true,and_false,false_and,if_false]
 have hax:(avS (ql x)).length=(ql x).length:=by simp[avS]
 have hay:(avS (ql y)).length=(ql y).length:=by simp[avS]
 rw[hax,hay]
 unfold cmpR
 rw[qbty]
 by_cases h:comm (ql x).reverse (ql y).reverse<(ql x).length/\comm (ql x).reverse (ql y).reverse<(ql y).length
 · have e1:(decide (((comm (ql x).reverse (ql y).reverse:Nat):Int)<((ql x).length:Int))&&decide (((comm (ql x).reverse (ql y).reverse:Nat):Int)<((ql y).length:Int)))=true:=by simp;omega
   rw[e1,cond_t,dif_pos (by simpa using h)]
   rw[w64 (i:=((ql x).length:Int)-1) (by omega) (by omega),w64 (by omega) (by omega),qbp8 (j:=(ql x).length-1-comm (ql x).reverse (ql y).reverse) (by omega),q0d _ _ h.1,oB_s]
   rw[show fitC [.s] (AV.str ((ql x).reverse[comm (ql x).reverse (ql y).reverse]'(by simpa using h.1))).cells=true from rfl,cond_t]
   rw[w64 (i:=((ql y).length:Int)-1) (by omega) (by omega),w64 (by omega) (by omega),qbp8 (j:=(ql y).length-1-comm (ql x).reverse (ql y).reverse) (by omega),q0d _ _ h.2,oB_s]
   rw[show fitC [.s] (AV.str ((ql y).reverse[comm (ql x).reverse (ql y).reverse]'(by simpa using h.2))).cells=true from rfl,cond_t]
   rfl
 · have e1:(decide (((comm (ql x).reverse (ql y).reverse:Nat):Int)<((ql x).length:Int))&&decide (((comm (ql x).reverse (ql y).reverse:Nat):Int)<((ql y).length:Int)))=false:=by
    rw[Bool.and_eq_false_iff];simp;omega
   rw[e1,cond_f,dif_neg (by simpa using h)]
   simp only[Option.getD_none,List.length_reverse]
   exact lenC _ _
theorem qb7m (v:Bool)(hi lo:Int)(w:Bool)(whi wlo:Int):cmpA v hi lo w whi wlo=cmpP v hi lo 0 w whi wlo 0:=by
 unfold cmpP
 cases h:(cmpA v hi lo w whi wlo != 0)
 · simp at h;simp[h]
 · simp
theorem qb0g (v:Bool)(hi lo:Int)(w:Bool)(whi wlo:Int):(cmpA v hi lo w whi wlo<0/\ltP v hi lo 0 w whi wlo 0)\/(cmpA v hi lo w whi wlo=0/\v=w/\hi=whi/\lo=wlo)\/(cmpA v hi lo w whi wlo>0/\ltP w whi wlo 0 v hi lo 0):=by
 rw[qb7m]
 rcases q3q v hi lo 0 w whi wlo 0 with h|⟨h1,h2,h3,h4,_⟩|h
 · exact .inl h
 · exact .inr (.inl ⟨h1,h2,h3,h4⟩)
 · exact .inr (.inr h)
def qbqy (y:AV):Prop:=fitC qj y.cells=true/\uok (gI y.cells 2)/\uok (gI y.cells 3)/\(gS y.cells 0).length<=9223372036854775807
def qjw (l:LA):Prop:=l.length<=9223372036854775807/\∀y,y∈l->qbqy y
def mkH (n:LU)(v:Bool)(hi lo t:Int):AV:=.agg [(.str n),(.bool v),(.int .u64 hi),(.int .u64 lo),(.int .i64 t)]
theorem qb8c {cs:LA}(h:fitC qj cs=true):cs=(mkH (gS cs 0) (gB cs 1) (gI cs 2) (gI cs 3) (gI cs 4)).cells:=by
 unfold qj at h
 obtain⟨x0,r,rfl,h0,h⟩:=q1y h
 obtain⟨x1,r,rfl,h1,h⟩:=q1y h
 obtain⟨x2,r,rfl,h2,h⟩:=q1y h
 obtain⟨x3,r,rfl,h3,h⟩:=q1y h
 obtain⟨x4,r,rfl,h4,h⟩:=q1y h
 have:=qb33 h
 subst this
 cases x0<;>simp[fitL]at h0
 cases x1<;>simp[fitL]at h1
 cases x2<;>simp[fitL]at h2
 cases x3<;>simp[fitL]at h3
 cases x4<;>simp[fitL]at h4
 subst h2 h3 h4
 rfl
theorem qbdj {y:AV}(h:fitC qj y.cells=true):mkH (gS y.cells 0) (gB y.cells 1) (gI y.cells 2) (gI y.cells 3) (gI y.cells 4)=y:=by
 have h5:=qb8c h
 cases y with
 |agg cs=>exact congrArg AV.agg h5.symm
 |_=>
  exfalso
  have:=congrArg List.length h5
  simp[AV.cells,mkH]at this
def qec (n:LU)(v:Bool)(hi lo:Int)(m:LU)(w:Bool)(whi wlo:Int):Int:=bif(cmpA v hi lo w whi wlo != 0)then cmpA v hi lo w whi wlo else cmpN n m
def cmpH (y z:AV):Int:=qec (gS y.cells 0) (gB y.cells 1) (gI y.cells 2) (gI y.cells 3) (gS z.cells 0) (gB z.cells 1) (gI z.cells 2) (gI z.cells 3)
def ltHr (n:LU)(v:Bool)(hi lo:Int)(m:LU)(w:Bool)(whi wlo:Int):Prop:=ltP v hi lo 0 w whi wlo 0\/(v=w/\hi=whi/\lo=wlo/\cmpN n m<0)
def ltH (y z:AV):Prop:=ltHr (gS y.cells 0) (gB y.cells 1) (gI y.cells 2) (gI y.cells 3) (gS z.cells 0) (gB z.cells 1) (gI z.cells 2) (gI z.cells 3)
theorem q3t (n:LU)(v:Bool)(hi lo:Int)(m:LU)(w:Bool)(whi wlo:Int):
 (qec n v hi lo m w whi wlo<0/\ltHr n v hi lo m w whi wlo)\/(qec n v hi lo m w whi wlo=0/\n=m/\v=w/\hi=whi/\lo=wlo)\/(qec n v hi lo m w whi wlo>0/\ltHr m w whi wlo n v hi lo):=by
 unfold qec
 rcases qb0g v hi lo w whi wlo with⟨h1,h2⟩|⟨h1,rfl,rfl,rfl⟩|⟨h1,h2⟩
 · have:(cmpA v hi lo w whi wlo != 0)=true:=by simp;omega
   rw[this,cond_t]
   exact .inl ⟨h1,.inl h2⟩
 · rw[h1,show((0:Int) != 0)=false from rfl,cond_f]
   have hs:=qb2a n m
   rcases qb2b n m with h|h|h
   · exact .inl ⟨by omega,.inr ⟨rfl,rfl,rfl,by omega⟩⟩
   · exact .inr (.inl ⟨h,qbtw.1 h,rfl,rfl,rfl⟩)
   · exact .inr (.inr ⟨by omega,.inr ⟨rfl,rfl,rfl,by omega⟩⟩)
 · have:(cmpA v hi lo w whi wlo != 0)=true:=by simp;omega
   rw[this,cond_t]
   exact .inr (.inr ⟨h1,.inl h2⟩)
theorem qk7 {n:LU}{v:Bool}{hi lo:Int}:¬ltHr n v hi lo n v hi lo:=fun h=>by
 rcases h with h|⟨_,_,_,h⟩
 · exact qfn h
 · rw[qbtw.2 rfl]at h;omega
theorem q11 {x y z:AV}(h1:ltH x y)(h2:ltH y z):ltH x z:=by
 unfold ltH at*
 rcases h1 with h1|⟨a1,a2,a3,a4⟩
 · rcases h2 with h2|⟨b1,b2,b3,b4⟩
   · exact .inl (q1t h1 h2)
   · left;rw[<-b1,<-b2,<-b3];exact h1
 · rcases h2 with h2|⟨b1,b2,b3,b4⟩
   · left;rw[a1,a2,a3];exact h2
   · exact .inr ⟨a1.trans b1,a2.trans b2,a3.trans b3,qb0f a4 b4⟩
theorem qbqz {y:AV}:¬ltH y y:=qk7
theorem qbar {y z:AV}:ltH y z↔cmpH y z<0:=by
 unfold ltH cmpH
 rcases q3t (gS y.cells 0) (gB y.cells 1) (gI y.cells 2) (gI y.cells 3) (gS z.cells 0) (gB z.cells 1) (gI z.cells 2) (gI z.cells 3)with⟨h1,h2⟩|⟨h1,h2,h3,h4,h5⟩|⟨h1,h2⟩
 · exact⟨fun _=>h1,fun _=>h2⟩
 · refine⟨fun h=> ?_,fun h=>by omega⟩
   rw[h2,h3,h4,h5]at h
   exact absurd h qk7
 · refine⟨fun h=> ?_,fun h=>by omega⟩
   exact absurd (q11 (x:=y) (y:=z) (z:=y) h h2) qbqz
def samH (y z:AV):Bool:=gS y.cells 0==gS z.cells 0&&((gB y.cells 1==gB z.cells 1)&&((gI y.cells 2==gI z.cells 2)&&((gI y.cells 3==gI z.cells 3)&&true)))
def atH (n:LU)(v:Bool)(hi lo:Int)(y:AV):Bool:=gS y.cells 0==n&&((gB y.cells 1==v)&&((gI y.cells 2==hi)&&((gI y.cells 3==lo)&&true)))
theorem q0f {n:LU}{v:Bool}{hi lo:Int}{y:AV}:atH n v hi lo y=true↔gS y.cells 0=n/\gB y.cells 1=v/\gI y.cells 2=hi/\gI y.cells 3=lo:=by
 unfold atH;simp[and_assoc]
theorem q0g {n:LU}{v:Bool}{hi lo:Int}{y:AV}:atH n v hi lo y=true↔qec (gS y.cells 0) (gB y.cells 1) (gI y.cells 2) (gI y.cells 3) n v hi lo=0:=by
 rw[q0f]
 rcases q3t (gS y.cells 0) (gB y.cells 1) (gI y.cells 2) (gI y.cells 3) n v hi lo with⟨h1,h2⟩|⟨h1,h2,h3,h4,h5⟩|⟨h1,h2⟩
 · refine⟨fun h=> ?_,fun h=>by omega⟩
   rw[h.1,h.2.1,h.2.2.1,h.2.2.2]at h2
   exact absurd h2 qk7
 · exact⟨fun _=>h1,fun _=>⟨h2,h3,h4,h5⟩⟩
 · refine⟨fun h=> ?_,fun h=>by omega⟩
   rw[h.1,h.2.1,h.2.2.1,h.2.2.2]at h2
   exact absurd h2 qk7
theorem q3u (n:LU)(v:Bool)(hi lo:Int)(m:LU)(w:Bool)(whi wlo:Int):(qec n v hi lo m w whi wlo<0↔qec m w whi wlo n v hi lo>0)/\(qec n v hi lo m w whi wlo=0↔qec m w whi wlo n v hi lo=0):=by
 have tr:∀{n v hi lo m w whi wlo},ltHr n v hi lo m w whi wlo->ltHr m w whi wlo n v hi lo->False:=fun {n v hi lo m w whi wlo} h1 h2=>
  qbqz (q11 (x:=mkH n v hi lo 0) (y:=mkH m w whi wlo 0) (z:=mkH n v hi lo 0) h1 h2)
 rcases q3t n v hi lo m w whi wlo with⟨h1,h2⟩|⟨h1,e1,e2,e3,e4⟩|⟨h1,h2⟩<;>rcases q3t m w whi wlo n v hi lo with⟨k1,k2⟩|⟨k1,k3,k4,k5,k6⟩|⟨k1,k2⟩
 · exact(tr h2 k2).elim
 · subst k3 k4 k5 k6;exact absurd h2 qk7
 · exact⟨by omega,by omega⟩
 · subst e1 e2 e3 e4;exact absurd k2 qk7
 · exact⟨by omega,by omega⟩
 · subst e1 e2 e3 e4;exact absurd k2 qk7
 · exact⟨by omega,by omega⟩
 · subst k3 k4 k5 k6;exact absurd h2 qk7
 · exact(tr h2 k2).elim
section
variable (n:LU)(v:Bool)(hi lo t:Int)(m:LU)(w:Bool)(whi wlo s:Int)(hn:n.length<=9223372036854775807)(hm:m.length<=9223372036854775807)
include hn hm
theorem qb37:q2c n v hi lo t m w whi wlo s=some (qec n v hi lo m w whi wlo):=by
 rw[qbmq];unfold qrz qec
 rw[qbr4,oB_s,qbqw n m hn hm,oB_s]
 cases(cmpA v hi lo w whi wlo != 0)<;>rfl
theorem qbxa:qsz n v hi lo t m w whi wlo s=some (qec n v hi lo m w whi wlo):=by
 rw[qboj];unfold qt0 qec
 rw[qbr4,oB_s,qbqw n m hn hm,oB_s]
 cases(cmpA v hi lo w whi wlo != 0)<;>rfl
theorem qbxb:qr8 n v hi lo t m w whi wlo s=some (decide (qec n v hi lo m w whi wlo<0)):=by
 rw[qbg4];unfold qn7 qec
 rw[qbyz,oB_s,qbqx n m hn hm]
 by_cases h:cmpA v hi lo w whi wlo<0
 · have:(cmpA v hi lo w whi wlo != 0)=true:=by simp;omega
   simp[h,this]
 · by_cases h2:cmpA v hi lo w whi wlo=0
   · simp[h2]
   · have:(cmpA v hi lo w whi wlo != 0)=true:=by simpa using h2
     have h3:(cmpA v hi lo w whi wlo==0)=false:=by simpa using h2
     simp[h,h3,this]
end
def q3v (x:LU):Bool:=x.head? ==some 42
def qlj (x:LU):Bool:= !qbd x||q3v x
theorem qb8d {x:LU}(h:qbd x=true):∃c r,x=c::r:=by
 rcases qo0 h with⟨rfl,_⟩|⟨_,h2,_⟩
 · exact⟨_,_,rfl⟩
 · cases x with
   |nil=>simp at h2
   |cons c r=>exact⟨c,r,rfl⟩
theorem qby9 {R:Type}{x:LU}(h:qbd x=true)(k:Bool->Option R):(oB (ixB x (0:Int)) fun c=>k ((c.toNat:Int)==(42:Int)))=k (q3v x):=by
 obtain⟨c,r,rfl⟩:=qb8d h
 simp only[ixB_zero,List.getElem?_cons_zero,oB_s,q3v,List.head?_cons]
 congr 1
 rw[Bool.eq_iff_iff]
 simp only[beq_iff_eq,Option.some.injEq]
 constructor
 · intro h;have:c.toNat=42:=by omega
   exact UInt8.toNat_inj.1 this
 · intro h;rw[h];rfl
theorem qbl1 {R:Type}{x:LU}(h:qbd x=true)(k:Bool->Option R):(bif(decide (((avS (ql x)).length:Int)>(0:Int)))then(oB (ixB (avS (ql x)) (0:Int)) fun y2=>(bif fitC [.s] y2.cells then(k ((gS y2.cells 0)==([42]:List UInt8)))else none))else k false)=k (q3v x):=by
 have hs:=qb19 h
 unfold q3v
 cases hl:ql x with
 |nil=>
  rw[hl]at hs
  have:(x.head? ==some 42)=false:=by
   rw[Bool.eq_false_iff]
   intro e
   have:=hs.2 (by simpa using e)
   simp at this
  simp[avS,this]
 |cons a r=>
  rw[hl]at hs
  have e:(a==[42])=(x.head? ==some 42):=by
   rw[Bool.eq_iff_iff]
   simp only[beq_iff_eq]
   rw[<-hs];simp
  have hpos:(((avS (a::r)).length:Int)>0):=by simp[avS]
  rw[decide_eq_true hpos,cond_t]
  simp only[ixB_zero]
  show k (a==[42])=_
  rw[e]
def qul (n:LU)(v:Bool)(hi lo t:Int):Int:=bif qlj n then 2 else bif !qev v hi lo then 3 else bif(decide (t<0)||decide (t>2147483647))then 1 else 0
theorem qb38 (n:LU)(v:Bool)(hi lo t:Int)(hn:n.length<=9223372036854775807):q2b n v hi lo t=some (qul n v hi lo t):=by
 rw[qbmo];unfold qrw
 rw[qbed];unfold qmk
 rw[qtm n hn,oB_s,qbnq,oB_s]
 unfold qul qlj
 cases h:qbd n
 · simp
 · simp only[Bool.not_true,cond_f,Bool.false_or]
   rw[qby9 h (fun b=>bif b then some 2 else bif !qev v hi lo then some 3 else bif(decide (t<0)||decide (t>2147483647))then some 1 else some 0)]
   cases q3v n<;>simp only[cond_t,cond_f]
   cases qev v hi lo<;>simp only[Bool.not_true,Bool.not_false,cond_t,cond_f]
   cases(decide (t<0)||decide (t>2147483647))<;>rfl
theorem qb2d (n:LU)(hn:n.length<=9223372036854775807)(h:qbd n=true):qwe n=some (q3v n):=by
 rw[qbet];unfold qmw
 rw[qb18 n hn,oB_s]
 exact qbl1 h some
theorem qb39 (n:LU)(hn:n.length<=9223372036854775807)(h:qbd n=true):q2f n=some (q3v n):=by
 rw[qbmt];unfold qr1
 rw[qbny n hn,oB_s]
 exact qbl1 h some
def qqt (y:AV):Int:=qul (gS y.cells 0) (gB y.cells 1) (gI y.cells 2) (gI y.cells 3) (gI y.cells 4)
def qyy (p:Option AV)(y:AV):Int:=match p with
 |none=>0
 |some z=>bif decide (cmpH y z<0)then 7 else bif(cmpH y z==0)then 12 else 0
def errH (p:Option AV)(y:AV):Int:=bif qqt y != 0 then qqt y else qyy p y
def chkH:Option AV->List AV->Int
 |_,[]=>0
 |p,y::r=>bif errH p y != 0 then errH p y else chkH (some y) r
def qe5 (l:LA):Int:=bif decide ((l.length:Int)>256)then 9 else chkH none l
def qk1 (l:LA)(i:Nat):Option AV:=match i with
 |0=>none
 |i+1=>l[i]?
theorem qb4a (l:LA)(hl:qjw l):q2d l=some (qe5 l):=by
 rw[qbmr];unfold qr0 qe5
 by_cases hlen:(l.length:Int)>256
 · simp[hlen]
 · simp only[hlen,decide_false,cond_f]
   rw[qba8,qbjl l hl.1 (qh2 l l (l.length:Int) fun _=>some 0) (fun i nx=>qh1 l l (l.length:Int) i nx fun _=>some 0) (fun _ _=>rfl) (fun i r=>some (chkH (qk1 l i) r))]
   · rfl
   · intro nx;simp[qh1,chkH]
   · intro i y r nx h1 h2 h3 h4 h5
     have hy:=hl.2 y (List.mem_of_getElem? h2)
     have h6:(i:Int)<(l.length:Int):=by omega
     unfold qh1 chkH
     simp only[h6,decide_true,cond_t,ixB_nat,h2,oB_s,hy.1,qb38 _ _ _ _ _ hy.2.2.2,h4,h5]
     rw[show qk1 l (i+1)=some y from h2]
     unfold errH
     rw[show qul (gS y.cells 0) (gB y.cells 1) (gI y.cells 2) (gI y.cells 3) (gI y.cells 4)=qqt y from rfl]
     cases hf:(qqt y != 0)
     · simp only[cond_f]
       cases i with
       |zero=>simp[qk1,qyy]
       |succ i=>
        have e0:(((i+1:Nat):Int)==0)=false:=by simp;omega
        have hw:IntKind.i64.wrap (((i+1:Nat):Int)-1)=(i:Int):=by rw[w64 (by omega) (by have:=hl.1;omega)];omega
        obtain⟨x,hx⟩:∃x,l[i]?=some x:=⟨l[i],by simp⟩
        have hxf:=hl.2 x (List.mem_of_getElem? hx)
        simp only[e0,cond_f,hw,ixB_nat,hx,oB_s,hxf.1,cond_t,qb37 _ _ _ _ _ _ _ _ _ _ hy.2.2.2 hxf.2.2.2]
        rw[show qk1 l (i+1)=some x from hx]
        unfold qyy
        rw[show qec (gS y.cells 0) (gB y.cells 1) (gI y.cells 2) (gI y.cells 3) (gS x.cells 0) (gB x.cells 1) (gI x.cells 2) (gI x.cells 3)=cmpH y x from rfl]
        by_cases c1:cmpH y x<0
        · simp[c1,hf]
        · by_cases c2:cmpH y x=0
          · simp[c2,hf]
          · have c3:(cmpH y x==0)=false:=by simpa using c2
            simp[c1,c3,hf]
     · simp[hf]
theorem qbq0 (l:LA)(hl:qjw l):qt6 l=some (qe5 l):=by
 rw[qbky];unfold qpw qe5
 by_cases hlen:(l.length:Int)>256
 · simp[hlen]
 · simp only[hlen,decide_false,cond_f]
   rw[q9d,qbjl l hl.1 (qgy l fun _=>some 0) (fun i nx=>qgx l i nx fun _=>some 0) (fun _ _=>rfl) (fun i r=>some (chkH (qk1 l i) r))]
   · rfl
   · intro nx;simp[qgx,chkH]
   · intro i y r nx h1 h2 h3 h4 h5
     have hy:=hl.2 y (List.mem_of_getElem? h2)
     have h6:(i:Int)<(l.length:Int):=by omega
     unfold qgx chkH
     simp only[h6,decide_true,cond_t,ixB_nat,h2,oB_s,hy.1,h4,h5]
     rw[show qk1 l (i+1)=some y from h2]
     have hJ27:∀kn:Bool->Option Int,qs4 l (i:Int) (gS y.cells 0) (gB y.cells 1) (gI y.cells 2) (gI y.cells 3) (gI y.cells 4) kn=kn (qlj (gS y.cells 0)):=fun kn=>by
      rw[q88];unfold qkq qlj
      rw[qbiy _ hy.2.2.2,oB_s]
      cases h:qbd (gS y.cells 0)
      · simp
      · rw[qb2d _ hy.2.2.2 h];simp
     rw[hJ27,q66,oB_s]
     have hJ51:∀kn:Bool->Option Int,qs5 l (i:Int) (gS y.cells 0) (gB y.cells 1) (gI y.cells 2) (gI y.cells 3) (gI y.cells 4) kn=kn (match qk1 l i with
      |none=>false
      |some x=>decide (cmpH y x<0)):=fun kn=>by
      rw[q9a];unfold qkr
      cases i with
      |zero=>simp[qk1]
      |succ i=>
       have hpos:((i+1:Nat):Int)>0:=by omega
       have hw:IntKind.i64.wrap (((i+1:Nat):Int)-1)=(i:Int):=by rw[w64 (by omega) (by have:=hl.1;omega)];omega
       obtain⟨x,hx⟩:∃x,l[i]?=some x:=⟨l[i],by simp⟩
       have hxf:=hl.2 x (List.mem_of_getElem? hx)
       simp only[hpos,decide_true,cond_t,hw,ixB_nat,hx,oB_s,hxf.1,qbxb _ _ _ _ _ _ _ _ _ _ hy.2.2.2 hxf.2.2.2]
       rw[show qk1 l (i+1)=some x from hx]
       rfl
     have hJ58:∀kn:Bool->Option Int,qs6 l (i:Int) (gS y.cells 0) (gB y.cells 1) (gI y.cells 2) (gI y.cells 3) (gI y.cells 4) kn=kn (match qk1 l i with
      |none=>false
      |some x=>samH y x):=fun kn=>by
      rw[q9c];unfold qks
      cases i with
      |zero=>simp[qk1]
      |succ i=>
       have hpos:((i+1:Nat):Int)>0:=by omega
       have hw:IntKind.i64.wrap (((i+1:Nat):Int)-1)=(i:Int):=by rw[w64 (by omega) (by have:=hl.1;omega)];omega
       obtain⟨x,hx⟩:∃x,l[i]?=some x:=⟨l[i],by simp⟩
       have hxf:=hl.2 x (List.mem_of_getElem? hx)
       simp only[hpos,decide_true,cond_t,hw,ixB_nat,hx,oB_s,hxf.1]
       rw[show qk1 l (i+1)=some x from hx]
       unfold samH
       simp only
       cases h:(gS y.cells 0==gS x.cells 0)<;>simp only[cond_t,cond_f,Bool.false_and,Bool.true_and]
     rw[hJ51,hJ58]
     unfold errH qqt qul
     cases qlj (gS y.cells 0)<;>simp only[cond_t,cond_f]
     · cases qev (gB y.cells 1) (gI y.cells 2) (gI y.cells 3)<;>simp only[Bool.not_true,Bool.not_false,cond_t,cond_f]
       · rfl
       · cases(decide (gI y.cells 4<0)||decide (gI y.cells 4>2147483647))<;>simp only[cond_t,cond_f]
         · unfold qyy
           cases hp:qk1 l i with
           |none=>simp
           |some x=>
            simp only
            have hsam:samH y x=(cmpH y x==0):=by
             rw[Bool.eq_iff_iff]
             have:=q0g (n:=gS x.cells 0) (v:=gB x.cells 1) (hi:=gI x.cells 2) (lo:=gI x.cells 3) (y:=y)
             rw[show samH y x=atH (gS x.cells 0) (gB x.cells 1) (gI x.cells 2) (gI x.cells 3) y from rfl,this]
             simp[cmpH]
            rw[hsam]
            by_cases c1:cmpH y x<0
            · simp[c1]
            · by_cases c2:cmpH y x=0
              · simp[c2]
              · have c3:(cmpH y x==0)=false:=by simpa using c2
                simp[c1,c3]
         · rfl
     · rfl
def blkd (l:LA)(v:Bool)(hi lo:Int):Bool:=(qwq (fun y=>qgb (gB y.cells 0) (gI y.cells 1) (gI y.cells 2) (gI y.cells 3) v hi lo) l).2&&
 ((gI (qwq (fun y=>qgb (gB y.cells 0) (gI y.cells 1) (gI y.cells 2) (gI y.cells 3) v hi lo) l).1.cells 4==2)||(gI (qwq (fun y=>qgb (gB y.cells 0) (gI y.cells 1) (gI y.cells 2) (gI y.cells 3) v hi lo) l).1.cells 4==3))
theorem qbxc (x:AV×Bool):(bif x.2 then(bif((gI x.1.cells 4)==(2:Int))then(some true)else(some ((gI x.1.cells 4)==(3:Int))))else(some false))=some (x.2&&((gI x.1.cells 4==2)||(gI x.1.cells 4==3))):=by
 cases x.2
 · rfl
 · simp only[cond_t,Bool.true_and]
   cases(gI x.1.cells 4==2)<;>rfl
theorem qbq1 (l:LA)(hl:qq l)(n:LU)(v:Bool)(hi lo t:Int):qrq l n v hi lo t=some (blkd l v hi lo):=by
 rw[qbf6];unfold qnt blkd
 rw[qb3r l hl,oB_s,qbxc]
theorem qbi0 (l:LA)(hl:qq l)(v:Bool)(hi lo:Int)(u1:uok hi)(u2:uok lo):qle l v hi lo=some (blkd l v hi lo):=by
 rw[qbey];unfold qm0 blkd
 rw[qb12 l hl v hi lo u1 u2,oB_s,qbxc]
def qb7n (z:AV):Prop:=fitC [.s] z.cells=true/\(gS z.cells 0).length<=9223372036854775807
def qbas (l:LA):Prop:=l.length<=9223372036854775807/\∀z,z∈l->qb7n z
def qjx (zs:LA)(n:LU):Bool:=zs.any fun z=>qvn n (gS z.cells 0)
theorem qbsb (zs:LA)(hz:qbas zs)(n:LU)(hn:n.length<=9223372036854775807):qor zs n=some (qjx zs n):=by
 rw[qbk1];unfold qpy qjx
 rw[qbbr,qf8 zs hz.1 (qh4 zs n fun _=>some false) (fun i nx=>qh3 zs n i nx fun _=>some false) (fun _ _=>rfl) (fun r=>some (r.any fun z=>qvn n (gS z.cells 0)))]
 · intro nx;simp[qh3]
 · intro i z r nx h1 h2 h3 h4 h5
   have hy:=hz.2 z (List.mem_of_getElem? h2)
   have h6:(i:Int)<(zs.length:Int):=by omega
   unfold qh3
   simp only[h6,decide_true,cond_t,ixB_nat,h2,oB_s,hy.1,h4,h5,qb35 n _ hn hy.2,List.any_cons]
   cases qvn n (gS z.cells 0)<;>simp
theorem qbtz (zs:LA)(hz:qbas zs)(n:LU)(hn:n.length<=9223372036854775807):qt1 zs n=some (qjx zs n):=by
 rw[qbkk];unfold qpf
 rw[qi4];unfold qbx
 rw[qkc];unfold qb1
 rw[qi2]
 have key:=qch (σ:=List UInt8) zs hz.1 (fun k i s=>qbf zs (zs.length:Int) (fun b0_0q1=>(fun v4q1 b0_0q2=>(fun v4q1 b0_0q2=>(some v4q1:Option Bool)) (decide (v4q1>=0)) b0_0q2) (-1:Int) b0_0q1) (fun v4q1 b0_0q2=>(fun v4q1 b0_0q2=>(some v4q1:Option Bool)) (decide (v4q1>=0)) b0_0q2) k i s)
  (fun i s nx=>qbe zs (zs.length:Int) i s nx (fun b0_0q1=>(fun v4q1 b0_0q2=>(fun v4q1 b0_0q2=>(some v4q1:Option Bool)) (decide (v4q1>=0)) b0_0q2) (-1:Int) b0_0q1) (fun v4q1 b0_0q2=>(fun v4q1 b0_0q2=>(some v4q1:Option Bool)) (decide (v4q1>=0)) b0_0q2)) (fun _ _ _=>rfl)
  (fun _ s=>s=n) (fun r _=>some (r.any fun z=>qvn n (gS z.cells 0))) ?_ ?_ n FU rfl (qcp (by have:=hz.1;omega))
 · exact key
 · intro s nx hs;simp[qbe]
 · intro i z r s nx h1 h2 h3 h4 hs h5
   subst hs
   have hy:=hz.2 z (List.mem_of_getElem? h2)
   have h6:(i:Int)<(zs.length:Int):=by omega
   unfold qbe
   simp only[h6,decide_true,cond_t,ixB_nat,h2,oB_s,hy.1,h4]
   rw[qbeh];unfold qml
   rw[qb6e s _ hn hy.2,oB_s]
   show(bif qvn s (gS z.cells 0)then some (decide ((i:Int)>=0))else nx ((i+1:Nat):Int) s)=_
   rw[h5 s rfl,List.any_cons]
   have:decide ((i:Int)>=0)=true:=by simp
   cases qvn s (gS z.cells 0)<;>simp[this]
def badZ (p:Option AV)(z:AV):Bool:= !qbd (gS z.cells 0)||match p with
 |none=>false
 |some x=>decide (cmpN (gS x.cells 0) (gS z.cells 0)>=0)
def chkZ (k:Int):Option AV->List AV->Int
 |_,[]=>k
 |p,z::r=>bif badZ p z then 2 else chkZ k (some z) r
def chkS (b z:LA):List AV->Int
 |[]=>0
 |h::r=>bif !blkd b (gB h.cells 1) (gI h.cells 2) (gI h.cells 3)then 25 else bif !qjx z (gS h.cells 0)then 13 else chkS b z r
def q12 (b h z:LA):Int:=bif qtl b != 0 then qtl b else bif qe5 h != 0 then qe5 h else bif decide ((z.length:Int)>32)then 9 else chkZ (chkS b z h) none z
section
variable (b h z:LA)(hb:qq b)(hh:qjw h)(hz:qbas z)
include hb hh hz
theorem qb7o:qs9 b h z (fun _=>some 0) FU 0=some (chkS b z h):=by
 rw[q9j,qf8 h hh.1 (qg3 b h z fun _=>some 0) (fun i nx=>qg2 i b h z nx fun _=>some 0) (fun _ _=>rfl) (fun r=>some (chkS b z r))]
 · intro nx;simp[qg2,chkS]
 · intro i y r nx h1 h2 h3 h4 h5
   have hy:=hh.2 y (List.mem_of_getElem? h2)
   have h6:(i:Int)<(h.length:Int):=by omega
   unfold qg2 chkS
   simp only[h6,decide_true,cond_t,ixB_nat,h2,oB_s,hy.1,h4,h5,qbi0 b hb _ _ _ hy.2.1 hy.2.2.1,qbsb z hz _ hy.2.2.2]
   cases blkd b (gB y.cells 1) (gI y.cells 2) (gI y.cells 3)<;>simp only[Bool.not_true,Bool.not_false,cond_t,cond_f]
   cases qjx z (gS y.cells 0)<;>rfl
theorem qbt0:qt7 b h z=some (q12 b h z):=by
 rw[qbk2];unfold qpz q12
 rw[qb1y b hb,oB_s,qbq0 h hh,oB_s]
 cases(qtl b != 0)
 case true=>rfl
 cases(qe5 h != 0)
 case true=>rfl
 simp only[cond_f]
 by_cases hlen:(z.length:Int)>32
 · simp[hlen]
 · simp only[hlen,decide_false,cond_f]
   rw[qb7o b h z hb hh hz]
   rw[q9i,qbjl z hz.1 (qg1 b h z fun _=>some (chkS b z h)) (fun i nx=>qg0 i b h z nx fun _=>some (chkS b z h)) (fun _ _=>rfl) (fun i r=>some (chkZ (chkS b z h) (qk1 z i) r))]
   · rfl
   · intro nx;simp[qg0,chkZ]
   · intro i y r nx h1 h2 h3 h4 h5
     have hy:=hz.2 y (List.mem_of_getElem? h2)
     have h6:(i:Int)<(z.length:Int):=by omega
     unfold qg0 chkZ
     simp only[h6,decide_true,cond_t,h4,h5]
     rw[show qk1 z (i+1)=some y from h2]
     have hJ:∀kn:Bool->Option Int,qs8 (i:Int) b h z kn=kn (badZ (qk1 z i) y):=fun kn=>by
      rw[q9h];unfold qkt badZ
      simp only[ixB_nat,h2,oB_s,hy.1,cond_t]
      rw[qbiy _ hy.2,oB_s]
      cases qbd (gS y.cells 0)
      · rfl
      · simp only[Bool.not_true,cond_f,Bool.false_or]
        cases i with
        |zero=>simp[qk1]
        |succ i=>
         have hpos:((i+1:Nat):Int)>0:=by omega
         have hw:IntKind.i64.wrap (((i+1:Nat):Int)-1)=(i:Int):=by rw[w64 (by omega) (by have:=hz.1;omega)];omega
         obtain⟨x,hx⟩:∃x,z[i]?=some x:=⟨z[i],by simp⟩
         have hxf:=hz.2 x (List.mem_of_getElem? hx)
         simp only[hpos,decide_true,cond_t,hw,ixB_nat,hx,oB_s,hxf.1,h2,hy.1,qbqx _ _ hxf.2 hy.2]
         rw[show qk1 z (i+1)=some x from hx]
     rw[hJ]
     cases badZ (qk1 z i) y<;>rfl
end
def Cutt (l:LA)(n:LU)(v:Bool)(hi lo:Int)(r:Nat):Prop:=r<=l.length/\∀(k:Nat) (y:AV),l[k]?=some y->(qec (gS y.cells 0) (gB y.cells 1) (gI y.cells 2) (gI y.cells 3) n v hi lo<0↔k<r)
theorem qbza (y:AV)(n:LU)(v:Bool)(hi lo t:Int):cmpH y (mkH n v hi lo t)=qec (gS y.cells 0) (gB y.cells 1) (gI y.cells 2) (gI y.cells 3) n v hi lo:=rfl
theorem qbzb (y:AV)(n:LU)(v:Bool)(hi lo t:Int):cmpH (mkH n v hi lo t) y=qec n v hi lo (gS y.cells 0) (gB y.cells 1) (gI y.cells 2) (gI y.cells 3):=rfl
theorem qbq2 (n:LU)(v:Bool)(hi lo:Int):∀{l:LA},l.Pairwise ltH->∃r,Cutt l n v hi lo r
 |[],_=>⟨0,Nat.le_refl _,fun k y h=>by simp at h⟩
 |y::l,hp=>by
  rw[List.pairwise_cons]at hp
  obtain⟨r,h1,h2⟩:=qbq2 n v hi lo hp.2
  by_cases hc:qec (gS y.cells 0) (gB y.cells 1) (gI y.cells 2) (gI y.cells 3) n v hi lo<0
  · refine⟨r+1,by simp;omega,fun k z hz=> ?_⟩
    cases k with
    |zero=>simp at hz;subst hz;exact⟨fun _=>by omega,fun _=>hc⟩
    |succ k=>rw[h2 k z (by simpa using hz)];omega
  · refine⟨0,Nat.zero_le _,fun k z hz=> ?_⟩
    refine⟨fun h=> ?_,fun h=>by omega⟩
    exfalso
    cases k with
    |zero=>simp at hz;subst hz;exact hc h
    |succ k=>
     have hyz:=hp.1 z (List.mem_of_getElem? (by simpa using hz))
     rw[<-qbza z n v hi lo 0]at h
     rw[<-qbza y n v hi lo 0]at hc
     exact hc (qbar.1 (q11 hyz (qbar.2 h)))
theorem qb7p {i j:Nat}(h:i+j<=9223372036854775807):IntKind.i64.wrap ((IntKind.u64.wrap (IntKind.i64.wrap ((i:Int)+(j:Int)))).fdiv (2^min (1:Int).toNat IntKind.u64.bits))=(((i+j) / 2:Nat):Int):=by
 rw[w64 (i:=(i:Int)+(j:Int)) (by omega) (by omega),wu64 (by omega) (by omega)]
 have e:(2:Int)^min (1:Int).toNat IntKind.u64.bits=2:=by decide
 rw[e,Int.fdiv_eq_ediv_of_nonneg _ (by omega),w64 (by omega) (by omega)]
 omega
theorem qbnz (l:LA)(hl:qjw l)(hn:l.length<=1000000)(n:LU)(v:Bool)(hi lo t:Int)(hnm:n.length<=9223372036854775807){r:Nat}(hr:Cutt l n v hi lo r)(kx:Int->Option (Int×Bool)):
 ∀(m i j:Nat),i<=r->r<=j->j<=l.length->j-i<m->qm l (l.length:Int) n v hi lo t kx m (i:Int) (j:Int)=kx (r:Int)
 |0,i,j,_,_,_,h=>by omega
 |m+1,i,j,h1,h2,h3,h4=>by
  unfold qm qbt
  by_cases hij:i<j
  · have e1:(i:Int)<(j:Int):=by omega
    rw[decide_eq_true e1,cond_t]
    have e2:=qb7p (i:=i) (j:=j) (by omega)
    rw[e2,ixB_nat]
    have hk:(i+j) / 2<l.length:=by omega
    obtain⟨y,hy⟩:∃y,l[(i+j) / 2]?=some y:=⟨l[(i+j) / 2],by simp[hk]⟩
    have hyf:=hl.2 y (List.mem_of_getElem? hy)
    rw[hy,oB_s,hyf.1,cond_t,qbxa _ _ _ _ _ _ _ _ _ _ hyf.2.2.2 hnm,oB_s]
    have hc:=hr.2 _ y hy
    by_cases hlt:qec (gS y.cells 0) (gB y.cells 1) (gI y.cells 2) (gI y.cells 3) n v hi lo<0
    · rw[decide_eq_true hlt,cond_t,w64 (by omega) (by omega)]
      have:=hc.1 hlt
      have ih:=qbnz l hl hn n v hi lo t hnm hr kx m ((i+j) / 2+1) j (by omega) h2 h3 (by omega)
      rw[show(((i+j) / 2:Nat):Int)+1=(((i+j) / 2+1:Nat):Int) by omega]
      exact ih
    · rw[decide_eq_false hlt,cond_f]
      have:¬(i+j) / 2<r:=fun h=>hlt (hc.2 h)
      exact qbnz l hl hn n v hi lo t hnm hr kx m i ((i+j) / 2) h1 (by omega) (by omega) (by omega)
  · have e1:¬(i:Int)<(j:Int):=by omega
    rw[decide_eq_false e1,cond_f,show i=r by omega]
theorem qbxd (l:LA)(hl:qjw l)(hn:l.length<=1000000)(hp:l.Pairwise ltH)(n:LU)(v:Bool)(hi lo t:Int)(hnm:n.length<=9223372036854775807){r:Nat}(hr:Cutt l n v hi lo r):qu8 l n v hi lo t=some ((r:Int),l.any (atH n v hi lo)):=by
 rw[qbrg];unfold qvz
 rw[qe8];unfold qbc
 rw[qex]
 have:=qbnz l hl hn n v hi lo t hnm hr (fun v9q1=>(bif(decide (v9q1<(l.length:Int)))then(oB (ixB l v9q1) fun y2=>(bif fitC qj y2.cells then(oB (qsz (gS y2.cells 0) (gB y2.cells 1) (gI y2.cells 2) (gI y2.cells 3) (gI y2.cells 4) n v hi lo t) fun r3=>(some (v9q1,(r3==(0:Int)))))else none))else(some (v9q1,false)))) FU 0 l.length (Nat.zero_le _) hr.1 (Nat.le_refl _) (qcp (by omega))
 rw[Int.natCast_zero]at this
 rw[this]
 have hany:l.any (atH n v hi lo)=match l[r]? with
  |some y=>atH n v hi lo y
  |none=>false:=by
  cases hy:l[r]? with
  |none=>
   simp only
   rw[Bool.eq_false_iff]
   intro h
   obtain⟨y,hym,hat⟩:=List.any_eq_true.1 h
   obtain⟨k,hk,rfl⟩:=List.mem_iff_getElem.1 hym
   have h0:=q0g.1 hat
   have:=(hr.2 k l[k] (by simp[hk])).2 (by have:=List.getElem?_eq_none_iff.1 hy;omega)
   omega
  |some y=>
   simp only
   have hrl:=(List.getElem?_eq_some_iff.1 hy).1
   rw[Bool.eq_iff_iff,List.any_eq_true]
   refine⟨?_,fun h=>⟨y,List.mem_of_getElem? hy,h⟩⟩
   rintro⟨z,hzm,hat⟩
   obtain⟨k,hk,rfl⟩:=List.mem_iff_getElem.1 hzm
   have h0:=q0g.1 hat
   have hkr:¬k<r:=fun h=>by have:=(hr.2 k l[k] (by simp[hk])).2 h;omega
   rcases Nat.lt_or_ge r k with h|h
   · exfalso
     have hlt:=List.pairwise_iff_getElem.1 hp r k hrl hk h
     have hnl:¬qec (gS y.cells 0) (gB y.cells 1) (gI y.cells 2) (gI y.cells 3) n v hi lo<0:=fun h=>by have:=(hr.2 r y hy).1 h;omega
     apply hnl
     have ey:l[r]=y:=by have:=List.getElem?_eq_some_iff.1 hy;exact this.2
     rw[ey]at hlt
     obtain⟨e1,e2,e3,e4⟩:=q0f.1 hat
     have:=qbar.1 hlt
     unfold cmpH at this
     rw[e1,e2,e3,e4]at this
     exact this
   · have:k=r:=by omega
     subst this
     have ey:l[k]=y:=by have:=List.getElem?_eq_some_iff.1 hy;exact this.2
     rw[ey]at hat;exact hat
 rw[hany]
 by_cases hrl:r<l.length
 · have e1:(r:Int)<(l.length:Int):=by omega
   obtain⟨y,hy⟩:∃y,l[r]?=some y:=⟨l[r],by simp[hrl]⟩
   have hyf:=hl.2 y (List.mem_of_getElem? hy)
   simp only[e1,decide_true,cond_t,ixB_nat,hy,oB_s,hyf.1,qbxa _ _ _ _ _ _ _ _ _ _ hyf.2.2.2 hnm]
   have:(qec (gS y.cells 0) (gB y.cells 1) (gI y.cells 2) (gI y.cells 3) n v hi lo==0)=atH n v hi lo y:=by
    rw[Bool.eq_iff_iff,q0g];simp
   rw[this]
 · have e1:¬(r:Int)<(l.length:Int):=by omega
   have hy:l[r]?=none:=List.getElem?_eq_none_iff.2 (by omega)
   simp[e1,hy]
def insH (x:AV):List AV->List AV
 |[]=>[x]
 |y::r=>bif decide (cmpH x y<0)then x::y::r else y::insH x r
theorem q13 (x y:AV)(r:LA):insH x (y::r)=bif decide (cmpH x y<0)then x::y::r else y::insH x r:=rfl
theorem qbdk (x:AV):∀l,(insH x l).length=l.length+1
 |[]=>rfl
 |y::r=>by rw[q13];cases decide (cmpH x y<0)<;>simp[qbdk x r]
theorem qqg {x y:AV}:∀{l:LA},y∈insH x l↔y=x\/y∈l
 |[]=>by simp[insH]
 |z::r=>by
  rw[q13]
  cases decide (cmpH x z<0)
  · simp only[cond_f,List.mem_cons,qqg (l:=r)]
    constructor
    · rintro(h|h|h)
      · exact .inr (.inl h)
      · exact .inl h
      · exact .inr (.inr h)
    · rintro(h|h|h)
      · exact .inr (.inl h)
      · exact .inl h
      · exact .inr (.inr h)
  · simp
theorem qbsc (n:LU)(v:Bool)(hi lo t:Int):∀{l:LA} {r:Nat},Cutt l n v hi lo r->l.any (atH n v hi lo)=false->l.take r++[mkH n v hi lo t]++l.drop r=insH (mkH n v hi lo t) l
 |[],r,_,_=>by simp[insH]
 |y::l,r,hr,ha=>by
  simp only[List.any_cons,Bool.or_eq_false_iff]at ha
  have h0:=hr.2 0 y rfl
  have hs:=(q3u (gS y.cells 0) (gB y.cells 1) (gI y.cells 2) (gI y.cells 3) n v hi lo)
  have hne:¬qec (gS y.cells 0) (gB y.cells 1) (gI y.cells 2) (gI y.cells 3) n v hi lo=0:=fun h=>by rw[q0g.2 h]at ha;simp at ha
  rw[q13]
  rw[qbzb]
  cases r with
  |zero=>
   have h1:¬qec (gS y.cells 0) (gB y.cells 1) (gI y.cells 2) (gI y.cells 3) n v hi lo<0:=fun h=>by have:=h0.1 h;omega
   have h2:=q3u n v hi lo (gS y.cells 0) (gB y.cells 1) (gI y.cells 2) (gI y.cells 3)
   have:qec n v hi lo (gS y.cells 0) (gB y.cells 1) (gI y.cells 2) (gI y.cells 3)<0:=h2.1.2 (by omega)
   simp[this]
  |succ r=>
   have h1:=h0.2 (by omega)
   have:¬qec n v hi lo (gS y.cells 0) (gB y.cells 1) (gI y.cells 2) (gI y.cells 3)<0:=by have:=hs.1.1 h1;omega
   have ih:=qbsc n v hi lo t (l:=l) (r:=r) ⟨by have:=hr.1;simp at this;omega,fun k z hz=>by
    have:=hr.2 (k+1) z (by simpa using hz)
    rw[this];omega⟩ ha.2
   simp only[this,decide_false,cond_f,List.take_succ_cons,List.drop_succ_cons,List.cons_append]
   rw[<-ih]
theorem qb2e (l:LA)(hn:l.length<=100000){r:Nat}(hr:r<=l.length)(x:AV):qow 48 l (r:Int) [x]=some (l.take r++[x]++l.drop r):=by
 unfold qow
 have:decide (0<=(r:Int)/\(r:Int)<=(l.length:Int)/\0<([x]:List AV).length/\(l.length+([x]:List AV).length)*48<=140737488355328)=true:=by
  simp;omega
 rw[this];simp
theorem qb7q (l:LA)(hn:l.length<=100000){r:Nat}(hr:r<l.length):qxd l (r:Int) ((r+1:Nat):Int)=some (l.take r++l.drop (r+1)):=by
 unfold qxd
 have:decide (0<=(r:Int)/\(r:Int)<((r+1:Nat):Int)/\((r+1:Nat):Int)<=(l.length:Int)/\l.length<=9223372036854775807)=true:=by
  simp;omega
 rw[this];simp
theorem qbzc (l:LA)(hl:qjw l)(n:LU)(v:Bool)(hi lo:Int):qua l n v hi lo=some (idxI (atH n v hi lo) l):=by
 rw[qbk9];unfold qp2 idxI
 rw[qbb4,qbjl l hl.1 (qh8 l n v hi lo fun _=>some (-1)) (fun i nx=>qh7 l n i v hi lo nx fun _=>some (-1)) (fun _ _=>rfl) (fun i r=>some (match idxO (atH n v hi lo) r with
  |some k=>((i+k:Nat):Int)
  |none=> -1))]
 · cases idxO (atH n v hi lo) l<;>simp
 · intro nx;simp[qh7,idxO]
 · intro i y r nx h1 h2 h3 h4 h5
   have hy:=hl.2 y (List.mem_of_getElem? h2)
   have h6:(i:Int)<(l.length:Int):=by omega
   unfold qh7 idxO
   simp only[h6,decide_true,cond_t,ixB_nat,h2,oB_s,hy.1,h4,h5]
   unfold atH
   cases(gS y.cells 0==n)
   · simp only[cond_f,Bool.false_and,Bool.false_eq_true,if_false]
     cases idxO _ r with
     |none=>rfl
     |some k=>simp;omega
   · simp only[cond_t,Bool.true_and]
     cases hq:((gB y.cells 1==v)&&((gI y.cells 2==hi)&&((gI y.cells 3==lo)&&true)))
     · simp only[cond_f,Bool.false_eq_true,if_false]
       cases idxO _ r with
       |none=>rfl
       |some k=>simp;omega
     · simp
theorem qbjm {R:Type}{a:LA}(x:AV)(h:(a.length+1)*48<=140737488355328)(k:Option R):(bif decide ((a.length+([x]:List AV).length)*48<=140737488355328)then k else none)=k:=by
 have:decide ((a.length+([x]:List AV).length)*48<=140737488355328)=true:=by simpa using h
 rw[this];rfl
theorem qbxe (l:LA)(hl:qjw l)(hn:l.length<=100000)(k:Nat):qwm l (k:Int)=some (l.take k++l.drop (k+1)):=by
 rw[qbfl];unfold qna
 simp only[qqu,List.length_nil,Bool.and_self,cond_t]
 rw[q73]
 have key:=qch (σ:=List AV) l hl.1 (fun n i s=>qf5 l (k:Int) (fun a0q1=>bif hd a0q1 a0q1.length then some a0q1 else none) n i s) (fun i s nx=>qf4 l (k:Int) i s nx (fun a0q1=>bif hd a0q1 a0q1.length then some a0q1 else none)) (fun _ _ _=>rfl)
  (fun i s=>s.length<=i) (fun r s=>some (s++(bif decide (l.length-r.length<=k)then r.take (k-(l.length-r.length))++r.drop (k-(l.length-r.length)+1)else r))) ?_ ?_ [] FU (by simp) (qcp (by have:=hl.1;omega))
 · simpa using key
 · intro a nx hJ;simp[qf4]
 · intro i y r a nx h1 h2 h3 h4 hJ h5
   have hy:=hl.2 y (List.mem_of_getElem? h2)
   have h6:(i:Int)<(l.length:Int):=by omega
   have hyy:=qbdj hy.1
   unfold mkH at hyy
   obtain⟨e1,e2⟩:=qbwv h1
   unfold qf4
   simp only[h6,decide_true,cond_t,hd_self,ixB_nat,h2,oB_s,hy.1,h4,hyy]
   rw[qbjm y (by omega),e1]
   have f1:=h5 (a++[y]) (by simp;omega)
   have f2:=h5 a (by omega)
   rw[e2]at f1 f2
   by_cases hik:i=k
   · subst hik
     have:((i:Int) != (i:Int))=false:=by simp
     rw[this,cond_f,f2]
     have g1:¬i+1<=i:=by omega
     simp[g1]
   · have:((i:Int) != (k:Int))=true:=by simp;omega
     rw[this,cond_t,f1]
     by_cases hlt:i<k
     · have g1:i+1<=k:=by omega
       have g2:i<=k:=by omega
       have g3:k-i=(k-(i+1))+1:=by omega
       simp only[g1,g2,decide_true,cond_t,g3,List.take_succ_cons,List.drop_succ_cons,List.append_assoc,List.singleton_append,List.cons_append,List.nil_append]
     · have g1:¬i+1<=k:=by omega
       have g2:¬i<=k:=by omega
       simp[g1,g2]
theorem qbl2 (l:LA)(hl:qjw l)(hn:l.length<=100000)(n:LU)(v:Bool)(hi lo t:Int)(hnm:n.length<=9223372036854775807):qsg l n v hi lo t=some (insH (mkH n v hi lo t) l):=by
 rw[qbhl];unfold qoe
 simp only[qqu,List.length_nil,Bool.and_self,cond_t]
 rw[q72]
 have fin:∀(kx:Bool->List AV->Option (List AV)),(∀d a,a.length<=200000->kx d a=some (bif d then a else a++[mkH n v hi lo t]))->
  qel l n v hi lo t kx FU false 0 []=some (insH (mkH n v hi lo t) l):=by
  intro kx hkx
  have key:=qch (σ:=Bool×List AV) l hl.1 (fun m i s=>qel l n v hi lo t kx m s.1 i s.2) (fun i s nx=>qf3 l s.1 i n v hi lo t s.2 (fun d i a=>nx i (d,a)) kx) (fun _ _ _=>rfl)
   (fun i s=>s.2.length<=2*i) (fun r s=>some (s.2++(bif s.1 then r else insH (mkH n v hi lo t) r))) ?_ ?_ (false,[]) FU (by simp) (qcp (by have:=hl.1;omega))
  · simpa using key
  · rintro⟨d,a⟩ nx hJ
    simp only at hJ⊢
    unfold qf3
    simp only[Int.lt_irrefl,decide_false,cond_f]
    rw[hkx d a (by omega)]
    cases d<;>simp[insH]
  · rintro i y r ⟨d,a⟩ nx h1 h2 h3 h4 hJ h5
    have hy:=hl.2 y (List.mem_of_getElem? h2)
    simp only at hJ⊢
    have h6:(i:Int)<(l.length:Int):=by omega
    have hyy:=qbdj hy.1
    unfold mkH at hyy
    have e1:=h5 (true,a++[mkH n v hi lo t]++[y]) (by simp;omega)
    have e2:=h5 (d,a++[y]) (by simp;omega)
    simp only at e1 e2
    unfold qf3
    rw[decide_eq_true h6]
    simp only[cond_t,hd_self,Bool.and_self]
    rw[q71];unfold qjt
    simp only[hd_self,Bool.and_self,cond_t]
    rw[q7z];unfold qjs
    simp only[ixB_nat,h2,oB_s,hy.1,cond_t,qbxb _ _ _ _ _ _ _ _ _ _ hnm hy.2.2.2,h4,hyy]
    rw[q13]
    rw[<-qbzb y n v hi lo t]
    rw[show(AV.agg [(.str n),(.bool v),(.int .u64 hi),(.int .u64 lo),(.int .i64 t)])=mkH n v hi lo t from rfl]
    have st:(bif hd ([y]:List AV) ([y]:List AV).length then(bif decide ((a.length+([y]:List AV).length)*48<=140737488355328)then nx ((i+1:Nat):Int) (d,a++[y])else none)else none)=nx ((i+1:Nat):Int) (d,a++[y]):=by
     rw[hd_self,cond_t,qbjm y (by omega)]
    cases d with
    |true=>
     simp only[Bool.not_true,cond_f,st,e2]
     simp[show(a.length+1)*48<=140737488355328 by omega]
    |false=>
     simp only[Bool.not_false,cond_t]
     cases hc:decide (cmpH (mkH n v hi lo t) y<0)with
     |false=>
      simp only[cond_f,st,e2]
      simp[show(a.length+1)*48<=140737488355328 by omega]
     |true=>
      simp only[cond_t]
      rw[qbjm (mkH n v hi lo t) (by omega),qbjm y (a:=a++[mkH n v hi lo t]) (by simp;omega),e1]
      simp
 refine fin _ fun d a ha=> ?_
 have g1:(a.length+1)*48<=140737488355328:=by omega
 cases d
 · simp only[Bool.not_false,cond_t,hd_self,cond_f]
   rw[show(AV.agg [(.str n),(.bool v),(.int .u64 hi),(.int .u64 lo),(.int .i64 t)])=mkH n v hi lo t from rfl]
   simp[g1]
 · simp[g1]
def kin (y:AV):Bool:=(gI y.cells 4==2)||(gI y.cells 4==3)
theorem qbxf {l:LA}(hl:qq l)(ht:qc1 l){v:Bool}{hi lo:Int}(u1:uok hi)(u2:uok lo):blkd l v hi lo=true↔∃y,y∈l/\hasA v hi lo y=true/\kin y=true:=by
 have hg:=qni hl ht
 have e:blkd l v hi lo=((outC (qol (hasA v hi lo) none l)).2&&kin (outC (qol (hasA v hi lo) none l)).1):=rfl
 rw[e]
 cases hb:qol (hasA v hi lo) none l with
 |none=>
  obtain⟨_,h3⟩:=qbqn hb
  constructor
  · intro h;cases h
  · rintro⟨y,hy,h1,_⟩;rw[h3 y hy]at h1;cases h1
 |some b=>
  obtain⟨h3,h4,_⟩:=qbdf hb
  rcases h3 with h3|⟨h3,h3'⟩
  · cases h3
  have e2:((outC (some b)).2&&kin (outC (some b)).1)=kin b:=rfl
  rw[e2]
  constructor
  · intro h;exact⟨b,h3,h3',h⟩
  · rintro⟨y,hy,ha,hk⟩
    have c1:=((qbw6 (hg b h3) u1 u2).1 h3').2
    have c2:=((qbw6 (hg y hy) u1 u2).1 ha).2
    have hv:(pqY b).v=(pqY y).v:=c1.1.symm.trans c2.1
    have hle:(pqY y).bits<=(pqY b).bits:=h4 y hy ha
    obtain⟨a1,a2,a3,_⟩:=(hg b h3).range
    obtain⟨b1,b2,b3,_⟩:=(hg y hy).range
    rw[<-hv]at b3
    have hkk:(pqY b).np.k<=(pqY y).np.k:=by omega
    have hs:=Np.nest c1 c2 hkk
    rcases Nat.lt_or_ge (pqY b).np.k (pqY y).np.k with hlt|hge
    · have hbar:=(qbji (hg b h3) (hg y hy)).1 (ht.bars hl h3 hy) hs hlt
      unfold kin at hk⊢
      unfold barK at hbar
      rw[Bool.or_eq_true,beq_iff_eq,beq_iff_eq]at hk
      rcases hk with h2|h2<;>rw[h2]at hbar<;>simp at hbar
      simp[hbar]
    · have:=qbqo ht h3 hy (qb7b (hg y hy) (hg b h3) (Np.sub_antisymm (hg y hy).np_ok (Np.nest c2 c1 hge) hs))
      rw[<-this];exact hk
theorem qb4b {l:LA}(hl:qq l)(ht:qc1 l){b:AV}(hf:qq (insF b l))(hi':qc1 (insF b l)){v:Bool}{hi lo:Int}(u1:uok hi)(u2:uok lo)(h:blkd l v hi lo=true):blkd (insF b l) v hi lo=true:=by
 obtain⟨y,h1,h2⟩:=(qbxf hl ht u1 u2).1 h
 exact(qbxf hf hi' u1 u2).2 ⟨y,qqd.2 (.inr h1),h2⟩
theorem qb4z {b z:LA}:∀{h:LA},chkS b z h=0↔∀y,y∈h->blkd b (gB y.cells 1) (gI y.cells 2) (gI y.cells 3)=true/\qjx z (gS y.cells 0)=true
 |[]=>by simp[chkS]
 |x::r=>by
  unfold chkS
  cases h1:blkd b (gB x.cells 1) (gI x.cells 2) (gI x.cells 3)with
  |false=>simp[h1]
  |true=>
  cases h2:qjx z (gS x.cells 0)with
  |false=>simp[h2]
  |true=>
   simp only[Bool.not_true,cond_f,List.mem_cons]
   rw[qb4z]
   constructor
   · rintro h y (rfl|hy)
     · exact⟨h1,h2⟩
     · exact h y hy
   · intro h y hy;exact h y (.inr hy)
theorem qb40 (k:Int):∀{p:Option AV} {z:LA},chkZ k p z=0↔chkZ 0 p z=0/\k=0
 |p,[]=>by simp[chkZ]
 |p,x::r=>by
  unfold chkZ
  cases badZ p x with
  |true=>simp
  |false=>simp only[cond_f];exact qb40 k
theorem qb0h {y z:AV}:cmpH y z>0↔ltH z y:=by rw[qbar];exact(q3u _ _ _ _ _ _ _ _).1.symm
theorem qbu4:∀{p:Option AV} {l:LA},chkH p l=0↔(∀y,y∈l->qqt y=0)/\l.Pairwise ltH/\∀x,p=some x->∀y,y∈l->ltH x y
 |p,[]=>by simp[chkH]
 |p,y::r=>by
  unfold chkH errH
  by_cases hf:qqt y=0
  · have e1:(qqt y != 0)=false:=by simp[hf]
    simp only[e1,cond_f]
    by_cases ho:qyy p y=0
    · have e2:(qyy p y != 0)=false:=by simp[ho]
      simp only[e2,cond_f]
      rw[qbu4 (p:=some y)]
      have hp:∀x,p=some x->ltH x y:=by
       rintro x rfl
       unfold qyy at ho
       simp only at ho
       refine qb0h.1 ?_
       by_cases c1:cmpH y x<0
       · simp[c1]at ho
       · by_cases c2:cmpH y x=0
         · simp[c2]at ho
         · omega
      constructor
      · rintro⟨a1,a2,a3⟩
        refine⟨fun z hz=> ?_,List.pairwise_cons.2 ⟨fun z hz=>a3 y rfl z hz,a2⟩,fun x hx z hz=> ?_⟩
        · rcases List.mem_cons.1 hz with rfl|hz
          · exact hf
          · exact a1 z hz
        · rcases List.mem_cons.1 hz with rfl|hz
          · exact hp x hx
          · exact q11 (hp x hx) (a3 y rfl z hz)
      · rintro⟨a1,a2,a3⟩
        rw[List.pairwise_cons]at a2
        exact⟨fun z hz=>a1 z (List.mem_cons_of_mem _ hz),a2.2,fun x hx z hz=>by cases hx;exact a2.1 z hz⟩
    · have e2:(qyy p y != 0)=true:=by simp[ho]
      simp only[e2,cond_t]
      constructor
      · intro h;exact absurd h ho
      · rintro⟨_,_,a3⟩
        exfalso;apply ho
        unfold qyy
        cases p with
        |none=>rfl
        |some x=>
         have:=qb0h.2 (a3 x rfl y (by simp))
         have c1:¬cmpH y x<0:=by omega
         have c2:(cmpH y x==0)=false:=by rw[beq_eq_false_iff_ne];omega
         simp[c1,c2]
  · have e1:(qqt y != 0)=true:=by simp[hf]
    simp only[e1,cond_t]
    constructor
    · intro h;exact absurd h hf
    · rintro⟨a1,_⟩;exact absurd (a1 y (by simp)) hf
structure Sp where
 b:List AV
 h:List AV
 z:List AV
def Sp.av (s:Sp):AV:=.agg [(.sl 8 s.b),(.sl 5 s.h),(.sl 1 s.z)]
def Sp.fr (s:Sp):AV:=.agg [(.fr true 8 s.b),(.fr true 5 s.h),(.fr true 1 s.z)]
def sp0:Sp:=⟨[],[],[]⟩
structure Fits (s:Sp):Prop where
 b:qq s.b
 h:qjw s.h
 z:qbas s.z
structure Plan (s:Sp):Prop where
 f:Fits s
 nb:s.b.length<=512
 tb:qc1 s.b
 nh:s.h.length<=256
 fh:∀y,y∈s.h->qqt y=0
 ph:s.h.Pairwise ltH
 nz:s.z.length<=32
 cz:chkZ 0 none s.z=0
 bl:∀y,y∈s.h->blkd s.b (gB y.cells 1) (gI y.cells 2) (gI y.cells 3)=true
 zo:∀y,y∈s.h->qjx s.z (gS y.cells 0)=true
theorem qbxg {s:Sp}(f:Fits s):q12 s.b s.h s.z=0↔Plan s:=by
 unfold q12
 by_cases hb:qtl s.b=0
 · have e1:(qtl s.b != 0)=false:=by simp[hb]
   have hb':s.b.length<=512:=by
    unfold qtl at hb
    by_cases h:(s.b.length:Int)>512
    · simp[h]at hb
    · omega
   simp only[e1,cond_f]
   by_cases hh:qe5 s.h=0
   · have e2:(qe5 s.h != 0)=false:=by simp[hh]
     have hh':s.h.length<=256/\chkH none s.h=0:=by
      unfold qe5 at hh
      by_cases h:(s.h.length:Int)>256
      · simp[h]at hh
      · simp only[h,decide_false,cond_f]at hh
        exact⟨by omega,hh⟩
     simp only[e2,cond_f]
     obtain⟨a1,a2,_⟩:=qbu4.1 hh'.2
     by_cases hz:(s.z.length:Int)>32
     · simp only[hz,decide_true,cond_t]
       constructor
       · intro h;cases h
       · intro h;have:=h.nz;omega
     · simp only[hz,decide_false,cond_f]
       rw[qb40,qb4z]
       constructor
       · rintro⟨h1,h2⟩
         exact⟨f,hb',(qbtk hb').1 hb,hh'.1,a1,a2,by omega,h1,fun y hy=>(h2 y hy).1,fun y hy=>(h2 y hy).2⟩
       · intro h;exact⟨h.cz,fun y hy=>⟨h.bl y hy,h.zo y hy⟩⟩
   · have e2:(qe5 s.h != 0)=true:=by simp[hh]
     simp only[e2,cond_t]
     constructor
     · intro h;exact absurd h hh
     · intro h;exfalso;apply hh
       unfold qe5
       have:¬(s.h.length:Int)>256:=by have:=h.nh;omega
       simp only[this,decide_false,cond_f]
       exact qbu4.2 ⟨h.fh,h.ph,fun x hx=>by cases hx⟩
 · have e1:(qtl s.b != 0)=true:=by simp[hb]
   simp only[e1,cond_t]
   constructor
   · intro h;exact absurd h hb
   · intro h;exact absurd ((qbtk h.nb).2 h.tb) hb
end Go.Proofs.YtoaaphlopbabeaaGreatDoor.Dn
