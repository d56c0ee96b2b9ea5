import Derived.Test.YtmficjbenbhneaaGreatDoorPlDn29z
import Derived.Test.YtmficjbenbhneaaGreatDoorPlLibD
set_option linter.all false
namespace Go.Proofs.YtmficjbenbhneaaGreatDoor.Dn
open Go Go.Pev
open Go.IntKind (i64 u64)
set_option maxRecDepth 4000
def labC (c:UInt8):Bool:=(decide (97<=c.toNat)&&decide (c.toNat<=122))||(decide (48<=c.toNat)&&decide (c.toNat<=57))||c.toNat==45||c.toNat==95
def q2k (x:LU):Bool:=x==[42]||(decide (1<=x.length)&&decide (x.length<=63)&&x.all labC)
theorem qbny (x:LU)(hx:x.length<=9223372036854775807):qoh x=some (q2k x):=by
 rw[q3s]
 unfold qht
 rw[qwa,qjf x hx (qdi x fun _=>some true) (fun i nx=>qdh x i nx fun _=>some true) (fun _ _=>rfl) (fun r=>some (r.all labC))]
 · unfold q2k
   by_cases h1:x=[42]
   · simp[h1]
   · have e1:(x==[42])=false:=by simpa using h1
     rw[e1]
     by_cases h2:x.length<1
     · have:x.length=0:=by omega
       simp[this]
     · by_cases h3:63<x.length
       · have e:¬x.length<=63:=by omega
         have e':(63:Int)<(x.length:Int):=by omega
         simp[e,e']
       · have a1:¬((x.length:Int)<1):=by omega
         have a2:¬((63:Int)<(x.length:Int)):=by omega
         have a3:1<=x.length:=by omega
         have a4:x.length<=63:=by omega
         simp[a1,a2,a3,a4]
 · intro nx;simp[qdh]
 · intro i a r nx h1 h2 h3 h4 h5
   have h6:(i:Int)<(x.length:Int):=by omega
   have key:∀kn:Bool->Option Bool,qjp x i (a.toNat:Int) kn=kn (!labC a):=by
    intro kn
    have co:∀(p a b:Bool),(bif p then kn a else kn b)=kn (bif p then a else b):=by intro p;cases p<;>intros<;>rfl
    rw[qv9]
    unfold qfj labC
    simp only[co]
    have fin:∀n:Fin 256,(bif(decide ((n.val:Int)>=(97:Int)))&&(decide ((n.val:Int)<=(122:Int)))then false else(bif(decide ((n.val:Int)>=(48:Int)))then(!(((decide ((n.val:Int)<=(57:Int)))||((n.val:Int)==(45:Int)))||((n.val:Int)==(95:Int))))else(!(((n.val:Int)==(45:Int))||((n.val:Int)==(95:Int))))))=
     !((decide (97<=n.val)&&decide (n.val<=122))||(decide (48<=n.val)&&decide (n.val<=57))||n.val==45||n.val==95):=by decide+kernel
    exact congrArg kn (fin ⟨a.toNat,a.toNat_lt⟩)
   unfold qdh
   simp only[h6,decide_true,zct,zin,h2,zos,key,h4]
   cases h7:labC a
   · simp[h7]
   · simp only[znt,zct,zcf,h5,List.all_cons,h7,Bool.true_and]
def spl:List UInt8->List UInt8->List (List UInt8)
 |_,[]=>[]
 |cur,c::r=>if c=46 then cur::spl [] r else spl (cur++[c]) r
def qh7 (x:LU):Bool:=decide (2<=x.length)&&decide (x.length<=254)&&x.getLast? ==some 46
def qkj:Bool->List (List UInt8)->Bool
 |_,[]=>true
 |f,l::ls=>q2k l&&(f|| !(l==[42]))&&qkj false ls
def qfd (x:LU):List (List UInt8)×Bool:=
 if x=[46]then([],true)else if qh7 x=true/\qkj true (spl [] x)=true then(spl [] x,true)else([],false)
def qk (x:LU):Bool:=(qfd x).2
def avS (l:List (List UInt8)):List AV:=l.map AV.str
theorem qbep:∀(r cur:LU),(spl cur r).length<=r.length
 |[],_=>by simp[spl]
 |c::r,cur=>by
  unfold spl;split
  · have:=qbep r [];simp;omega
  · have:=qbep r (cur++[c]);simp;omega
theorem qbpi (x:LU)(hx:x.length<=254)(kx:List AV->Option (List AV×Bool)):
 qlv x kx FU 0 0 []=if qkj true (spl [] x)=true then kx (avS (spl [] x))else some ([],false):=by
 rw[qyp]
 let S:(Int×Int×List AV)->Option (List AV×Bool):=fun s=>
  if qkj (decide (s.1=0)) (spl ((x.take s.2.1.toNat).drop s.1.toNat) (x.drop s.2.1.toNat))=true then kx (s.2.2++avS (spl ((x.take s.2.1.toNat).drop s.1.toNat) (x.drop s.2.1.toNat)))else some ([],false)
 have key:=q7e (fun n (s:Int×Int×List AV)=>qee x kx n s.1 s.2.1 s.2.2) (fun s nx=>qed x s.1 s.2.1 s.2.2 (fun a b c=>nx (a,b,c)) kx) (fun _ _=>rfl)
  (fun s=>0<=s.1/\s.1<=s.2.1/\s.2.1<=x.length/\s.2.2.length<=s.2.1) (fun s=>(x.length-s.2.1).toNat) S ?_ FU (0,0,[]) (by simp) (qcb (by simp;omega))
 · have e:S (0,0,[])=if qkj true (spl [] x)=true then kx (avS (spl [] x))else some ([],false):=by simp[S]
   rw[<-e];exact key
 · rintro⟨st,i,acc⟩ ⟨h0,h1,h2,h3⟩ nx hn
   simp only at h0 h1 h2 h3
   obtain⟨i,rfl⟩:∃j:Nat,i=j:=⟨i.toNat,by omega⟩
   obtain⟨st,rfl⟩:∃j:Nat,st=j:=⟨st.toNat,by omega⟩
   have hw:i64.wrap ((i:Int)+1)=((i+1:Nat):Int):=w64 (by omega) (by omega)
   simp only[S,Int.toNat_natCast]
   by_cases hlt:i<x.length
   · have hd:x.drop i=x[i]::x.drop (i+1):=List.drop_eq_getElem_cons hlt
     have hi:x[i]?=some x[i]:=by simp[hlt]
     have ht:x.take (i+1)=x.take i++[x[i]]:=(List.take_append_getElem hlt).symm
     have hlt':(i:Int)<(x.length:Int):=by omega
     unfold qed
     simp only[hlt',decide_true,zct,zin,hi,zos,hw]
     by_cases hc:x[i]=46
     · have hc':(((x[i]).toNat:Int) != 46)=false:=by rw[hc];rfl
       have hcut:cutI x (some (st:Int)) (some (i:Int))=some ((x.take i).drop st):=by
        simp only[cutI,Option.getD_some,Int.toNat_natCast]
        rw[if_pos ⟨by omega,by omega,by omega⟩]
       have hsl:((x.take i).drop st).length<=9223372036854775807:=by simp;omega
       simp only[hc',zcf,hcut,zos,zhs,Bool.and_true,zct,qyo,qgb,qbny _ hsl]
       have hsz:(acc.length+1)*16<=140737488355328:=by omega
       have hnx:=hn (((i+1:Nat):Int),((i+1:Nat):Int),acc++[.str ((x.take i).drop st)]) ⟨by simp;omega,by simp,by simp;omega,by simp;omega⟩ (by simp;omega)
       simp only[S,Int.toNat_natCast]at hnx
       have hz:(x.take (i+1)).drop (i+1)=[]:=by simp
       rw[hz]at hnx
       have hne:decide (((i+1:Nat):Int)=0)=false:=by simp;omega
       rw[hne]at hnx
       rw[hd]
       simp only[spl,hc,if_true,qkj]
       cases hl:q2k ((x.take i).drop st)
       · simp
       · by_cases hstar:(x.take i).drop st=[42]
         · rw[hstar]at hnx⊢
           by_cases h00:st=0
           · have e1:decide ((st:Int)>0)=false:=by simp;omega
             have e2:decide ((st:Int)=0)=true:=by simp;omega
             simp only[e1,e2,znt,zcf,zct,beq_self_eq_true,List.length_singleton,hsz,decide_true,Bool.true_or,Bool.and_true,Bool.true_and]
             rw[hnx]
             simp[avS,List.append_assoc]
           · have e1:decide ((st:Int)>0)=true:=by simp;omega
             have e2:decide ((st:Int)=0)=false:=by simp;omega
             have e3:0<st:=by omega
             simp[e1,e2,e3,h00]
         · have e1:((x.take i).drop st==[42])=false:=by simpa using hstar
           simp only[e1,znt,zcf,zct,Bool.not_false,Bool.or_true,Bool.and_true,Bool.true_and,List.length_singleton,hsz,decide_true]
           rw[hnx]
           simp[avS,List.append_assoc]
     · have hc':(((x[i]).toNat:Int) != 46)=true:=by
        have:(x[i]).toNat≠46:=fun h=>hc (by rw[<-UInt8.toNat_inj];exact h)
        simp;omega
       simp only[hc',zct]
       have hnx:=hn ((st:Int),((i+1:Nat):Int),acc) ⟨by simp,by simp;omega,by simp;omega,by simp;omega⟩ (by simp;omega)
       simp only[S,Int.toNat_natCast]at hnx
       rw[hnx,hd]
       simp only[spl,hc,if_false]
       have e:(x.take (i+1)).drop st=(x.take i).drop st++[x[i]]:=by
        rw[ht,List.drop_append_of_le_length (by simp;omega)]
       rw[e]
   · have:i=x.length:=by omega
     subst this
     unfold qed
     simp[spl,qkj,avS]
theorem quk (x:LU)(hx:x.length<=9223372036854775807):qdt x=some (avS (qfd x).1,(qfd x).2):=by
 rw[q8e]
 unfold qjq qfd
 by_cases h1:x=[46]
 · simp[h1,avS]
 · have e1:(x==[46])=false:=by simpa using h1
   rw[if_neg h1]
   simp only[e1,zcf,qym,qga,zhs,Bool.and_true,zct]
   by_cases h2:2<=x.length/\x.length<=254
   · have a1:¬((x.length:Int)<2):=by omega
     have a2:¬((254:Int)<(x.length:Int)):=by omega
     have hw:i64.wrap ((x.length:Int)-1)=((x.length-1:Nat):Int):=by rw[w64 (by omega) (by omega)];omega
     have hi:x[x.length-1]?=some (x[x.length-1]'(by omega)):=by simp<;>omega
     have hl:x.getLast? =some (x[x.length-1]'(by omega)):=by rw[List.getLast?_eq_getElem?,hi]
     simp only[a1,gt_iff_lt,a2,decide_false,Bool.or_false,zcf,hw,zin,hi,zos]
     by_cases h3:x[x.length-1]'(by omega)=46
     · have h3':(((x[x.length-1]'(by omega)).toNat:Int) != 46)=false:=by rw[h3];rfl
       have hok:qh7 x=true:=by simp[qh7,h2.1,h2.2,hl,h3]
       simp only[h3',zcf]
       rw[qbpi x h2.2]
       by_cases h4:qkj true (spl [] x)=true
       · simp[hok,h4]
       · simp[hok,h4,avS]
     · have h3':(((x[x.length-1]'(by omega)).toNat:Int) != 46)=true:=by
        have:(x[x.length-1]'(by omega)).toNat≠46:=fun h=>h3 (by rw[<-UInt8.toNat_inj];exact h)
        simp;omega
       have hok:qh7 x=false:=by simp[qh7,hl,h3]
       simp only[h3',zct]
       simp[hok,avS]
   · have hok:qh7 x=false:=by
      unfold qh7
      by_cases h:2<=x.length
      · have:¬x.length<=254:=fun h'=>h2 ⟨h,h'⟩
        simp[this]
      · simp[h]
     have a:(decide ((x.length:Int)<2)||decide ((x.length:Int)>254))=true:=by
      simp;omega
     simp only[a,zct]
     simp[hok,avS]
theorem qxf (x:LU)(hx:x.length<=9223372036854775807):qgr x=some (qk x):=by
 rw[q8f]
 unfold qjr
 rw[quk x hx];rfl
def qct:List UInt8->List UInt8->List (List UInt8)
 |cur,[]=>[cur]
 |cur,c::r=>if c=46 then cur::qct [] r else qct (cur++[c]) r
theorem qsz:∀(s cur:LU),(qct cur s).length=s.count 46+1
 |[],cur=>rfl
 |c::r,cur=>by
  unfold qct
  split
  · rename_i h;subst h;simp[qsz r]
  · rename_i h
    rw[qsz r,List.count_cons_of_ne (fun e=>h e)]
theorem qbc2:∀(s cur:LU),s.count 46=0->qct cur s=[cur++s]
 |[],cur,_=>by simp[qct]
 |c::r,cur,h=>by
  unfold qct
  split
  · rename_i h';subst h';simp at h
  · rename_i h'
    rw[List.count_cons_of_ne (fun e=>h' e)]at h
    rw[qbc2 r _ h]
    simp
theorem qbc3:∀(s cur:LU),0<s.count 46->∃pre post,s=pre++46::post/\Lib.indexByte s 46=(pre.length:Int)/\qct cur s=(cur++pre)::qct [] post
 |[],cur,h=>by simp at h
 |c::r,cur,h=>by
  by_cases h':c=46
  · subst h'
    exact⟨[],r,rfl,by simp[Lib.indexByte],by simp[qct]⟩
  · rw[List.count_cons_of_ne (fun e=>h' e)]at h
    obtain⟨pre,post,h1,h2,h3⟩:=qbc3 r (cur++[c]) h
    refine⟨c::pre,post,by simp[h1],?_,?_⟩
    · have hb:(c==46)=false:=by simpa using h'
      have hn:¬((Lib.indexByte r 46)= -1):=by omega
      unfold Lib.indexByte
      simp[hb,hn,h2]
    · show(if c=46 then cur::qct [] r else qct (cur++[c]) r)=_
      rw[if_neg h',h3]
      simp
theorem qbrk (s:LU):qnm s [46]=some (Lib.indexByte s 46):=by
 rw[q9h];unfold qkz
 rw[qz9];unfold qgz
 rw[qup];unfold qe0 qud
 by_cases h:([46]:List UInt8)=s
 · subst h;rfl
 · have hb:(([46]:List UInt8)==s)=false:=by simpa using h
   rw[hb]
   rfl
theorem qbrl (s:LU):qs4 s [46]=some ((s.count 46:Nat):Int):=by
 rw[q9i];unfold qk0 quc Lib.countByte
 rfl
theorem qbrm (pre post:LU):cutI (pre++46::post) none (some ((pre.length:Nat):Int))=some pre:=by
 unfold cutI
 simp only[Option.getD_none,Option.getD_some]
 rw[if_pos ⟨by omega,by omega,by simp;omega⟩]
 simp
theorem qbpj (pre post:LU):cutI (pre++46::post) (some ((pre.length+1:Nat):Int)) none=some post:=by
 unfold cutI
 simp only[Option.getD_none,Option.getD_some]
 rw[if_pos ⟨by omega,by simp;omega,by omega⟩]
 rw[Int.toNat_natCast,Int.toNat_natCast,List.take_length]
 rw[List.drop_append]
 simp
theorem qbkv (s:LU)(hs:s.length<=1000000000):qnn s [46]=some ((qct [] s).map AV.str):=by
 rw[q9j];unfold qk1
 rw[q3j];unfold qhh
 have hc:s.count 46<=s.length:=List.count_le_length
 have w1:i64.wrap (((s.count 46:Nat):Int)+1)=((s.count 46+1:Nat):Int):=w64 (by omega) (by omega)
 have w2:i64.wrap ((s.length:Int)+1)=((s.length+1:Nat):Int):=w64 (by omega) (by omega)
 have hm:(if((s.length+1:Nat):Int)<((s.count 46+1:Nat):Int)then((s.length+1:Nat):Int)else((s.count 46+1:Nat):Int))=((s.count 46+1:Nat):Int):=if_neg (by omega)
 have hd1:decide (0<=((s.count 46+1:Nat):Int)/\((s.count 46+1:Nat):Int)<=((s.count 46+1:Nat):Int)/\((s.count 46+1:Nat):Int)*16<=281474976710656)=true:=decide_eq_true ⟨by omega,by omega,by omega⟩
 have w3:i64.wrap (((s.count 46+1:Nat):Int)-1)=((s.count 46:Nat):Int):=by rw[w64 (by omega) (by omega)];omega
 have b1:(((-1:Int))==0)=false:=rfl
 have b2:(([46]:List UInt8)==([]:List UInt8))=false:=rfl
 have b3:decide ((-1:Int)<0)=true:=rfl
 simp only[b1,b2,zcf,qv4,qfi,b3,zct,qbrl,zos,w1,w2,hm,hd1,zhs,Bool.and_true,w3,Int.toNat_natCast]
 generalize hn:s.count 46=n at*
 rw[qv5]
 let kx:List UInt8->Int->List AV->Option (List AV):=fun v0 v10 a0=>(bif decide (0<=v10/\v10<a0.length)then(oB (a0[v10.toNat]?) fun y1=>(oB (putE y1 0 1 [(.str v0)]) fun z2=>(bif hd (a0.set v10.toNat z2) a0.length then(oB (cutI (a0.set v10.toNat z2) none (some (i64.wrap (v10+1)))) fun s3=>(some s3))else none)))else none)
 have key:=q7e (fun k (q:List UInt8×Int×List AV)=>qb0 [46] 0 (n:Int) kx k q.1 q.2.1 q.2.2)
  (fun q nx=>qdg q.1 [46] 0 (n:Int) q.2.1 q.2.2 (fun a b c=>nx (a,(b,c))) kx) (fun _ _=>rfl)
  (fun q=>∃dn:List (List UInt8),q.2.1=dn.length/\q.2.2=dn.map AV.str++List.replicate (n+1-dn.length) (AV.str [])/\dn.length<=n/\q.1.count 46=n-dn.length/\dn++qct [] q.1=qct [] s/\q.1.length<=1000000000)
  (fun q=>n-q.2.1.toNat) (fun q=>some ((qct [] s).map AV.str)) ?_ FU (s,(0,List.replicate (n+1) (AV.str []))) ⟨[],rfl,by simp,by simp,by simpa using hn,rfl,hs⟩ (qcb (by simp;omega))
 · have key':qb0 [46] 0 (n:Int) kx FU s 0 (List.replicate (n+1) (AV.str []))=some ((qct [] s).map AV.str):=key
   show oB (qb0 [46] 0 (n:Int) kx FU s 0 (List.replicate (n+1) (AV.str []))) _=_
   rw[key']
   rfl
 · rintro⟨v0,v10,a0⟩ ⟨dn,rfl,rfl,h1,h2,h3,h5⟩ nx hnx
   simp only at h1 h2 h3 h5
   show qdg v0 [46] 0 (n:Int) (dn.length:Int) (dn.map AV.str++List.replicate (n+1-dn.length) (AV.str [])) (fun a b c=>nx (a,(b,c))) kx=some ((qct [] s).map AV.str)
   have hlen:(dn.map AV.str++List.replicate (n+1-dn.length) (AV.str [])).length=n+1:=by simp;omega
   have hget:(dn.map AV.str++List.replicate (n+1-dn.length) (AV.str []))[dn.length]?=some (.str []):=by
    rw[List.getElem?_append_right (by simp)]
    simp only[List.length_map,Nat.sub_self]
    rw[List.getElem?_replicate,if_pos (by omega)]
   have hdec:decide (0<=(dn.length:Int)/\(dn.length:Int)<((dn.map AV.str++List.replicate (n+1-dn.length) (AV.str [])).length:Int))=true:=decide_eq_true ⟨by omega,by rw[hlen];omega⟩
   have hset:∀x,(dn.map AV.str++List.replicate (n+1-dn.length) (AV.str [])).set dn.length (.str x)=(dn++[x]).map AV.str++List.replicate (n+1-(dn.length+1)) (AV.str []):=by
    intro x
    rw[List.set_append_right _ _ (by simp)]
    simp only[List.length_map,Nat.sub_self]
    rw[show n+1-dn.length=(n+1-(dn.length+1))+1 by omega,List.replicate_succ]
    simp
   have hhd:∀x,hd ((dn.map AV.str++List.replicate (n+1-dn.length) (AV.str [])).set dn.length (.str x)) (dn.map AV.str++List.replicate (n+1-dn.length) (AV.str [])).length=true:=fun x=>by simp[hd]
   unfold qdg
   by_cases hlt:dn.length<n
   · have c1:decide ((dn.length:Int)<(n:Int))=true:=decide_eq_true (by omega)
     obtain⟨pre,post,e1,e2,e3⟩:=qbc3 v0 [] (by omega)
     subst e1
     have hpl:pre.length+1+post.length=(pre++46::post).length:=by simp;omega
     generalize hv:pre++46::post=v0 at*
     have c2:decide (Lib.indexByte v0 46<0)=false:=decide_eq_false (by omega)
     have w4:i64.wrap (Lib.indexByte v0 46+0)=(pre.length:Int):=by rw[e2,w64 (by omega) (by omega)];omega
     have w5:i64.wrap (Lib.indexByte v0 46+(([46]:List UInt8).length:Int))=((pre.length+1:Nat):Int):=by rw[e2];simp;rw[w64 (by omega) (by omega)]
     have w6:i64.wrap ((dn.length:Int)+1)=((dn.length+1:Nat):Int):=w64 (by omega) (by omega)
     have k1:cutI v0 none (some ((pre.length:Nat):Int))=some pre:=by rw[<-hv];exact qbrm pre post
     have k2:cutI v0 (some ((pre.length+1:Nat):Int)) none=some post:=by rw[<-hv];exact qbpj pre post
     have hp:putE (.str []) 0 1 [AV.str pre]=some (.str pre):=rfl
     simp only[c1,zct,qbrk,zos,c2,zcf,w4,k1,zhs,hdec,Int.toNat_natCast,hget,hp,w5,k2,hhd,w6]
     refine hnx _ ⟨dn++[pre],by simp,by rw[hset];simp,by simp;omega,?_,?_,by show post.length<=1000000000;omega⟩ (by simp;omega)
     · have hcp:v0.count 46=(qct [] v0).length-1:=by rw[qsz];simp
       have:(qct [] post).length=post.count 46+1:=qsz post []
       rw[e3]at hcp
       simp at hcp
       simp
       omega
     · rw[<-h3,e3]
       simp
   · have hdn:dn.length=n:=by omega
     have c1:decide ((dn.length:Int)<(n:Int))=false:=decide_eq_false (by omega)
     have hp:putE (.str []) 0 1 [AV.str v0]=some (.str v0):=rfl
     have w6:i64.wrap ((dn.length:Int)+1)=((n+1:Nat):Int):=by rw[w64 (by omega) (by omega)];omega
     have k3:cutI ((dn++[v0]).map AV.str++List.replicate (n+1-(dn.length+1)) (AV.str [])) none (some ((n+1:Nat):Int))=some ((dn++[v0]).map AV.str):=by
      have hz:n+1-(dn.length+1)=0:=by omega
      rw[hz]
      simp only[List.replicate_zero,List.append_nil]
      have hL:((dn++[v0]).map AV.str).length=n+1:=by simp;omega
      generalize (dn++[v0]).map AV.str=L at hL⊢
      unfold cutI
      simp only[Option.getD_none,Option.getD_some]
      rw[if_pos ⟨by omega,by omega,by omega⟩,Int.toNat_natCast,<-hL,List.take_length]
      rfl
     simp only[c1,zcf]
     show kx v0 (dn.length:Int) _=_
     simp only[kx,zct,hdec,Int.toNat_natCast,hget,zos,hp,hhd,w6]
     rw[hset,k3]
     simp only[zos]
     rw[<-h3,qbc2 v0 [] (by omega)]
     simp
def ordB (x:LU):Bool:=decide (1<=x.length)&&decide (x.length<=63)&&x.all labC
theorem qbl8 (x:LU)(hx:x.length<=9223372036854775807):qqy x=some (ordB x):=by
 rw[q7q];unfold qjg
 rw[qyb,qjf x hx (qd9 x (x.length:Int) fun _=>some true) (fun i nx=>qd8 x (x.length:Int) i nx fun _=>some true) (fun _ _=>rfl) (fun r=>some (r.all labC))]
 · unfold ordB
   by_cases h1:x=[]
   · subst h1;rfl
   · have e1:(x==[])=false:=by simpa using h1
     have h2:1<=x.length:=by
      cases x with
      |nil=>exact absurd rfl h1
      |cons a r=>simp
     by_cases h3:x.length<=63
     · have:¬(x.length:Int)>63:=by omega
       simp only[e1,this,h2,h3,decide_true,decide_false,Bool.or_self,zcf,Bool.true_and]
     · have:(x.length:Int)>63:=by omega
       simp[e1,this,h3]
 · intro nx;simp[qd8]
 · intro i a r nx h1 h2 h3 h4 h5
   have h6:(i:Int)<(x.length:Int):=by omega
   have key:∀kn:Bool->Option Bool,qlr x (a.toNat:Int) (x.length:Int) i kn=kn (!labC a):=by
    intro kn
    have co:∀(p a b:Bool),(bif p then kn a else kn b)=kn (bif p then a else b):=by intro p;cases p<;>intros<;>rfl
    rw[qya]
    unfold qf8 labC
    simp only[co]
    have fin:∀n:Fin 256,(bif((decide ((n.val:Int)<(97:Int)))||(decide ((n.val:Int)>(122:Int))))then(bif(decide ((n.val:Int)<(48:Int)))then(((n.val:Int) != (45:Int))&&((n.val:Int) != (95:Int)))else(((decide ((n.val:Int)>(57:Int)))&&((n.val:Int) != (45:Int)))&&((n.val:Int) != (95:Int))))else false)=
     !((decide (97<=n.val)&&decide (n.val<=122))||(decide (48<=n.val)&&decide (n.val<=57))||n.val==45||n.val==95):=by decide+kernel
    exact congrArg kn (fin ⟨a.toNat,a.toNat_lt⟩)
   unfold qd8
   simp only[h6,decide_true,zct,zin,h2,zos,key,h4]
   cases h7:labC a
   · simp[h7]
   · simp only[znt,zct,zcf,h5,List.all_cons,h7,Bool.true_and]
def sufB (x y:LU):Bool:=decide (y.length<=x.length)&&x.drop (x.length-y.length)==y
theorem q9d (x y:LU)(hx:x.length<=9223372036854775807):qii x y=some (sufB x y):=by
 rw[qz8];unfold qgy
 rw[qun];unfold qez sufB
 by_cases h:y.length<=x.length
 · have h1:(x.length:Int)>=(y.length:Int):=by omega
   have w:i64.wrap ((x.length:Int)-(y.length:Int))=((x.length-y.length:Nat):Int):=by rw[w64 (by omega) (by omega)];omega
   have hc:cutI x (some ((x.length-y.length:Nat):Int)) none=some (x.drop (x.length-y.length)):=by
    unfold cutI
    simp only[Option.getD_none,Option.getD_some]
    rw[if_pos ⟨by omega,by omega,by omega⟩,Int.toNat_natCast,Int.toNat_natCast,List.take_length]
   simp only[h1,decide_true,zct,w,hc,zos,h,Bool.true_and]
 · have h1:¬(x.length:Int)>=(y.length:Int):=by omega
   simp[h1,h]
def qxg:Bool->List (List UInt8)->Bool
 |_,[]=>true
 |f,l::ls=>(ordB l||(f&&l==[42]))&&qxg false ls
def valB (x:LU):Bool:=x==[46]||(decide (x.length<255)&&sufB x [46]&&qxg true (qct [] (x.take (x.length-1))))
theorem qbat:∀(s cur:LU),∀l,l∈qct cur s->l.length<=cur.length+s.length
 |[],cur,l,h=>by simp[qct]at h;subst h;simp
 |c::r,cur,l,h=>by
  unfold qct at h
  split at h
  · rcases List.mem_cons.1 h with rfl|h
    · simp<;>omega
    · have:=qbat r [] l h;simp at this⊢;omega
  · have:=qbat r _ l h;simp at this⊢;omega
theorem qbsw (ps:List (List UInt8))(hps:ps.length<=9223372036854775807)(hl:∀l,l∈ps->l.length<=9223372036854775807):
 qpl (ps.map AV.str) ((ps.map AV.str).length:Int) (fun _=>some true) FU 0=some (qxg true ps):=by
 have hlen:(ps.map AV.str).length=ps.length:=by simp
 rw[q4p,hlen]
 have key:=qcn (σ:=Unit) ps hps (fun n i _=>qf3 (ps.map AV.str) (ps.length:Int) (fun _=>some true) n i) (fun i _ nx=>qf2 (ps.map AV.str) (ps.length:Int) i (fun j=>nx j ()) (fun _=>some true)) (fun _ _ _=>rfl)
  (fun _ _=>True) (fun r _=>some (qxg (decide (r.length=ps.length)) r)) ?_ ?_ () FU trivial (qcb (by omega))
 · simpa using key
 · intro s nx _
   simp[qf2,qxg]
 · intro i l r s nx h1 h2 h3 h4 _ h5
   have h6:(i:Int)<(ps.length:Int):=by omega
   have hg:(ps.map AV.str)[i]?=some (.str l):=by simp[h2]
   have hr:r.length=ps.length-(i+1):=by
    have:=congrArg List.length h1
    simp at this
    omega
   unfold qf2
   simp only[h6,decide_true,zct,zin,hg,zos]
   rw[show fitC [.s] (AV.str l).cells=true from rfl,show gS (AV.str l).cells 0=l from rfl]
   simp only[zct,q4o,qik,qbl8 l (hl l (zmg h2)),zos,h4,h5 () trivial,qxg]
   have e1:decide (r.length=ps.length)=false:=decide_eq_false (by omega)
   have e2:decide ((l::r).length=ps.length)=decide (i=0):=decide_eq_decide.2 (by simp;omega)
   rw[e1,e2]
   by_cases hi:i=0
   · subst hi
     cases ordB l<;>cases(l==[42])<;>rfl
   · have a1:decide ((i:Int)>0)=true:=decide_eq_true (by omega)
     have a2:decide (i=0)=false:=decide_eq_false hi
     rw[a1,a2]
     cases ordB l<;>rfl
theorem qbpk (x:LU)(hx:x.length<=9223372036854775807):qc1 x=some (valB x):=by
 rw[qbde];unfold qno valB
 by_cases h1:x=[46]
 · subst h1;rfl
 · have e1:(x==[46])=false:=by simpa using h1
   rw[e1]
   simp only[zcf,q4m,qij,q9d x _ hx,zos,Bool.false_or]
   by_cases h2:x.length<255
   · have e2:¬(x.length:Int)>=255:=by omega
     simp only[e2,decide_false,zcf,h2,decide_true,Bool.true_and]
     cases h3:sufB x [46]with
     |false=>rfl
     |true=>
      have h4:1<=x.length:=by
       simp[sufB]at h3
       exact h3.1
      have w:i64.wrap ((x.length:Int)-1)=((x.length-1:Nat):Int):=by rw[w64 (by omega) (by omega)];omega
      have hc:cutI x none (some ((x.length-1:Nat):Int))=some (x.take (x.length-1)):=by
       unfold cutI
       simp only[Option.getD_none,Option.getD_some]
       rw[if_pos ⟨by omega,by omega,by omega⟩,Int.toNat_natCast]
       rfl
      have hpl:=qsz (x.take (x.length-1)) []
      have hcl:(x.take (x.length-1)).count 46<=(x.take (x.length-1)).length:=List.count_le_length
      have htl:(x.take (x.length-1)).length<=254:=by simp;omega
      simp only[znt,zcf,w,hc,zos,qbkv _ (by omega:(x.take (x.length-1)).length<=1000000000)]
      rw[qbsw _ (by omega) (fun l hl=>by have:=qbat _ _ l hl;simp only[List.length_nil]at this;omega)]
      simp
   · have e2:(x.length:Int)>=255:=by omega
     simp[e2,h2]
theorem qxh:∀(y cur:LU),spl cur (y++[46])=qct cur y
 |[],cur=>by simp[spl,qct]
 |c::r,cur=>by
  simp only[List.cons_append,spl,qct]
  split
  · rw[qxh r]
  · rw[qxh r]
theorem qbkw:∀(ls:List (List UInt8)) (f:Bool),qxg f ls=qkj f ls
 |[],f=>rfl
 |l::ls,f=>by
  unfold qxg qkj
  rw[qbkw ls false]
  by_cases h:l=[42]
  · subst h
    rw[show ordB [42]=false from by decide,show q2k [42]=true from by decide]
    cases f<;>rfl
  · have e:(l==[42])=false:=by simpa using h
    rw[e]
    rw[show q2k l=ordB l by simp[q2k,ordB,e]]
    cases ordB l<;>cases f<;>rfl
theorem qbsx (x:LU):valB x=qk x:=by
 unfold valB qk qfd
 by_cases h1:x=[46]
 · subst h1;rfl
 · have e1:(x==[46])=false:=by simpa using h1
   rw[e1,if_neg h1,Bool.false_or]
   rcases List.eq_nil_or_concat x with rfl|⟨y,c,rfl⟩
   · rfl
   · rw[List.concat_eq_append]at*
     have hl:(y++[c]).length-1=y.length:=by simp
     have hs:sufB (y++[c]) [46]=(c==46):=by
      unfold sufB
      have:(y++[c]).length-([46]:List UInt8).length=y.length:=by simp
      rw[this]
      simp
     have he:qh7 (y++[c])=(decide (1<=y.length)&&decide ((y++[c]).length<255)&&(c==46)):=by
      unfold qh7
      have a1:decide (2<=(y++[c]).length)=decide (1<=y.length):=decide_eq_decide.2 (by simp)
      have a2:decide ((y++[c]).length<=254)=decide ((y++[c]).length<255):=decide_eq_decide.2 (by omega)
      rw[a1,a2]
      simp
     rw[hl,hs,he,List.take_left]
     by_cases hc:c=46
     · subst hc
       rw[qxh,qbkw]
       have hy:1<=y.length:=by
        cases y with
        |nil=>exact absurd rfl h1
        |cons a r=>simp
       rw[decide_eq_true hy]
       cases decide ((y++[46]).length<255)<;>cases qkj true (qct [] y)<;>simp
     · have hb:(c==46)=false:=by simpa using hc
       rw[hb]
       simp
theorem qh8 (x:LU)(hx:x.length<=9223372036854775807):qc1 x=some (qk x):=by rw[qbpk x hx,qbsx]
def qf7 (x y:LU):Bool:=qk x&&(qk y&&(y==[46]||x==y||sufB x (46::y)))
theorem q2l {x:LU}(h:qk x=true):x.length<=254:=by
 unfold qk qfd at h
 split at h
 · rename_i h1;subst h1;simp
 · split at h
   · rename_i h2
     have:=h2.1
     simp[qh7]at this
     omega
   · cases h
theorem qbkx (x y:LU)(hx:x.length<=9223372036854775807)(hy:y.length<=9223372036854775807):qna x y=some (qf7 x y):=by
 rw[qbdu];unfold qn0 qf7
 simp only[qh8 x hx,qh8 y hy,zos]
 cases h1:qk x with
 |false=>rfl
 |true=>
  cases h2:qk y with
  |false=>rfl
  |true=>
   have hl:=q2l h2
   simp only[zct,Bool.true_and]
   rw[qbgu];unfold qps
   have hd:decide (([46]:List UInt8).length+y.length<=9223372036854775807)=true:=decide_eq_true (by simp;omega)
   cases h3:(y==[46]||x==y)with
   |true=>rfl
   |false=>
    simp only[zcf,hd,zct,q9d x _ hx,zos,Bool.false_or]
    rfl
def qf (x:LU):List (List UInt8):=(qfd x).1
theorem qbau (x:LU)(hx:x.length<=9223372036854775807):qi5 x=some (avS (qf x)):=by
 rw[qba7];unfold qma
 simp only[q43,qiq,qh8 x hx,zos]
 by_cases h1:x=[46]
 · subst h1;rfl
 · have e1:(x==[46])=false:=by simpa using h1
   rw[e1]
   simp only[zcf]
   cases h2:qk x with
   |false=>
    unfold qf
    unfold qk qfd at h2
    unfold qfd
    rw[if_neg h1]at h2⊢
    split at h2
    · cases h2
    · rename_i h3
      rw[if_neg h3]
      rfl
   |true=>
    have hl:=q2l h2
    have h5:=h2
    unfold qk qfd at h5
    rw[if_neg h1]at h5
    split at h5
    · rename_i h3
      have hend:=h3.1
      simp only[qh7,Bool.and_eq_true,decide_eq_true_eq,beq_iff_eq]at hend
      have h4:1<=x.length:=by omega
      have w:i64.wrap ((x.length:Int)-1)=((x.length-1:Nat):Int):=by rw[w64 (by omega) (by omega)];omega
      have hc:cutI x none (some ((x.length-1:Nat):Int))=some (x.take (x.length-1)):=by
       unfold cutI
       simp only[Option.getD_none,Option.getD_some]
       rw[if_pos ⟨by omega,by omega,by omega⟩,Int.toNat_natCast]
       rfl
      have htl:(x.take (x.length-1)).length<=254:=by simp;omega
      simp only[znt,zcf,w,hc,zos,qbkv _ (by omega:(x.take (x.length-1)).length<=1000000000)]
      unfold qf qfd
      rw[if_neg h1,if_pos h3]
      rcases List.eq_nil_or_concat x with rfl|⟨y,c,rfl⟩
      · simp at h4
      · rw[List.concat_eq_append]at*
        have hc46:c=46:=by have:=hend.2;simpa using this
        subst hc46
        have hlen:(y++[46]).length-1=y.length:=by simp
        rw[hlen,List.take_left,qxh]
        rfl
    · cases h5
theorem qbeq {α R:Type}(l:List α)(hl:l.length<=9223372036854775807)(L:Nat->Int->Option R)(B:Int->(Int->Option R)->Option R)(hL:∀n i,L (n+1) i=B i (L n))
 (S:Nat->List α->Option R) (h0:∀nx,B (l.length:Int) nx=S l.length [])
 (hs:∀(i:Nat) (a:α) (r:List α) nx,l.drop i=a::r->l[i]?=some a->i<l.length->i64.wrap ((i:Int)+1)=((i+1:Nat):Int)->nx ((i+1:Nat):Int)=S (i+1) r->B (i:Int) nx=S i (a::r)):
 L FU 0=S 0 l:=by
 have:=qjf l hl L B hL (fun r=>S (l.length-r.length) r) (fun nx=>by simpa using h0 nx) (fun i a r nx h1 h2 h3 h4 h5=>by
  have hr:r.length=l.length-(i+1):=by
   have:=congrArg List.length h1
   simp at this;omega
  have e1:l.length-r.length=i+1:=by omega
  have e2:l.length-(a::r).length=i:=by simp;omega
  simp only[e1]at h5
  simp only[e2]
  exact hs i a r nx h1 h2 h3 h4 h5)
 simpa using this
theorem qber:∀(q cur y:LU),spl cur (q++46::y)=spl cur (q++[46])++spl [] y
 |[],cur,y=>by simp[spl]
 |c::r,cur,y=>by
  simp only[List.cons_append,spl]
  split
  · simp[qber r [] y]
  · exact qber r _ y
theorem ql8:∀(x cur:LU),x.getLast? =some 46->(spl cur x).flatMap (· ++[46])=cur++x
 |[],cur,h=>by simp at h
 |[c],cur,h=>by
  have:c=46:=by simpa using h
  subst this
  simp[spl]
 |c::d::r,cur,h=>by
  have h':(d::r).getLast? =some 46:=by simpa using h
  unfold spl
  split
  · rename_i hc
    subst hc
    simp[ql8 (d::r) [] h']
  · rw[ql8 (d::r) _ h']
    simp
theorem qqj {x:LU}(h:qk x=true):x=[46]/\qf x=[]\/x≠[46]/\2<=x.length/\x.getLast? =some 46/\qkj true (spl [] x)=true/\qf x=spl [] x:=by
 unfold qk at h
 unfold qf
 unfold qfd at h⊢
 by_cases h1:x=[46]
 · left;exact⟨h1,by rw[if_pos h1]⟩
 · right
   rw[if_neg h1]at h⊢
   split at h
   · rename_i h2
     rw[if_pos h2]
     have h3:=h2.1
     simp only[qh7,Bool.and_eq_true,decide_eq_true_eq,beq_iff_eq]at h3
     exact⟨h1,h3.1.1,h3.2,h2.2,rfl⟩
   · cases h
theorem qbpl {x y:LU}:sufB x y=true↔y<:+x:=by
 unfold sufB
 rw[Bool.and_eq_true,decide_eq_true_eq,beq_iff_eq,List.suffix_iff_eq_drop]
 constructor
 · rintro⟨_,h⟩;exact h.symm
 · intro h
   refine⟨?_,h.symm⟩
   have:=congrArg List.length h
   simp at this;omega
theorem qbnz {x y:LU}(hx:qk x=true)(hy:qk y=true):qf y<:+qf x↔(y==[46]||x==y||sufB x (46::y))=true:=by
 simp only[Bool.or_eq_true,beq_iff_eq,qbpl]
 rcases qqj hy with⟨rfl,e⟩|⟨y1,y2,y3,y4,y5⟩
 · simp[e]
 · have jy:=ql8 y [] y3
   rw[List.nil_append]at jy
   rcases qqj hx with⟨rfl,e⟩|⟨x1,x2,x3,x4,x5⟩
   · rw[e,y5]
     constructor
     · intro h
       have:spl [] y=[]:=List.suffix_nil.1 h
       rw[this]at jy
       simp at jy
       subst jy
       simp at y2
     · rintro((h|h)|h)
       · exact absurd h y1
       · exact absurd h.symm y1
       · have:=h.length_le
         rw[List.length_cons,List.length_singleton]at this
         omega
   · have jx:=ql8 x [] x3
     rw[List.nil_append]at jx
     rw[x5,y5]
     constructor
     · rintro⟨p,hp⟩
       rw[<-hp,List.flatMap_append,jy]at jx
       rcases List.eq_nil_or_concat p with rfl|⟨q,l,rfl⟩
       · left;right;simpa using jx.symm
       · right
         rw[List.concat_eq_append]at jx
         refine⟨q.flatMap (· ++[46])++l,?_⟩
         rw[<-jx];simp
     · rintro((h|h)|⟨q,h⟩)
       · exact absurd h y1
       · subst h;exact List.suffix_refl _
       · rw[<-h,qber]
         exact⟨_,rfl⟩
def comm:List (List UInt8)->List (List UInt8)->Nat
 |a::r,b::s=>if a=b then comm r s+1 else 0
 |_,_=>0
theorem qbi6:∀(a b:List (List UInt8)),comm a b=b.length↔b<+:a
 |[],[]=>by simp[comm]
 |[],_::_=>by simp[comm]
 |_::_,[]=>by simp[comm]
 |a::r,b::s=>by
  unfold comm
  by_cases h:a=b
  · subst h
    rw[if_pos rfl,List.cons_prefix_cons]
    simp[qbi6 r s]
  · rw[if_neg h,List.cons_prefix_cons]
    simp
    exact fun e=>absurd e.symm h
theorem qrs (l:List (List UInt8))(i:Nat)(h:i<l.length):(avS l)[l.length-1-i]?=some (.str (l.reverse[i]'(by simpa using h))):=by
 unfold avS
 rw[List.getElem?_map,List.getElem_reverse,List.getElem?_eq_getElem (by omega)]
 rfl
theorem qbi7 (xs ys:List (List UInt8))(hx:xs.length<=1000000000)(hy:ys.length<=1000000000):qkh (avS xs) (avS ys)=some ((comm xs.reverse ys.reverse:Nat):Int):=by
 rw[qbac];unfold qlk
 rw[q33]
 have lx:(avS xs).length=xs.length:=by simp[avS]
 have ly:(avS ys).length=ys.length:=by simp[avS]
 have key:=q7e (fun n (i:Int)=>qdv (avS xs) (avS ys) (fun v5=>some v5) n i) (fun i nx=>qhx (avS xs) (avS ys) i nx (fun v5=>some v5)) (fun _ _=>rfl)
  (fun i=>0<=i/\i<=xs.length) (fun i=>(xs.length-i).toNat) (fun i=>some (i+((comm (xs.reverse.drop i.toNat) (ys.reverse.drop i.toNat):Nat):Int))) ?_ FU 0 (by simp) (qcb (by simp;omega))
 · rw[show qdv (avS xs) (avS ys) (fun v5=>some v5) FU 0=_ from key]
   simp
 · rintro i ⟨h0,h1⟩ nx hn
   obtain⟨i,rfl⟩:∃j:Nat,i=j:=⟨i.toNat,by omega⟩
   unfold qhx
   rw[q32];unfold qhw
   simp only[lx,ly,Int.toNat_natCast]
   have hw:i64.wrap ((i:Int)+1)=((i+1:Nat):Int):=w64 (by omega) (by omega)
   by_cases hi:i<xs.length
   · have hdx:xs.reverse.drop i=xs.reverse[i]'(by simpa using hi)::xs.reverse.drop (i+1):=List.drop_eq_getElem_cons (by simpa using hi)
     by_cases hj:i<ys.length
     · have hdy:ys.reverse.drop i=ys.reverse[i]'(by simpa using hj)::ys.reverse.drop (i+1):=List.drop_eq_getElem_cons (by simpa using hj)
       have w1:i64.wrap (i64.wrap ((xs.length:Int)-1)-(i:Int))=((xs.length-1-i:Nat):Int):=by
        rw[w64 (i:=(xs.length:Int)-1) (by omega) (by omega),w64 (by omega) (by omega)];omega
       have w2:i64.wrap (i64.wrap ((ys.length:Int)-1)-(i:Int))=((ys.length-1-i:Nat):Int):=by
        rw[w64 (i:=(ys.length:Int)-1) (by omega) (by omega),w64 (by omega) (by omega)];omega
       have d1:decide ((i:Int)<(xs.length:Int))=true:=decide_eq_true (by omega)
       have d2:decide ((i:Int)<(ys.length:Int))=true:=decide_eq_true (by omega)
       simp only[d1,d2,zct,w1,w2,zin,qrs _ _ hi,qrs _ _ hj,zos,hw]
       have f:∀s:List UInt8,fitC [.s] (AV.str s).cells=true:=fun _=>rfl
       have g:∀s:List UInt8,gS (AV.str s).cells 0=s:=fun _=>rfl
       simp only[f,zct,g]
       have hnx:=hn ((i+1:Nat):Int) ⟨by omega,by omega⟩ (by omega)
       simp only[Int.toNat_natCast]at hnx
       rw[hdx,hdy]
       unfold comm
       by_cases he:xs.reverse[i]'(by simpa using hi)=ys.reverse[i]'(by simpa using hj)
       · have hb:(xs.reverse[i]'(by simpa using hi)==ys.reverse[i]'(by simpa using hj))=true:=beq_iff_eq.2 he
         rw[hb,zct,hnx,if_pos he]
         congr 1;omega
       · have hb:(xs.reverse[i]'(by simpa using hi)==ys.reverse[i]'(by simpa using hj))=false:=by simpa using he
         rw[hb,zcf,if_neg he]
         simp
     · have d1:decide ((i:Int)<(xs.length:Int))=true:=decide_eq_true (by omega)
       have d2:decide ((i:Int)<(ys.length:Int))=false:=decide_eq_false (by omega)
       have e:ys.reverse.drop i=[]:=List.drop_eq_nil_of_le (by simp;omega)
       rw[e,hdx]
       simp only[d1,d2,zct,zcf]
       simp[comm]
   · have d1:decide ((i:Int)<(xs.length:Int))=false:=decide_eq_false (by omega)
     have e:xs.reverse.drop i=[]:=List.drop_eq_nil_of_le (by simp;omega)
     rw[e]
     simp only[d1,zcf]
     simp[comm]
theorem qmt {x:LU}:(qf x).length<=254:=by
 unfold qf qfd
 split
 · simp
 · split
   · rename_i h
     have h3:=h.1
     simp only[qh7,Bool.and_eq_true,decide_eq_true_eq,beq_iff_eq]at h3
     have:=qbep x []
     simp;omega
   · simp
theorem qbfy (x:LU)(hx:x.length<=9223372036854775807):qfy x=some (avS (qf x)):=by
 rw[q5w];unfold qiv
 rw[quk x hx];rfl
theorem qbi8 (x y:LU)(hx:x.length<=9223372036854775807)(hy:y.length<=9223372036854775807):qgt x y=some (qf7 x y):=by
 rw[q8p];unfold qj3 qf7
 rw[quk x hx,quk y hy]
 simp only[zos]
 show(bif qk x&&qk y then oB (qkh (avS (qf x)) (avS (qf y))) _ else _)=_
 cases h1:qk x
 · rfl
 cases h2:qk y
 · rfl
 have l1:=qmt (x:=x)
 have l2:=qmt (x:=y)
 rw[qbi7 _ _ (by omega) (by omega)]
 simp only[Bool.and_self,zct,zos,Bool.true_and]
 have ly:(avS (qfd y).1).length=(qf y).length:=by simp[avS,qf]
 rw[ly]
 congr 1
 rw[Bool.eq_iff_iff,beq_iff_eq,<-qbnz h1 h2,<-List.reverse_prefix,<-qbi6,List.length_reverse]
 omega
def cmpS (a b:LU):Int:=Lib.compareBytes a b
theorem qbfz:∀a b,cmpS a b= -1\/cmpS a b=0\/cmpS a b=1
 |[],[]=>by simp[cmpS,Lib.compareBytes]
 |[],_::_=>by simp[cmpS,Lib.compareBytes]
 |_::_,[]=>by simp[cmpS,Lib.compareBytes]
 |a::as_,b::bs=>by
  have ih:=qbfz as_ bs
  show(if a<b then(-1:Int)else if b<a then 1 else cmpS as_ bs)= -1\/_\/_
  have e:cmpS (a::as_) (b::bs)=if a<b then(-1:Int)else if b<a then 1 else cmpS as_ bs:=rfl
  rw[e]
  split
  · simp
  · split
    · simp
    · exact ih
theorem qrt (a b:UInt8):a<b\/a=b\/b<a:=by
 rcases Nat.lt_trichotomy a.toNat b.toNat with h|h|h
 · exact .inl h
 · exact .inr (.inl (UInt8.toNat_inj.1 h))
 · exact .inr (.inr h)
theorem qdd {a b:UInt8}(h:a<b):¬b<a:=fun h2=>by
 have h1:a.toNat<b.toNat:=h
 have h2:b.toNat<a.toNat:=h2
 omega
theorem qbpm {a b c:UInt8}(h:a<b)(h2:b<c):a<c:=Nat.lt_trans (show a.toNat<b.toNat from h) h2
theorem qs0 (a b:UInt8)(r s:LU):cmpS (a::r) (b::s)=if a<b then-1 else if b<a then 1 else cmpS r s:=rfl
theorem qgq:∀{a b},cmpS a b=0↔a=b
 |[],[]=>by simp[cmpS,Lib.compareBytes]
 |[],_::_=>by simp[cmpS,Lib.compareBytes]
 |_::_,[]=>by simp[cmpS,Lib.compareBytes]
 |a::r,b::s=>by
  rw[qs0]
  rcases qrt a b with h|rfl|h
  · rw[if_pos h]
    simp only[List.cons.injEq]
    exact⟨fun h=>by omega,fun e=>by rw[e.1]at h;exact absurd h (qdd h)⟩
  · rw[if_neg (fun h=>qdd h h),if_neg (fun h=>qdd h h),qgq]
    simp
  · rw[if_neg (qdd h),if_pos h]
    simp only[List.cons.injEq]
    exact⟨fun h=>by omega,fun e=>by rw[e.1]at h;exact absurd h (qdd h)⟩
theorem q6x:∀a b,cmpS b a= -cmpS a b
 |[],[]=>by simp[cmpS,Lib.compareBytes]
 |[],_::_=>by simp[cmpS,Lib.compareBytes]
 |_::_,[]=>by simp[cmpS,Lib.compareBytes]
 |a::r,b::s=>by
  rw[qs0,qs0]
  rcases qrt a b with h|rfl|h
  · simp[h,qdd h]
  · simp[fun h=>qdd (a:=a) (b:=a) h h,q6x r s]
  · simp[h,qdd h]
theorem q2m:∀{a b c},cmpS a b<0->cmpS b c<0->cmpS a c<0
 |[],[],_,h,_=>by simp[cmpS,Lib.compareBytes]at h
 |[],_::_,[],_,h=>by simp[cmpS,Lib.compareBytes]at h
 |[],_::_,_::_,_,_=>by simp[cmpS,Lib.compareBytes]
 |_::_,[],_,h,_=>by simp[cmpS,Lib.compareBytes]at h
 |_::_,_::_,[],_,h=>by simp[cmpS,Lib.compareBytes]at h
 |a::r,b::s,c::t,h1,h2=>by
  rw[qs0]at h1 h2⊢
  rcases qrt a b with h|rfl|h
  · rcases qrt b c with k|rfl|k
    · rw[if_pos (qbpm h k)];omega
    · rw[if_pos h];omega
    · rw[if_neg (qdd k),if_pos k]at h2;omega
  · rw[if_neg (fun h=>qdd h h),if_neg (fun h=>qdd h h)]at h1
    rcases qrt a c with k|rfl|k
    · rw[if_pos k];omega
    · rw[if_neg (fun h=>qdd h h),if_neg (fun h=>qdd h h)]at h2⊢
      exact q2m h1 h2
    · rw[if_neg (qdd k),if_pos k]at h2;omega
  · rw[if_neg (qdd h),if_pos h]at h1;omega
theorem qbf0:∀a b,Op.bytesLess a b=decide (cmpS a b<0)
 |[],[]=>by simp[Op.bytesLess,cmpS,Lib.compareBytes]
 |[],_::_=>by simp[Op.bytesLess,cmpS,Lib.compareBytes]
 |_::_,[]=>by simp[Op.bytesLess,cmpS,Lib.compareBytes]
 |a::r,b::s=>by
  rw[qs0]
  unfold Op.bytesLess
  rw[qbf0 r s]
  rcases qrt a b with h|rfl|h
  · simp[h]
  · simp[fun h=>qdd (a:=a) (b:=a) h h]
  · have hne:a≠b:=fun e=>by rw[e]at h;exact qdd h h
    simp[h,qdd h,hne]
theorem qbc4 (a b:LU):qk3 a b=some (cmpS a b):=by
 rw[q41]
 unfold qip
 rw[qux]
 rfl
theorem qbpn (a b:LU):qn5 a b=some (cmpS a b):=by
 rw[qbab]
 unfold qlj
 rw[qbf0]
 rcases qbfz a b with h|h|h
 · simp[h]
 · have e:=qgq.1 h
   subst e
   simp[h]
 · have e:(a==b)=false:=by
    have:a≠b:=fun e=>by rw[qgq.2 e]at h;omega
    simpa using this
   simp[h,e]
def cmpZ:List (List UInt8)->List (List UInt8)->Option Int
 |a::r,b::s=>if cmpS a b=0 then cmpZ r s else some (cmpS a b)
 |_,_=>none
def cmpR (x y:List (List UInt8)):Int:=(cmpZ x y).getD (if x.length<y.length then-1 else if x.length>y.length then 1 else 0)
def cmpN (x y:LU):Int:=
 if qk x=true/\qk y=false then-1 else if qk y=true/\qk x=false then 1 else if qk x=false then cmpS x y else cmpR (qf x).reverse (qf y).reverse
theorem qxi (a b:LU)(r s:List (List UInt8)):cmpR (a::r) (b::s)=if cmpS a b=0 then cmpR r s else cmpS a b:=by
 unfold cmpR
 simp only[cmpZ]
 split
 · simp
 · rfl
theorem qbf1:∀{x y},cmpR x y=0↔x=y
 |[],[]=>by simp[cmpR,cmpZ]
 |[],_::_=>by simp[cmpR,cmpZ]
 |_::_,[]=>by simp[cmpR,cmpZ]
 |a::r,b::s=>by
  rw[qxi]
  split
  · rename_i h
    rw[qbf1,qgq.1 h];simp
  · rename_i h
    simp only[List.cons.injEq]
    exact⟨fun e=>absurd e h,fun e=>absurd (qgq.2 e.1) h⟩
theorem qbf2:∀x y,cmpR y x= -cmpR x y
 |[],[]=>by simp[cmpR,cmpZ]
 |[],_::_=>by simp[cmpR,cmpZ]
 |_::_,[]=>by simp[cmpR,cmpZ]
 |a::r,b::s=>by
  rw[qxi,qxi,q6x a b,qbf2 r s]
  split<;>split<;>omega
theorem qbc5:∀{x y z},cmpR x y<0->cmpR y z<0->cmpR x z<0
 |[],[],_,h,_=>by simp[cmpR,cmpZ]at h
 |[],_::_,[],_,h=>by simp[cmpR,cmpZ]at h
 |[],_::_,_::_,_,_=>by simp[cmpR,cmpZ]
 |_::_,[],_,h,_=>by simp[cmpR,cmpZ]at h
 |_::_,_::_,[],_,h=>by simp[cmpR,cmpZ]at h
 |a::r,b::s,c::t,h1,h2=>by
  rw[qxi]at h1 h2⊢
  by_cases e1:cmpS a b=0
  · have:=qgq.1 e1
    subst this
    rw[if_pos e1]at h1
    by_cases e2:cmpS a c=0
    · rw[if_pos e2]at h2⊢
      exact qbc5 h1 h2
    · rw[if_neg e2]at h2⊢;exact h2
  · rw[if_neg e1]at h1
    by_cases e2:cmpS b c=0
    · have:=qgq.1 e2
      subst this
      rw[if_neg e1];exact h1
    · rw[if_neg e2]at h2
      have:=q2m h1 h2
      rw[if_neg (by omega)];exact this
theorem qbl9 {x y:LU}(hx:qk x=true)(hy:qk y=true)(h:qf x=qf y):x=y:=by
 rcases qqj hx with⟨a1,a2⟩|⟨a1,a2,a3,a4,a5⟩<;>rcases qqj hy with⟨b1,b2⟩|⟨b1,b2,b3,b4,b5⟩
 · rw[a1,b1]
 · exfalso
   have h2:=ql8 y [] b3
   rw[<-b5,<-h,a2]at h2
   simp at h2
   subst h2
   simp at b2
 · exfalso
   have h2:=ql8 x [] a3
   rw[<-a5,h,b2]at h2
   simp at h2
   subst h2
   simp at a2
 · have h1:=ql8 x [] a3
   have h2:=ql8 y [] b3
   rw[<-a5,h,b5]at h1
   simp only[List.nil_append]at h1 h2
   exact h1.symm.trans h2
theorem qpc {x y:LU}:cmpN x y=0↔x=y:=by
 unfold cmpN
 cases hx:qk x<;>cases hy:qk y
 · simp[qgq]
 · simp only[Bool.true_eq_false,and_self,Bool.false_eq_true,false_and,if_false,if_true]
   exact⟨fun h=>by omega,fun e=>by rw[e,hy]at hx;cases hx⟩
 · simp only[and_self,if_true]
   exact⟨fun h=>by omega,fun e=>by rw[e,hy]at hx;cases hx⟩
 · simp only[Bool.true_eq_false,and_false,if_false,qbf1]
   exact⟨fun h=>qbl9 hx hy (by simpa using congrArg List.reverse h),fun e=>by rw[e]⟩
theorem qbn0 (x y:LU):cmpN y x= -cmpN x y:=by
 unfold cmpN
 cases hx:qk x<;>cases hy:qk y<;>simp
 · exact q6x x y
 · exact qbf2 _ _
theorem qbma {x y z:LU}(h1:cmpN x y<0)(h2:cmpN y z<0):cmpN x z<0:=by
 unfold cmpN at*
 cases hx:qk x<;>cases hy:qk y<;>cases hz:qk z<;>simp[hx,hy,hz]at h1 h2⊢
 · exact q2m h1 h2
 · exact qbc5 h1 h2
theorem qbf3 (xs ys:List (List UInt8))(hx:xs.length<=1000000000)(hy:ys.length<=1000000000)(kx:Unit->Option Int):∀(n j:Nat),j<=xs.length->j<=ys.length->xs.length-j<n->
 qc9 (avS xs) (avS ys) kx n ((j+1:Nat):Int)=match cmpZ (xs.reverse.drop j) (ys.reverse.drop j)with
  |some c=>some c
  |none=>kx ()
 |0,j,_,_,h=>by omega
 |n+1,j,h1,h2,h3=>by
  unfold qc9 qkt
  have hlx:(avS xs).length=xs.length:=by simp[avS]
  have hly:(avS ys).length=ys.length:=by simp[avS]
  rw[hlx,hly]
  by_cases hc:j<xs.length/\j<ys.length
  · have e1:(decide (((j+1:Nat):Int)<=(xs.length:Int))&&decide (((j+1:Nat):Int)<=(ys.length:Int)))=true:=by simp;omega
    rw[e1,zct,w64 (by omega) (by omega),qbcy (j:=xs.length-1-j) (by omega),qrs xs j hc.1,zos]
    rw[show fitC [.s] (AV.str (xs.reverse[j]'(by simpa using hc.1))).cells=true from rfl,zct,w64 (by omega) (by omega),qbcy (j:=ys.length-1-j) (by omega),qrs ys j hc.2,zos]
    rw[show fitC [.s] (AV.str (ys.reverse[j]'(by simpa using hc.2))).cells=true from rfl,zct]
    rw[show gS (AV.str (xs.reverse[j]'(by simpa using hc.1))).cells 0=xs.reverse[j]'(by simpa using hc.1)from rfl,show gS (AV.str (ys.reverse[j]'(by simpa using hc.2))).cells 0=ys.reverse[j]'(by simpa using hc.2)from rfl,qbc4,zos]
    rw[List.drop_eq_getElem_cons (l:=xs.reverse) (i:=j) (by simpa using hc.1),List.drop_eq_getElem_cons (l:=ys.reverse) (i:=j) (by simpa using hc.2)]
    simp only[cmpZ]
    by_cases h0:cmpS (xs.reverse[j]'(by simpa using hc.1)) (ys.reverse[j]'(by simpa using hc.2))=0
    · rw[if_pos h0,h0]
      simp only[bne_self_eq_false,zcf]
      have ih:=qbf3 xs ys hx hy kx n (j+1) (by omega) (by omega) (by omega)
      rw[w64 (by omega) (by omega)]
      rw[show((j+1:Nat):Int)+1=((j+1+1:Nat):Int) by omega]
      exact ih
    · rw[if_neg h0]
      have:(cmpS (xs.reverse[j]'(by simpa using hc.1)) (ys.reverse[j]'(by simpa using hc.2)) != 0)=true:=by simpa using h0
      rw[this,zct]
  · have e1:(decide (((j+1:Nat):Int)<=(xs.length:Int))&&decide (((j+1:Nat):Int)<=(ys.length:Int)))=false:=by
     rw[Bool.and_eq_false_iff];simp;omega
    rw[e1,zcf]
    have:cmpZ (xs.reverse.drop j) (ys.reverse.drop j)=none:=by
     rcases Classical.not_and_iff_not_or_not.1 hc with h|h
     · rw[List.drop_eq_nil_of_le (by simp;omega)];simp[cmpZ]
     · have e:ys.reverse.drop j=[]:=List.drop_eq_nil_of_le (by simp;omega)
       rw[e]
       cases xs.reverse.drop j<;>simp[cmpZ]
    rw[this]
theorem lenC (a b:Nat):(bif decide ((a:Int)<(b:Int))then some (-1:Int)else bif decide ((a:Int)>(b:Int))then some 1 else some 0)=some (if a<b then-1 else if a>b then 1 else 0):=by
 rcases Nat.lt_trichotomy a b with h|h|h
 · have:(a:Int)<b:=by omega
   simp[h,this]
 · subst h;simp
 · have h1:¬(a:Int)<b:=by omega
   have h2:(b:Int)<a:=by omega
   have h3:¬a<b:=by omega
   simp[h1,h2,h3,h]
theorem qbmb (x y:LU)(hx:x.length<=9223372036854775807)(hy:y.length<=9223372036854775807):qs5 x y=some (cmpN x y):=by
 rw[q9p]
 unfold qk4 cmpN
 rw[qh8 x hx,zos,qh8 y hy,zos,qbau x hx,zos,qbau y hy,zos,q0g]
 have hlx:=qmt (x:=x)
 have hly:=qmt (x:=y)
 have hL:=qbf3 (qf x) (qf y) (by omega) (by omega) (fun _=>(bif(decide (((avS (qf x)).length:Int)<((avS (qf y)).length:Int)))then(some (-1:Int))else(bif(decide (((avS (qf x)).length:Int)>((avS (qf y)).length:Int)))then(some (1:Int))else(some (0:Int))))) FU 0 (by omega) (by omega) (qcb (by omega))
 rw[show((0+1:Nat):Int)=1 from rfl]at hL
 rw[hL]
 cases qk x<;>cases qk y<;>simp only[znt,Bool.not_false,Bool.and_true,Bool.and_false,Bool.and_self,zct,zcf,qbc4,zos,and_self,if_true,Bool.true_eq_false,Bool.false_eq_true,and_false,false_and,if_false]
 simp only[List.drop_zero]
 unfold cmpR
 cases cmpZ (qf x).reverse (qf y).reverse with
 |some c=>rfl
 |none=>
  simp only[avS,List.length_map,Option.getD_none,List.length_reverse]
  exact lenC _ _
theorem qbf4:∀(a b:List (List UInt8)),cmpZ a b=if h:comm a b<a.length/\comm a b<b.length then some (cmpS (a[comm a b]'h.1) (b[comm a b]'h.2))else none
 |[],b=>by simp[cmpZ,comm]
 |a::r,[]=>by simp[cmpZ,comm]
 |a::r,b::s=>by
  unfold cmpZ comm
  by_cases e:a=b
  · subst e
    rw[if_pos (qgq.2 rfl),qbf4 r s]
    simp only[if_true]
    by_cases h:comm r s<r.length/\comm r s<s.length
    · rw[dif_pos h,dif_pos (by simp;omega)]
      simp
    · rw[dif_neg h,dif_neg (by simp;omega)]
  · rw[if_neg (fun h=>e (qgq.1 h))]
    simp[e]
theorem qbn1 (x:LU):(qfd x).2=qk x:=rfl
theorem qbmc (x y:LU)(hx:x.length<=9223372036854775807)(hy:y.length<=9223372036854775807):qoj x y=some (cmpN x y):=by
 rw[q34]
 unfold qhy cmpN
 rw[quk x hx,zos,quk y hy,zos]
 simp only[qbn1,qbpn,zos]
 have hlx:=qmt (x:=x)
 have hly:=qmt (x:=y)
 rw[show(qfd x).1=qf x from rfl,show(qfd y).1=qf y from rfl,qbi7 _ _ (by omega) (by omega),zos]
 cases qk x<;>cases qk y<;>simp only[znt,Bool.not_false,Bool.or_true,Bool.or_false,Bool.or_self,zct,zcf,and_self,if_true,Bool.true_eq_false,Bool.false_eq_true,and_false,false_and,if_false]
 have hax:(avS (qf x)).length=(qf x).length:=by simp[avS]
 have hay:(avS (qf y)).length=(qf y).length:=by simp[avS]
 rw[hax,hay]
 unfold cmpR
 rw[qbf4]
 by_cases h:comm (qf x).reverse (qf y).reverse<(qf x).length/\comm (qf x).reverse (qf y).reverse<(qf y).length
 · have e1:(decide (((comm (qf x).reverse (qf y).reverse:Nat):Int)<((qf x).length:Int))&&decide (((comm (qf x).reverse (qf y).reverse:Nat):Int)<((qf y).length:Int)))=true:=by simp;omega
   rw[e1,zct,dif_pos (by simpa using h)]
   rw[w64 (i:=((qf x).length:Int)-1) (by omega) (by omega),w64 (by omega) (by omega),qbcy (j:=(qf x).length-1-comm (qf x).reverse (qf y).reverse) (by omega),qrs _ _ h.1,zos]
   rw[show fitC [.s] (AV.str ((qf x).reverse[comm (qf x).reverse (qf y).reverse]'(by simpa using h.1))).cells=true from rfl,zct]
   rw[w64 (i:=((qf y).length:Int)-1) (by omega) (by omega),w64 (by omega) (by omega),qbcy (j:=(qf y).length-1-comm (qf x).reverse (qf y).reverse) (by omega),qrs _ _ h.2,zos]
   rw[show fitC [.s] (AV.str ((qf y).reverse[comm (qf x).reverse (qf y).reverse]'(by simpa using h.2))).cells=true from rfl,zct]
   rfl
 · have e1:(decide (((comm (qf x).reverse (qf y).reverse:Nat):Int)<((qf x).length:Int))&&decide (((comm (qf x).reverse (qf y).reverse:Nat):Int)<((qf y).length:Int)))=false:=by
    rw[Bool.and_eq_false_iff];simp;omega
   rw[e1,zcf,dif_neg (by simpa using h)]
   simp only[Option.getD_none,List.length_reverse]
   exact lenC _ _
def qep (v6:Bool)(hi lo:Int):Bool:=v6||(hi==0&&decide (lo<4294967296))
theorem qbn2 (v6:Bool)(hi lo:Int):qrb v6 hi lo=some (qep v6 hi lo):=by
 rw[q8h];unfold qjv qep
 cases v6<;>cases(hi==0)<;>simp
def uok (x:Int):Prop:=0<=x/\x<=18446744073709551615
theorem qbi9 (n:Nat)(h:n<18446744073709551616):u64.wrap (n:Int)=n:=wu64 (by omega) (by omega)
theorem qbsy (x y:Int):qgn .and .u64 x y=((BitVec.ofInt 64 x&&& BitVec.ofInt 64 y).toNat:Int):=by
 have:=(BitVec.ofInt 64 x&&& BitVec.ofInt 64 y).isLt
 show u64.wrap ((BitVec.ofInt 64 x&&& BitVec.ofInt 64 y).toNat:Int)=_
 exact qbi9 _ (by omega)
theorem qbn3 (x y:Int):qgn .andNot .u64 x y=((BitVec.ofInt 64 x&&& ~~~BitVec.ofInt 64 y).toNat:Int):=by
 have:=(BitVec.ofInt 64 x&&& ~~~BitVec.ofInt 64 y).isLt
 show u64.wrap ((BitVec.ofInt 64 x&&& ~~~BitVec.ofInt 64 y).toNat:Int)=_
 exact qbi9 _ (by omega)
theorem qbpo (v6:Bool)(hi lo:Int):q0c v6 hi lo=some (qep v6 hi lo):=by
 rw[qbgj];unfold qpn qep
 have:decide (lo<=4294967295)=decide (lo<4294967296):=by apply decide_eq_decide.2;omega
 cases v6<;>cases(hi==0)<;>simp[this]
def mnem (t:Int):List UInt8:=
 if t=1 then[65]else if t=2 then[78,83]else if t=5 then[67,78,65,77,69]else if t=6 then[83,79,65]else if t=12 then[80,84,82]else if t=15 then[77,88]else if t=16 then[84,88,84]else if t=28 then[65,65,65,65]
 else if t=33 then[83,82,86]else if t=39 then[68,78,65,77,69]else if t=43 then[68,83]else if t=46 then[82,82,83,73,71]else if t=47 then[78,83,69,67]else if t=48 then[68,78,83,75,69,89]else[]
def qh9 (t:Int):Bool:= !(mnem t==[])
theorem qbmd (t:Int):qm2 t=some (mnem t):=by
 rw[q0o];unfold qg1 mnem
 simp only[qbpg,beq_iff_eq,apply_ite some]
theorem q7g (t:Int):qgs t=some (qh9 t):=by
 rw[q8g];unfold qjt
 rw[qbmd];rfl
def qnk (x:LU):Bool:=qk x&& !(x.head? ==some 42)
theorem qbf5 (x:LU)(h:qk x=true):x≠[]:=by
 rintro rfl
 simp[qk,qfd,qh7]at h
theorem qbn4 (x:LU)(hx:x.length<=9223372036854775807):qew x=some (qnk x):=by
 rw[q95];unfold qlh qnk
 rw[qxf x hx,zos]
 cases h:qk x
 · simp
 · cases x with
   |nil=>exact absurd rfl (qbf5 _ h)
   |cons a r=>
    have:∀n:Fin 256,(((n.val:Nat):Int) != 42)= !(n.val==42):=by decide+kernel
    have h2:=this ⟨a.toNat,a.toNat_lt⟩
    simp only at h2
    simp only[zct,ixB_zero,List.getElem?_cons_zero,zos,h2,Bool.true_and,List.head?_cons]
    by_cases ha:a=42
    · subst ha;rfl
    · have h3:a.toNat≠42:=fun h=>ha (by rw[<-UInt8.toNat_inj];exact h)
      have e1:(a.toNat==42)=false:=by simpa using h3
      have e3:(some a==some 42)=false:=by simpa using ha
      rw[e1,e3]
theorem qbn5 (n:Int):qrc n=some (decide (n>=0)&&decide (n<4294967296)):=by rw[q8i];rfl
def inB (n m:Int):Bool:=decide (n>=0)&&decide (n<=m)
def u32B (n:Int):Bool:=decide (n>=0)&&decide (n<4294967296)
theorem p_in (n m:Int):qbd n m=some (inB n m):=by rw[qbd1];rfl
def q6y (x:LU):Bool:=decide ((x.length:Int)>=1)&&decide ((x.length:Int)<=255)
theorem qbsz (x:LU):qkg x=some (q6y x):=by rw[q97];rfl
def allF (b:Int):Nat->Bool
 |0=>true
 |n+1=>(!((qgn .and .u64 (b.fdiv (2^(63-n))) 1)==1)||qh9 (63-n:Nat))&&allF b n
theorem qbtl (b:Int):qu5 b=some (allF b 64):=by
 rw[qbbq];unfold qmi
 rw[q5l]
 have key:=q7e (fun k (s:Int)=>qf6 b (fun _=>some true) k s) (fun s nx=>qiu b s nx (fun _=>some true)) (fun _ _=>rfl)
  (fun s=>∃i:Nat,s=i/\i<=64) (fun s=>(64-s).toNat) (fun s=>some (allF b (64-s.toNat))) ?_ FU 0 ⟨0,rfl,by simp⟩ (qcb (by simp))
 · exact key
 · rintro _ ⟨i,rfl,hi⟩ nx hn
   have hw:i64.wrap ((i:Int)+1)=((i+1:Nat):Int):=w64 (by omega) (by omega)
   have hu:u64.wrap (i:Int)=(i:Int):=wu64 (by omega) (by omega)
   unfold qiu
   by_cases hc:i<64
   · have h1:(i:Int)<64:=by omega
     have h2:¬(i:Int)<0:=by omega
     have h3:min i u64.bits=i:=by simp[IntKind.bits]<;>omega
     have hnx:=hn ((i+1:Nat):Int) ⟨i+1,rfl,by omega⟩ (by omega)
     have e:64-(((i+1:Nat):Int)).toNat=63-i:=by simp<;>omega
     rw[e]at hnx
     have e2:64-((i:Int)).toNat=(63-i)+1:=by simp<;>omega
     have e3:63-(63-i)=i:=by omega
     simp only[h1,decide_true,zct,hu,h2,decide_false,zcf,Int.toNat_natCast,h3,q7g,zos,hw,hnx]
     rw[show((i:Int)).toNat=i by simp]at e2
     rw[e2]
     simp only[allF,e3]
     cases(qgn .and .u64 (b.fdiv (2^i)) 1==1)<;>cases qh9 (i:Int)<;>simp
   · have:i=64:=by omega
     subst this
     simp[allF]
theorem co {R:Type}(k:Bool->Option R)(p a b:Bool):(bif p then k a else k b)=k (bif p then a else b):=by cases p<;>rfl
def qbi (t:Int)(v6:Bool)(hi lo:Int)(h m x:LU)(a b c d e f bits:Int):Bool×Int×Int×List UInt8×List UInt8×List UInt8×Int×Int×Int×Int×Int×Int×Int:=
 if t=1\/t=28 then(v6,hi,lo,[],[],[],0,0,0,0,0,0,0)
 else if t=2\/t=5\/t=12\/t=39 then(false,0,0,h,[],[],0,0,0,0,0,0,0)
 else if t=6 then(false,0,0,h,m,[],a,b,c,d,e,0,0)
 else if t=15 then(false,0,0,h,[],[],a,0,0,0,0,0,0)
 else if t=16 then(false,0,0,[],[],x,0,0,0,0,0,0,0)
 else if t=33 then(false,0,0,h,[],[],a,b,c,0,0,0,0)
 else if t=43\/t=48 then(false,0,0,[],[],x,a,b,c,0,0,0,0)
 else if t=46 then(false,0,0,h,[],x,a,b,c,d,e,f,0)
 else(false,0,0,h,[],[],0,0,0,0,0,0,bits)
def qbz (p:Bool×Int×Int×List UInt8×List UInt8×List UInt8×Int×Int×Int×Int×Int×Int×Int):AV:=
 .agg [.bool p.1,.int .u64 p.2.1,.int .u64 p.2.2.1,.str p.2.2.2.1,.str p.2.2.2.2.1,.str p.2.2.2.2.2.1,.int .i64 p.2.2.2.2.2.2.1,.int .i64 p.2.2.2.2.2.2.2.1,.int .i64 p.2.2.2.2.2.2.2.2.1,.int .i64 p.2.2.2.2.2.2.2.2.2.1,.int .i64 p.2.2.2.2.2.2.2.2.2.2.1,.int .i64 p.2.2.2.2.2.2.2.2.2.2.2.1,.int .u64 p.2.2.2.2.2.2.2.2.2.2.2.2]
theorem qbs0 (t:Int)(v6:Bool)(hi lo:Int)(h m x:LU)(a b c d e f bits:Int):qs9 t v6 hi lo h m x a b c d e f bits=some (qbz (qbi t v6 hi lo h m x a b c d e f bits)):=by
 rw[q93];unfold qlg
 simp only[q3v,qhv,q0q,qg2,q0s,qg3]
 unfold qbi
 by_cases h1:t=1
 · simp[h1,qbz]
 by_cases h2:t=28
 · simp[h2,qbz]
 by_cases h3:t=2
 · simp[h3,qbz]
 by_cases h4:t=5
 · simp[h4,qbz]
 by_cases h5:t=12
 · simp[h5,qbz]
 by_cases h6:t=39
 · simp[h6,qbz]
 by_cases h7:t=6
 · simp[h7,qbz]
 by_cases h8:t=15
 · simp[h8,qbz]
 by_cases h9:t=16
 · simp[h9,qbz]
 by_cases h10:t=33
 · simp[h10,qbz]
 by_cases h11:t=43
 · simp[h11,qbz]
 by_cases h12:t=48
 · simp[h12,qbz]
 by_cases h13:t=46
 · simp[h13,qbz]
 have g1:(t==1)=false:=by simpa using h1
 have g2:(t==28)=false:=by simpa using h2
 have g3:(t==2)=false:=by simpa using h3
 have g4:(t==5)=false:=by simpa using h4
 have g5:(t==12)=false:=by simpa using h5
 have g6:(t==39)=false:=by simpa using h6
 have g7:(t==6)=false:=by simpa using h7
 have g8:(t==15)=false:=by simpa using h8
 have g9:(t==16)=false:=by simpa using h9
 have g10:(t==33)=false:=by simpa using h10
 have g11:(t==43)=false:=by simpa using h11
 have g12:(t==48)=false:=by simpa using h12
 have g13:(t==46)=false:=by simpa using h13
 simp only[g1,g2,g3,g4,g5,g6,g7,g8,g9,g10,g11,g12,g13,zcf,h1,h2,h3,h4,h5,h6,h7,h8,h9,h10,h11,h12,h13,or_self,if_false,qbz]
def q6z (t:Int)(v6:Bool)(hi lo:Int)(h m x:LU)(a b c d e f bits:Int):Bool:=
 qh9 t&&(qbi t v6 hi lo h m x a b c d e f bits==(v6,hi,lo,h,m,x,a,b,c,d,e,f,bits))&&
  (if t=1 then qep v6 hi lo&& !v6
   else if t=28 then v6
   else if t=6 then qnk h&&(qnk m&&(u32B a&&(inB b 2147483647&&(inB c 2147483647&&(inB d 2147483647&&inB e 2147483647)))))
   else if t=15 then qnk h&&inB a 65535
   else if t=16 then decide ((x.length:Int)<=255)
   else if t=33 then qnk h&&(inB a 65535&&(inB b 65535&&inB c 65535))
   else if t=43 then inB a 65535&&(inB b 255&&(inB c 255&&q6y x))
   else if t=46 then(qh9 a&&a != 46)&&(inB b 127&&(inB c 2147483647&&(inB d 4294967295&&(inB e 4294967295&&(inB f 65535&&(qnk h&&q6y x))))))
   else if t=47 then(qk h&&bits != 0)&&allF bits 64
   else if t=48 then((a==256||a==257)&&b==3)&&(inB c 255&&q6y x)
   else qnk h)
theorem qbav (p q:Bool):(bif p then some q else some false)=some (p&&q):=by cases p<;>rfl
theorem qbn6 (t:Int)(v6:Bool)(hi lo:Int)(h m x:LU)(a b c d e f bits:Int)(hh:h.length<=9223372036854775807)(hm:m.length<=9223372036854775807):
 qrd t v6 hi lo h m x a b c d e f bits=some (q6z t v6 hi lo h m x a b c d e f bits):=by
 rw[q8k];unfold qjw q6z
 simp only[q0u,qg4,q7g,zos,qbs0]
 cases hk:qh9 t
 · simp
 · have hu:(!(((gB (qbz (qbi t v6 hi lo h m x a b c d e f bits)).cells 0)==v6)&&(((gI (qbz (qbi t v6 hi lo h m x a b c d e f bits)).cells 1)==hi)&&(((gI (qbz (qbi t v6 hi lo h m x a b c d e f bits)).cells 2)==lo)&&(((gS (qbz (qbi t v6 hi lo h m x a b c d e f bits)).cells 3)==h)&&(((gS (qbz (qbi t v6 hi lo h m x a b c d e f bits)).cells 4)==m)&&(((gS (qbz (qbi t v6 hi lo h m x a b c d e f bits)).cells 5)==x)&&(((gI (qbz (qbi t v6 hi lo h m x a b c d e f bits)).cells 6)==a)&&(((gI (qbz (qbi t v6 hi lo h m x a b c d e f bits)).cells 7)==b)&&(((gI (qbz (qbi t v6 hi lo h m x a b c d e f bits)).cells 8)==c)&&(((gI (qbz (qbi t v6 hi lo h m x a b c d e f bits)).cells 9)==d)&&(((gI (qbz (qbi t v6 hi lo h m x a b c d e f bits)).cells 10)==e)&&(((gI (qbz (qbi t v6 hi lo h m x a b c d e f bits)).cells 11)==f)&&(((gI (qbz (qbi t v6 hi lo h m x a b c d e f bits)).cells 12)==bits)&&true))))))))))))))= !(qbi t v6 hi lo h m x a b c d e f bits==(v6,hi,lo,h,m,x,a,b,c,d,e,f,bits)):=by
    generalize qbi t v6 hi lo h m x a b c d e f bits=p
    obtain⟨q1,q2,q3,q4,q5,q6,q7,q8,q9,q10,q11,q12,q13⟩:=p
    simp only[qbz,AV.cells,gB,gI,gS,gC,List.getElem?_cons_zero,List.getElem?_cons_succ,Option.getD_some,aB,aI,aS,Bool.and_true]
    rfl
   simp only[znt,zcf,hu]
   cases hq:(qbi t v6 hi lo h m x a b c d e f bits==(v6,hi,lo,h,m,x,a,b,c,d,e,f,bits))
   · simp
   · simp only[znt,zcf,Bool.true_and]
     simp only[qyr,qgc,qyt,qgd,qyv,qge,qyx,qgf,qyz,qgg,qbn2,qbn4 h hh,qbn4 m hm,qxf h hh,qbn5,p_in,qbsz,qbtl,q7g,zos,qbav]
     by_cases h1:t=1
     · subst h1;simp
     by_cases h2:t=28
     · subst h2;simp
     by_cases h3:t=6
     · subst h3;simp[u32B]
     by_cases h4:t=15
     · subst h4;simp
     by_cases h5:t=16
     · subst h5;simp
     by_cases h6:t=33
     · subst h6;simp
     by_cases h7:t=43
     · subst h7;simp
     by_cases h8:t=46
     · subst h8;simp
     by_cases h9:t=47
     · subst h9;simp
     by_cases h10:t=48
     · subst h10;simp
     have g1:(t==1)=false:=by simpa using h1
     have g2:(t==28)=false:=by simpa using h2
     have g3:(t==6)=false:=by simpa using h3
     have g4:(t==15)=false:=by simpa using h4
     have g5:(t==16)=false:=by simpa using h5
     have g6:(t==33)=false:=by simpa using h6
     have g7:(t==43)=false:=by simpa using h7
     have g8:(t==46)=false:=by simpa using h8
     have g9:(t==47)=false:=by simpa using h9
     have g10:(t==48)=false:=by simpa using h10
     simp[h1,h2,h3,h4,h5,h6,h7,h8,h9,h10,g1,g2,g3,g4,g5,g6,g7,g8,g9,g10]
def q2n (n:LU)(t ttl:Int)(v6:Bool)(hi lo:Int)(h m x:LU)(a b c d e f bits:Int):Bool:=
 qk n&&(((qh9 t&&decide (ttl>=0))&&decide (ttl<=2147483647))&&q6z t v6 hi lo h m x a b c d e f bits)
theorem qbn7 (n:LU)(t ttl:Int)(v6:Bool)(hi lo:Int)(h m x:LU)(a b c d e f bits:Int)(hn:n.length<=9223372036854775807)(hh:h.length<=9223372036854775807)(hm:m.length<=9223372036854775807):
 qmj n t ttl v6 hi lo h m x a b c d e f bits=some (q2n n t ttl v6 hi lo h m x a b c d e f bits):=by
 rw[q8l];unfold qjx q2n
 simp only[qxf n hn,q7g,qbn6 _ _ _ _ _ _ _ _ _ _ _ _ _ _ hh hm,zos,qbav]
theorem qbky (x:LU)(hx:x.length<=9223372036854775807):qhk x=some (qnk x):=by
 rw[qbgk];unfold qpo qnk
 rw[qh8 x hx,zos]
 cases h:qk x
 · rfl
 · cases x with
   |nil=>exact absurd rfl (qbf5 _ h)
   |cons a r=>
    rw[q0d];unfold qg0
    rw[qur];unfold qe1
    have e1:decide (((a::r).length:Int)>=(([42]:List UInt8).length:Int))=true:=decide_eq_true (by simp;omega)
    have e2:cutI (a::r) none (some (([42]:List UInt8).length:Int))=some [a]:=by
     unfold cutI
     simp only[Option.getD_none,Option.getD_some]
     rw[if_pos ⟨by omega,by simp,by simp;omega⟩]
     rfl
    simp only[e1,zct,e2,zos,Bool.true_and,List.head?_cons]
    congr 2
    rw[Bool.eq_iff_iff];simp
def qs1:List Int:=[1,2,5,6,12,15,16,28,33,39,43,46,47,48]
theorem qbf6 (t:Int):qh9 t=qs1.any (fun n=>n==t):=by
 unfold qh9 mnem qs1
 by_cases h1:t=1
 · subst h1;rfl
 by_cases h2:t=2
 · subst h2;rfl
 by_cases h3:t=5
 · subst h3;rfl
 by_cases h4:t=6
 · subst h4;rfl
 by_cases h5:t=12
 · subst h5;rfl
 by_cases h6:t=15
 · subst h6;rfl
 by_cases h7:t=16
 · subst h7;rfl
 by_cases h8:t=28
 · subst h8;rfl
 by_cases h9:t=33
 · subst h9;rfl
 by_cases h10:t=39
 · subst h10;rfl
 by_cases h11:t=43
 · subst h11;rfl
 by_cases h12:t=46
 · subst h12;rfl
 by_cases h13:t=47
 · subst h13;rfl
 by_cases h14:t=48
 · subst h14;rfl
 simp[h1,h2,h3,h4,h5,h6,h7,h8,h9,h10,h11,h12,h13,h14,Ne.symm h1,Ne.symm h2,Ne.symm h3,Ne.symm h4,Ne.symm h5,Ne.symm h6,Ne.symm h7,Ne.symm h8,Ne.symm h9,Ne.symm h10,Ne.symm h11,Ne.symm h12,Ne.symm h13,Ne.symm h14]
theorem qbkz:∃L,qrw=some L/\L.map (fun y=>gI y.cells 0)=qs1/\(∀y,y∈L->fitC qi0 y.cells=true)/\L.length=14:=by
 rw[qbdf];unfold qnp
 simp only[zhs,zct]
 refine⟨_,rfl,rfl,?_,rfl⟩
 intro y hy
 simp only[List.mem_cons,List.not_mem_nil,or_false]at hy
 rcases hy with rfl|rfl|rfl|rfl|rfl|rfl|rfl|rfl|rfl|rfl|rfl|rfl|rfl|rfl<;>rfl
def q7h (t:Int):List AV->AV×Bool
 |[]=>((.agg [(.int .i64 0),(.str ([]:List UInt8)),(.str ([]:List UInt8))]),false)
 |y::r=>bif gI y.cells 0==t then((.agg [(.int .i64 (gI y.cells 0)),(.str (gS y.cells 1)),(.str (gS y.cells 2))]),true)else q7h t r
theorem qbf7 (t:Int):∀l:List AV,(q7h t l).2=(l.map (fun y=>gI y.cells 0)).any (fun n=>n==t)
 |[]=>rfl
 |y::r=>by
  simp only[q7h,List.map_cons,List.any_cons]
  cases(gI y.cells 0==t)
  · exact qbf7 t r
  · rfl
theorem qbja (t:Int):qrx t=some (qh9 t):=by
 obtain⟨L,h1,h2,h3,h4⟩:=qbkz
 rw[qbdg];unfold qnq
 rw[qbgi];unfold qpm
 rw[h1,zos,q9l,qjf L (by omega) (qhj t L (L.length:Int) 0 [] [] fun _=>some ((.agg [(.int .i64 0),(.str ([]:List UInt8)),(.str ([]:List UInt8))]),false)) (fun i nx=>qhi t L (L.length:Int) i 0 [] [] nx fun _=>some ((.agg [(.int .i64 0),(.str ([]:List UInt8)),(.str ([]:List UInt8))]),false)) (fun _ _=>rfl) (fun r=>some (q7h t r))]
 · simp only[zos,qbf7,h2,qbf6]
 · intro nx;simp[qhi,q7h]
 · intro i y r nx g1 g2 g3 g4 g5
   have hy:=h3 y (zmg g2)
   have g6:(i:Int)<(L.length:Int):=by omega
   unfold qhi
   simp only[g6,decide_true,zct,zin,g2,zos,hy,g4,g5,q7h]
   cases(gI y.cells 0==t)<;>rfl
def orK (s n:Int):Int:=qgn .or .u64 s (u64.wrap (1*2^min n.toNat u64.bits))
theorem qbs1:q4r=some 501935916552294:=by
 obtain⟨L,h1,h2,h3,h4⟩:=qbkz
 rw[qbhh];unfold qry
 rw[h1,zos,qba5]
 have hpos:∀y,y∈L->¬gI y.cells 0<0:=by
  intro y hy
  have:gI y.cells 0∈qs1:=by rw[<-h2];exact List.mem_map.2 ⟨y,hy,rfl⟩
  simp only[qs1,List.mem_cons,List.not_mem_nil,or_false]at this
  omega
 have key:=qcn L (by omega) (fun n i s=>qi3 L (L.length:Int) (fun v=>some v) n s i) (fun i s nx=>qi2 s L (L.length:Int) i (fun a b=>nx b a) (fun v=>some v)) (fun _ _ _=>rfl)
  (fun _ _=>True) (fun r s=>some ((r.map (fun y=>gI y.cells 0)).foldl orK s)) ?_ ?_ 0 FU trivial (qcb (by omega))
 · refine key.trans ?_
   rw[h2]
   decide+kernel
 · intro s nx _;simp[qi2]
 · intro i y r s nx g1 g2 g3 g4 _ g5
   have hm:=zmg g2
   have g6:(i:Int)<(L.length:Int):=by omega
   have g7:decide (gI y.cells 0<0)=false:=decide_eq_false (hpos y hm)
   unfold qi2
   simp only[g6,decide_true,zct,zin,g2,zos,h3 y hm,g7,zcf,g4,g5 _ trivial,List.map_cons,List.foldl_cons]
   rfl
theorem qbjb (b:Int):∀n,n<=64->(allF b n=true↔∀i,64-n<=i->i<64->((qgn .and .u64 (b.fdiv (2^i)) 1)==1)=true->qh9 (i:Nat)=true)
 |0,_=>by simp[allF];intro i h1 h2;omega
 |n+1,hn=>by
  simp only[allF,Bool.and_eq_true,Bool.or_eq_true,Bool.not_eq_true',qbjb b n (by omega)]
  constructor
  · rintro⟨h1,h2⟩ i hi hi2 hb
    by_cases e:i=63-n
    · subst e
      rcases h1 with h1|h1
      · rw[hb]at h1;cases h1
      · exact h1
    · exact h2 i (by omega) hi2 hb
  · intro h
    refine⟨?_,fun i hi hi2 hb=>h i (by omega) hi2 hb⟩
    cases hb:((qgn .and .u64 (b.fdiv (2^(63-n))) 1)==1)
    · exact .inl rfl
    · exact .inr (h (63-n) (by omega) (by omega) hb)
theorem qbn8 {b:Int}(h:uok b)(i:Nat)(hi:i<64):((qgn .and .u64 (b.fdiv (2^i)) 1)==1)=(BitVec.ofInt 64 b).getLsbD i:=by
 obtain⟨n,rfl⟩:=Int.eq_ofNat_of_zero_le h.1
 have hn:n<18446744073709551616:=by have:=h.2;omega
 have e1:(n:Int).fdiv (2^i)=((n / 2^i:Nat):Int):=by
  rw[Int.fdiv_eq_ediv_of_nonneg _ (by exact Int.pow_nonneg (by omega))]
  norm_cast
 rw[e1,qbsy]
 have e2:(BitVec.ofInt 64 ((n / 2^i:Nat):Int)&&& BitVec.ofInt 64 1).toNat=(n / 2^i)%2:=by
  have hq:n / 2^i<=n:=Nat.div_le_self _ _
  generalize n / 2^i=q at hq
  rw[BitVec.toNat_and,BitVec.toNat_ofInt]
  have e3:(((q:Nat):Int)%((2^64:Nat):Int)).toNat=q:=by omega
  rw[e3]
  exact Nat.and_one_is_mod _
 rw[e2]
 have e4:(BitVec.ofInt 64 (n:Int)).getLsbD i=n.testBit i:=by
  rw[BitVec.getLsbD,BitVec.toNat_ofInt]
  have:(((n:Nat):Int)%((2^64:Nat):Int)).toNat=n:=by omega
  rw[this]
 rw[e4,Nat.testBit_eq_decide_div_mod_eq]
 rw[Bool.eq_iff_iff,beq_iff_eq,decide_eq_true_eq]
 omega
theorem qbqi:∀i:Fin 64,(BitVec.ofInt 64 501935916552294).getLsbD i.val=qh9 (i.val:Nat):=by decide+kernel
theorem qbrn {b:Int}(h:uok b):allF b 64=(qgn .andNot .u64 b 501935916552294==0):=by
 rw[Bool.eq_iff_iff,qbjb b 64 (by omega),beq_iff_eq,qbn3]
 have hz:(((BitVec.ofInt 64 b&&& ~~~BitVec.ofInt 64 501935916552294).toNat:Nat):Int)=0↔(BitVec.ofInt 64 b&&& ~~~BitVec.ofInt 64 501935916552294)=0#64:=by
  constructor
  · intro h;exact BitVec.eq_of_toNat_eq (by simp only[BitVec.toNat_zero];omega)
  · intro h;rw[h];rfl
 rw[hz]
 constructor
 · intro hk
   apply BitVec.eq_of_getLsbD_eq
   intro i hi
   rw[BitVec.getLsbD_and,BitVec.getLsbD_not,qbqi ⟨i,hi⟩]
   simp only[hi,decide_true,Bool.true_and,BitVec.getLsbD_zero]
   have:=hk i (by omega) hi
   rw[qbn8 h i hi]at this
   cases hb:(BitVec.ofInt 64 b).getLsbD i
   · rfl
   · rw[this hb];rfl
 · intro hk i _ hi hb
   rw[qbn8 h i hi]at hb
   have:=congrArg (fun v=>v.getLsbD i) hk
   simp only[BitVec.getLsbD_and,BitVec.getLsbD_not,qbqi ⟨i,hi⟩,hi,decide_true,Bool.true_and,BitVec.getLsbD_zero,hb]at this
   simpa using this
theorem qbpp (n:Int):qus n=some (u32B n):=by rw[qba3];rfl
theorem qbn9 (n m:Int):qt n m=some (inB n m):=by rw[qba4];rfl
theorem qbro (x:LU):qpp x=some (q6y x):=by rw[qbgl];rfl
theorem qbpq {α:Type}(p:Bool)(a b:α):(bif p then some a else some b)=some (bif p then a else b):=by cases p<;>rfl
theorem u_eq (u:Bool×Int×Int×List UInt8×List UInt8×List UInt8×Int×Int×Int×Int×Int×Int×Int)(v6:Bool)(hi lo:Int)(h m x:LU)(a b c d e f bits:Int):
 (u==(v6,hi,lo,h,m,x,a,b,c,d,e,f,bits))=((v6==u.1)&&((hi==u.2.1)&&((lo==u.2.2.1)&&((h==u.2.2.2.1)&&((m==u.2.2.2.2.1)&&((x==u.2.2.2.2.2.1)&&((a==u.2.2.2.2.2.2.1)&&((b==u.2.2.2.2.2.2.2.1)&&((c==u.2.2.2.2.2.2.2.2.1)&&((d==u.2.2.2.2.2.2.2.2.2.1)&&((e==u.2.2.2.2.2.2.2.2.2.2.1)&&((f==u.2.2.2.2.2.2.2.2.2.2.2.1)&&(bits==u.2.2.2.2.2.2.2.2.2.2.2.2))))))))))))):=by
 show((u.1==v6)&&((u.2.1==hi)&&((u.2.2.1==lo)&&((u.2.2.2.1==h)&&((u.2.2.2.2.1==m)&&((u.2.2.2.2.2.1==x)&&((u.2.2.2.2.2.2.1==a)&&((u.2.2.2.2.2.2.2.1==b)&&((u.2.2.2.2.2.2.2.2.1==c)&&((u.2.2.2.2.2.2.2.2.2.1==d)&&((u.2.2.2.2.2.2.2.2.2.2.1==e)&&((u.2.2.2.2.2.2.2.2.2.2.2.1==f)&&(u.2.2.2.2.2.2.2.2.2.2.2.2==bits)))))))))))))=_
 rw[BEq.comm (a:=u.1),BEq.comm (a:=u.2.1),BEq.comm (a:=u.2.2.1),BEq.comm (a:=u.2.2.2.1),BEq.comm (a:=u.2.2.2.2.1),BEq.comm (a:=u.2.2.2.2.2.1),BEq.comm (a:=u.2.2.2.2.2.2.1),BEq.comm (a:=u.2.2.2.2.2.2.2.1),BEq.comm (a:=u.2.2.2.2.2.2.2.2.1),BEq.comm (a:=u.2.2.2.2.2.2.2.2.2.1),BEq.comm (a:=u.2.2.2.2.2.2.2.2.2.2.1),BEq.comm (a:=u.2.2.2.2.2.2.2.2.2.2.2.1),BEq.comm (a:=u.2.2.2.2.2.2.2.2.2.2.2.2)]
theorem qboa (t:Int)(v6:Bool)(hi lo:Int)(h m x:LU)(a b c d e f bits:Int)(hh:h.length<=9223372036854775807)(hm:m.length<=9223372036854775807)(ub:uok bits):
 qxs t v6 hi lo h m x a b c d e f bits=some (q6z t v6 hi lo h m x a b c d e f bits):=by
 rw[qbdj];unfold qnr q6z
 simp only[q7v,qjh,q4t,qil,q4v,qim,q4x,qin,q4z,qio,qbpo,qbky h hh,qbky m hm,qh8 h hh,qbpp,qbn9,qbro,qbja,qbs1,zos,qbpq,u_eq,qbrn ub]
 have ks:∀z:Int,z∈qs1->qh9 z=true:=by
  intro z hz
  simp only[qs1,List.mem_cons,List.not_mem_nil,or_false]at hz
  rcases hz with rfl|rfl|rfl|rfl|rfl|rfl|rfl|rfl|rfl|rfl|rfl|rfl|rfl|rfl<;>rfl
 by_cases h1:t=1
 · subst h1
   simp only[ks 1 (by decide),qbi]
   rw[zsi,Bool.eq_iff_iff];simp[qep];try grind
 by_cases h2:t=28
 · subst h2
   simp only[ks 28 (by decide),qbi]
   rw[zsi,Bool.eq_iff_iff];simp[qep];try grind
 by_cases h3:t=2
 · subst h3
   simp only[ks 2 (by decide),qbi]
   rw[zsi,Bool.eq_iff_iff];simp[qep];try grind
 by_cases h4:t=5
 · subst h4
   simp only[ks 5 (by decide),qbi]
   rw[zsi,Bool.eq_iff_iff];simp[qep];try grind
 by_cases h5:t=12
 · subst h5
   simp only[ks 12 (by decide),qbi]
   rw[zsi,Bool.eq_iff_iff];simp[qep];try grind
 by_cases h6:t=39
 · subst h6
   simp only[ks 39 (by decide),qbi]
   rw[zsi,Bool.eq_iff_iff];simp[qep];try grind
 by_cases h7:t=6
 · subst h7
   simp only[ks 6 (by decide),qbi]
   rw[zsi,Bool.eq_iff_iff];simp[qep];try grind
 by_cases h8:t=15
 · subst h8
   simp only[ks 15 (by decide),qbi]
   rw[zsi,Bool.eq_iff_iff];simp[qep];try grind
 by_cases h9:t=16
 · subst h9
   simp only[ks 16 (by decide),qbi]
   rw[zsi,Bool.eq_iff_iff];simp[qep];try grind
 by_cases h10:t=33
 · subst h10
   simp only[ks 33 (by decide),qbi]
   rw[zsi,Bool.eq_iff_iff];simp[qep];try grind
 by_cases h11:t=43
 · subst h11
   simp only[ks 43 (by decide),qbi]
   rw[zsi,Bool.eq_iff_iff];simp[qep];try grind
 by_cases h12:t=46
 · subst h12
   simp only[ks 46 (by decide),qbi]
   rw[zsi,Bool.eq_iff_iff];simp[qep];try grind
 by_cases h13:t=47
 · subst h13
   simp only[ks 47 (by decide),qbi]
   rw[zsi,Bool.eq_iff_iff];simp[qep];try grind
 by_cases h14:t=48
 · subst h14
   simp only[ks 48 (by decide),qbi]
   rw[zsi,Bool.eq_iff_iff];simp[qep];try grind
 have hk:qh9 t=false:=by
  rw[qbf6]
  simp[qs1,Ne.symm h1,Ne.symm h2,Ne.symm h3,Ne.symm h4,Ne.symm h5,Ne.symm h6,Ne.symm h7,Ne.symm h8,Ne.symm h9,Ne.symm h10,Ne.symm h11,Ne.symm h12,Ne.symm h13,Ne.symm h14]
 simp[hk,h1,h2,h3,h4,h5,h6,h7,h8,h9,h10,h11,h12,h13,h14]
structure En where
 k:Int
 n:List UInt8
 t:Int
 l:Int
 d:List AV
 r:Int
 s:Int
 u:Int
 v:Int
def En.av (e:En):AV:=.agg [.int .i64 e.k,.str e.n,.int .i64 e.t,.int .i64 e.l,.sl 13 e.d,.int .i64 e.r,.int .i64 e.s,.int .i64 e.u,.int .i64 e.v]
def avL (L:List En):List AV:=L.map En.av
def enOf (y:AV):En:=⟨gI y.cells 0,gS y.cells 1,gI y.cells 2,gI y.cells 3,gL y.cells 4,gI y.cells 5,gI y.cells 6,gI y.cells 7,gI y.cells 8⟩
theorem qba (e:En):enOf e.av=e:=rfl
theorem qeq (e:En):fitC qb e.av.cells=true:=rfl
theorem qbes (e:En):fitV (.st qb) e.av=true:=rfl
theorem qbl (L:List En):(avL L).length=L.length:=by simp[avL]
theorem qbk0:avL []=[]:=rfl
theorem qbjc (e:En)(L:List En):avL (e::L)=e.av::avL L:=rfl
theorem qbk1 (L M:List En):avL (L++M)=avL L++avL M:=by simp[avL]
theorem qev {y:AV}{L:List En}(h:y∈avL L):∃e,e∈L/\y=e.av:=by
 simp only[avL,List.mem_map]at h
 obtain⟨e,h1,h2⟩:=h
 exact⟨e,h1,h2.symm⟩
theorem qjc (L:List En)(i:Nat):(avL L)[i]?=(L[i]?).map En.av:=by simp[avL]
theorem qqk (P:En->Bool)(L:List En):(avL L).filter (fun y=>P (enOf y))=avL (L.filter P):=by
 simp only[avL,List.filter_map]
 rfl
def En.alive (e:En)(now:Int):Bool:=decide (now<e.u)
def En.about (e:En)(n:LU)(t:Int):Bool:=e.n==n&&e.t==t
def En.denies (e:En)(n:LU):Bool:=e.k==2&&e.n==n
def cmpI (a b:Int):Int:=if a<b then-1 else if a>b then 1 else 0
def ordE (a b:En):Int:=if cmpN a.n b.n≠0 then cmpN a.n b.n else cmpI a.t b.t
def qf0 (e:En):Prop:=e.n.length<=9223372036854775807
theorem qru (e:En)(now:Int):qbt e.k e.n e.t e.l e.d e.r e.s e.u e.v now=some (e.alive now):=by rw[q0e];rfl
theorem qz2 (e:En)(n:LU)(t:Int):qc7 e.k e.n e.t e.l e.d e.r e.s e.u e.v n t=some (e.about n t):=by
 rw[q0f];rfl
theorem qvy (e:En)(n:LU):qcv e.k e.n e.t e.l e.d e.r e.s e.u e.v n=some (e.denies n):=by rw[qye];rfl
theorem qbrp (a:Int):qny a=some (a != a):=by rw[q9q];rfl
theorem qbs2 (a b:Int):qpr a b=some (cmpI a b):=by
 rw[q44];unfold qir cmpI
 simp only[qbrp,zos,bne_self_eq_false,zcf]
 by_cases h1:a<b
 · simp[h1]
 · by_cases h2:a>b<;>simp[h1,h2]
theorem qbrq (e x:En)(he:qf0 e)(hx:qf0 x):qxu e.k e.n e.t e.l e.d e.r e.s e.u e.v x.k x.n x.t x.l x.d x.r x.s x.u x.v=some (ordE e x):=by
 rw[qbdq];unfold qnz ordE
 rw[qbmb _ _ he hx,zos,qbs2,zos]
 by_cases h:cmpN e.n x.n=0
 · simp[h]
 · rw[if_pos h,show(cmpN e.n x.n != 0)=true from by simp[h]];rfl
theorem qbs3 (e:En)(now:Int)(n:LU)(t:Int):ap1.ap (.func qq8 [.cptr [.int .i64 now],.cptr [.str n,.int .i64 t]]) [e.av]=some (e.alive now&&e.about n t):=by
 have h:ap1.ap (.func qq8 [.cptr [.int .i64 now],.cptr [.str n,.int .i64 t]]) [e.av]=oB (q8s e.k e.n e.t e.l e.d e.r e.s e.u e.v now n t) some:=by kernel_rfl
 rw[h,qbdl];unfold qnt
 rw[qru,zos,qz2]
 cases e.alive now<;>rfl
theorem qbs4 (e:En)(now:Int)(n:LU)(t:Int):ap1.ap (.func qq9 [.cptr [.int .i64 now],.cptr [.str n,.int .i64 t]]) [e.av]=some (e.alive now&&e.k==0&&e.about n 5):=by
 have h:ap1.ap (.func qq9 [.cptr [.int .i64 now],.cptr [.str n,.int .i64 t]]) [e.av]=oB (q8t e.k e.n e.t e.l e.d e.r e.s e.u e.v now n t) some:=by kernel_rfl
 rw[h,qbdm];unfold qnu
 rw[qru,zos,qz2]
 cases(e.alive now&&e.k==0)<;>rfl
theorem qbs5 (e:En)(now:Int)(n:LU)(t:Int):ap1.ap (.func qra [.cptr [.int .i64 now],.cptr [.str n,.int .i64 t]]) [e.av]=some (e.alive now&&e.denies n):=by
 have h:ap1.ap (.func qra [.cptr [.int .i64 now],.cptr [.str n,.int .i64 t]]) [e.av]=oB (q8u e.k e.n e.t e.l e.d e.r e.s e.u e.v now n t) some:=by kernel_rfl
 rw[h,qbdn];unfold qnv
 rw[qru,zos,qvy]
 cases e.alive now<;>rfl
theorem qbs6 (e:En)(n:LU)(t l:Int)(d:LA):ap0.ap (.func ql9 [.cptr [.str n,.int .i64 t,.int .i64 l,.sl 13 d]]) [e.av]=some (e.about n t||e.denies n):=by
 have h:ap0.ap (.func ql9 [.cptr [.str n,.int .i64 t,.int .i64 l,.sl 13 d]]) [e.av]=oB (q8v e.k e.n e.t e.l e.d e.r e.s e.u e.v n t l d) some:=by kernel_rfl
 rw[h,qbdo];unfold qnw
 rw[qz2,zos,qvy]
 cases e.about n t<;>rfl
theorem qbs7 (e:En)(n:LU)(t l:Int)(d:LA):ap1.ap (.func qq5 [.cptr [.str n,.int .i64 t,.int .i64 l,.sl 13 d]]) [e.av]=some (!e.denies n):=by
 have h:ap1.ap (.func qq5 [.cptr [.str n,.int .i64 t,.int .i64 l,.sl 13 d]]) [e.av]=oB (q8w e.k e.n e.t e.l e.d e.r e.s e.u e.v n t l d) some:=by kernel_rfl
 rw[h,qbdp];unfold qnx
 rw[qvy];rfl
def qcu (x:En):AV:=.func qgx [.cptr [.int .i64 x.k,.str x.n,.int .i64 x.t,.int .i64 x.l,.sl 13 x.d,.int .i64 x.r,.int .i64 x.s,.int .i64 x.u,.int .i64 x.v]]
theorem qbet (e x:En):ap0.ap (qcu x) [e.av]=some (e.about x.n x.t):=by
 have h:ap0.ap (qcu x) [e.av]=oB (q2w e.k e.n e.t e.l e.d e.r e.s e.u e.v x.k x.n x.t x.l x.d x.r x.s x.u x.v) some:=by kernel_rfl
 rw[h,q9o];unfold qk2
 rw[qz2];rfl
theorem qbrr (e x:En):ap1.ap (qcu x) [e.av]=some (e.about x.n x.t):=by
 have h:ap1.ap (qcu x) [e.av]=ap0.ap (qcu x) [e.av]:=by kernel_rfl
 rw[h,qbet]
theorem qbpr (e x:En):ap1.ap (.func qob [.cptr [.fv (qcu x)]]) [e.av]=some (!e.about x.n x.t):=by
 have h:ap1.ap (.func qob [.cptr [.fv (qcu x)]]) [e.av]=oB (q21 e.k e.n e.t e.l e.d e.r e.s e.u e.v (qcu x)) some:=by kernel_rfl
 rw[h,q9u];unfold qk8
 rw[show ap0.ap (qcu x) [.agg [.int .i64 e.k,.str e.n,.int .i64 e.t,.int .i64 e.l,.sl 13 e.d,.int .i64 e.r,.int .i64 e.s,.int .i64 e.u,.int .i64 e.v]]=some (e.about x.n x.t)from qbet e x];rfl
theorem qbps (e x:En)(he:qf0 e)(hx:qf0 x):ap1.ap (.func qoc [.cptr [.int .i64 x.k,.str x.n,.int .i64 x.t,.int .i64 x.l,.sl 13 x.d,.int .i64 x.r,.int .i64 x.s,.int .i64 x.u,.int .i64 x.v]]) [e.av]=some (decide (ordE e x>0)):=by
 have h:ap1.ap (.func qoc [.cptr [.int .i64 x.k,.str x.n,.int .i64 x.t,.int .i64 x.l,.sl 13 x.d,.int .i64 x.r,.int .i64 x.s,.int .i64 x.u,.int .i64 x.v]]) [e.av]=oB (q2x e.k e.n e.t e.l e.d e.r e.s e.u e.v x.k x.n x.t x.l x.d x.r x.s x.u x.v) some:=by kernel_rfl
 rw[h,q9r];unfold qk5
 rw[qbrq e x he hx];rfl
theorem qbpt (e x:En)(now:Int):ap1.ap (.func qod [.cptr [.fv (qcu x)],.cptr [.int .i64 now]]) [e.av]=some (e.about x.n x.t||e.alive now):=by
 have h:ap1.ap (.func qod [.cptr [.fv (qcu x)],.cptr [.int .i64 now]]) [e.av]=oB (q23 e.k e.n e.t e.l e.d e.r e.s e.u e.v (qcu x) now) some:=by kernel_rfl
 rw[h,q9v];unfold qk9
 rw[show ap0.ap (qcu x) [.agg [.int .i64 e.k,.str e.n,.int .i64 e.t,.int .i64 e.l,.sl 13 e.d,.int .i64 e.r,.int .i64 e.s,.int .i64 e.u,.int .i64 e.v]]=some (e.about x.n x.t)from qbet e x,zos,qru]
 cases e.about x.n x.t<;>rfl
def qbob (n:LU)(t:Int):AV:=.func qwt [.cptr [.str n,.int .i64 t]]
def qboc (n:LU)(t:Int):AV:=.func qwu [.cptr [.str n,.int .i64 t]]
def qbod (n:LU)(t:Int):AV:=.func qpv [.cptr [.str n,.int .i64 t]]
theorem qbrs (e:En)(n:LU)(t:Int):ap0.ap (qbob n t) [e.av]=some (e.about n t||e.denies n):=by
 have h:ap0.ap (qbob n t) [e.av]=oB (q45 e.k e.n e.t e.l e.d e.r e.s e.u e.v n t) some:=by kernel_rfl
 rw[h,qbba];unfold qmb
 rw[qz2,zos,qvy]
 cases e.about n t<;>rfl
theorem qbrt (e:En)(n:LU)(t:Int):ap0.ap (qboc n t) [e.av]=some (e.denies n):=by
 have h:ap0.ap (qboc n t) [e.av]=oB (q46 e.k e.n e.t e.l e.d e.r e.s e.u e.v n t) some:=by kernel_rfl
 rw[h,qbbb];unfold qmc
 rw[qvy];rfl
theorem qbk2 (e:En)(n:LU)(t:Int):ap0.ap (qbod n t) [e.av]=some (e.n==n):=by
 have h:ap0.ap (qbod n t) [e.av]=oB (q47 e.k e.n e.t e.l e.d e.r e.s e.u e.v n t) some:=by kernel_rfl
 rw[h,qbbc];rfl
theorem qbru (e:En)(q:AV)(b:Bool)(hq:ap0.ap q [e.av]=some b):ap1.ap (.func qld [.cptr [.fv q]]) [e.av]=some (!b):=by
 have h:ap1.ap (.func qld [.cptr [.fv q]]) [e.av]=oB (q48 e.k e.n e.t e.l e.d e.r e.s e.u e.v q) some:=by kernel_rfl
 rw[h,qbbi];unfold qmd
 rw[show ap0.ap q [.agg [.int .i64 e.k,.str e.n,.int .i64 e.t,.int .i64 e.l,.sl 13 e.d,.int .i64 e.r,.int .i64 e.s,.int .i64 e.u,.int .i64 e.v]]=some b from hq];rfl
theorem qbpu (e:En)(now:Int):ap1.ap (.func qof [.cptr [.int .i64 now]]) [e.av]=some (e.alive now):=by
 have h:ap1.ap (.func qof [.cptr [.int .i64 now]]) [e.av]=oB (q2y e.k e.n e.t e.l e.d e.r e.s e.u e.v now) some:=by kernel_rfl
 rw[h,q9s];unfold qk6
 rw[qru];rfl
theorem qbpv (e:En)(n:LU)(he:qf0 e)(hn:n.length<=9223372036854775807):ap1.ap (.func qoe [.cptr [.str n]]) [e.av]=some (!qf7 e.n n):=by
 have h:ap1.ap (.func qoe [.cptr [.str n]]) [e.av]=oB (q20 e.k e.n e.t e.l e.d e.r e.s e.u e.v n) some:=by kernel_rfl
 rw[h,q9t];unfold qk7
 rw[qbkx _ _ he hn];rfl
theorem qbka (e:En)(q:AV)(now rank:Int)(b:Bool)(hq:ap0.ap q [e.av]=some b):ap1.ap (.func qkq [.cptr [.fv q],.cptr [.int .i64 now],.cptr [.int .i64 rank]]) [e.av]=some (b&&e.alive now&&decide (e.r>rank)):=by
 have h:ap1.ap (.func qkq [.cptr [.fv q],.cptr [.int .i64 now],.cptr [.int .i64 rank]]) [e.av]=oB (quy e.k e.n e.t e.l e.d e.r e.s e.u e.v q now rank) some:=by kernel_rfl
 rw[h,q3n];unfold qhn
 rw[show ap0.ap q [.agg [.int .i64 e.k,.str e.n,.int .i64 e.t,.int .i64 e.l,.sl 13 e.d,.int .i64 e.r,.int .i64 e.s,.int .i64 e.u,.int .i64 e.v]]=some b from hq,zos,qru]
 cases b<;>rfl
def fidx (P:En->Bool):Nat->List En->Int
 |_,[]=> -1
 |i,e::L=>bif P e then(i:Int)else fidx P (i+1) L
theorem qz3 (L:List En)(hL:L.length<=1000000)(q:AV)(P:En->Bool)(h:∀e,e∈L->ap1.ap q [e.av]=some (P e)):qbc (avL L) q=some (avL (L.filter P)):=by
 have hlen:=qbl L
 rw[qty];unfold qeb
 have key:=qcn (avL L) (by omega) (fun n i s=>qbs q (avL L) ((avL L).length:Int) (fun a0=>bif hd a0 a0.length then some a0 else none) n i s)
  (fun i s nx=>qca q (avL L) ((avL L).length:Int) i s nx (fun a0=>bif hd a0 a0.length then some a0 else none)) (fun _ _ _=>rfl) (fun i s=>s.length<=i) (fun r s=>some (s++r.filter fun y=>P (enOf y)))
  (fun s nx _=>by simp[qca])
  (fun i y r s nx h1 h2 h3 h4 h5 h6=>by
   obtain⟨e,he,rfl⟩:=qev (zmg h2)
   have h7:(i:Int)<((avL L).length:Int):=by omega
   unfold qca
   simp only[h7,decide_true,zct,zin,h2,zos,qeq e]
   rw[show ap1.ap q [.agg [.int .i64 (gI e.av.cells 0),.str (gS e.av.cells 1),.int .i64 (gI e.av.cells 2),.int .i64 (gI e.av.cells 3),.sl 13 (gL e.av.cells 4),.int .i64 (gI e.av.cells 5),.int .i64 (gI e.av.cells 6),.int .i64 (gI e.av.cells 7),.int .i64 (gI e.av.cells 8)]]=some (P e)from h e he,zos,h4]
   have hf:(e.av::r).filter (fun y=>P (enOf y))=if P e then e.av::r.filter (fun y=>P (enOf y))else r.filter (fun y=>P (enOf y)):=by rw[List.filter_cons,qba]
   rw[hf]
   cases hp:P e with
   |true=>
    have hb:(s.length+([e.av]:List AV).length)*96<=140737488355328:=by simp only[List.length_singleton];omega
    have hb':decide ((s.length+([e.av]:List AV).length)*96<=140737488355328)=true:=by simpa using hb
    rw[zct,zhs,zct]
    show(bif hd [e.av] ([e.av].length)then(bif decide ((s.length+([e.av]:List AV).length)*96<=140737488355328)then nx ((i+1:Nat):Int) (s++[e.av])else none)else none)=_
    rw[zhs,zct,hb',zct,h6 _ (by simp;omega)]
    simp
   |false=>
    rw[zcf,h6 _ (by omega)]
    simp)
  [] FU (Nat.le_refl _) (qcb (by omega))
 rw[qq6]
 show qbs q (avL L) ((avL L).length:Int) (fun a0=>bif hd a0 a0.length then some a0 else none) FU 0 []=_
 rw[key,qqk];rfl
theorem qz4 (L:List En)(hL:L.length<=1000000)(q:AV)(P:En->Bool)(h:∀e,e∈L->ap1.ap q [e.av]=some (P e)):qbv (avL L) q=some (fidx P 0 L):=by
 have hlen:=qbl L
 rw[qs6];unfold qd2
 rw[qqn,qbeq (avL L) (by omega) (qb5 q (avL L) ((avL L).length:Int) fun _=>some (-1)) (fun i nx=>qb4 q (avL L) ((avL L).length:Int) i nx fun _=>some (-1)) (fun _ _=>rfl) (fun i r=>some (fidx P i (r.map enOf)))]
 · rw[show(avL L).map enOf=L by simp[avL,Function.comp_def,qba]]
 · intro nx;simp[qb4,fidx]
 · intro i y r nx h1 h2 h3 h4 h5
   obtain⟨e,he,rfl⟩:=qev (zmg h2)
   have h7:(i:Int)<((avL L).length:Int):=by omega
   unfold qb4
   simp only[h7,decide_true,zct,zin,h2,zos,qeq e,List.map_cons,qba,fidx]
   rw[show ap1.ap q [.agg [.int .i64 (gI e.av.cells 0),.str (gS e.av.cells 1),.int .i64 (gI e.av.cells 2),.int .i64 (gI e.av.cells 3),.sl 13 (gL e.av.cells 4),.int .i64 (gI e.av.cells 5),.int .i64 (gI e.av.cells 6),.int .i64 (gI e.av.cells 7),.int .i64 (gI e.av.cells 8)]]=some (P e)from h e he,zos,h4,h5]
   cases P e<;>rfl
def qz5 (e:En):Prop:=e.d.length<=1000000
theorem qbme (e:En)(h:qz5 e):qhp e.k e.n e.t e.l e.d e.r e.s e.u e.v=some e.av:=by
 rw[qbhk];unfold qrz qgw qbcx
 unfold qz5 at h
 have hb:decide (e.d.length*128<=140737488355328)=true:=by simp;omega
 rw[hb];rfl
theorem qboe (most:Int)(l:LA)(L:List En)(hL:L.length<=1000000)(hd0:∀e,e∈L->qz5 e):qbo most l (avL L)=some (.agg [.int .i64 most,.fr true 9 (avL L)]):=by
 have hlen:=qbl L
 rw[q3o];unfold qhq
 have key:=qcn (avL L) (by omega) (fun n i s=>qcr (avL L) ((avL L).length:Int) most l 0 (fun a2=>bif hd a2 a2.length then some (.agg [.int .i64 most,.fr true 9 a2])else none) n i s)
  (fun i s nx=>qdr (avL L) ((avL L).length:Int) i most l 0 s nx (fun a2=>bif hd a2 a2.length then some (.agg [.int .i64 most,.fr true 9 a2])else none)) (fun _ _ _=>rfl) (fun i s=>s.length<=i) (fun r s=>some (.agg [.int .i64 most,.fr true 9 (s++r)]))
  (fun s nx _=>by simp[qdr])
  (fun i y r s nx h1 h2 h3 h4 h5 h6=>by
   obtain⟨e,he,rfl⟩:=qev (zmg h2)
   have h7:(i:Int)<((avL L).length:Int):=by omega
   unfold qdr
   simp only[h7,decide_true,zct,zin,h2,zos,qeq e]
   rw[show qhp (gI e.av.cells 0) (gS e.av.cells 1) (gI e.av.cells 2) (gI e.av.cells 3) (gL e.av.cells 4) (gI e.av.cells 5) (gI e.av.cells 6) (gI e.av.cells 7) (gI e.av.cells 8)=some e.av from qbme e (hd0 e he),zos,h4,zhs,zct]
   have hb':decide ((s.length+([e.av]:List AV).length)*96<=140737488355328)=true:=by simp;omega
   show(bif hd [e.av] ([e.av].length)then(bif decide ((s.length+([e.av]:List AV).length)*96<=140737488355328)then nx ((i+1:Nat):Int) (s++[e.av])else none)else none)=_
   rw[zhs,zct,hb',zct,h6 _ (by simp;omega)]
   simp)
  [] FU (Nat.le_refl _) (qcb (by omega))
 have hb:decide (0<=(0:Int)/\(0:Int)<=((avL L).length:Int)/\((avL L).length:Int)*96<=281474976710656)=true:=by simp;omega
 rw[qxw,hb]
 show qcr (avL L) ((avL L).length:Int) most l 0 (fun a2=>bif hd a2 a2.length then some (.agg [.int .i64 most,.fr true 9 a2])else none) FU 0 []=_
 rw[key];rfl
theorem qbjd (P:En->Bool):∀(L:List En) (i:Nat),decide (fidx P i L>=0)=L.any P
 |[],i=>rfl
 |e::L,i=>by
  unfold fidx
  rw[List.any_cons]
  cases P e
  · exact qbjd P L (i+1)
  · simp<;>omega
def qd1 (L:List En)(rank now:Int)(P:En->Bool):Bool:=L.any fun e=>P e&&e.alive now&&decide (e.r>rank)
theorem qbc6 (most:Int)(L:List En)(hL:L.length<=1000000)(rank now:Int)(q:AV)(P:En->Bool)(h:∀e,e∈L->ap0.ap q [e.av]=some (P e)):qi6 most (avL L) rank now q=some (qd1 L rank now P):=by
 rw[q73];unfold qjk qd1
 rw[qz4 L hL _ (fun e=>P e&&e.alive now&&decide (e.r>rank)) (fun e he=>qbka e q now rank _ (h e he)),zos,qbjd]
def endF (ttl now:Int):Int:=if(4294967295:Int)<i64.wrap (now+ttl)then 4294967295 else i64.wrap (now+ttl)
theorem qbqj (ttl now:Int):qwq ttl now=some (endF ttl now):=by rw[qbhl];rfl
theorem qbof (n:LU)(t ttl:Int)(v6:Bool)(hi lo:Int)(h m x:LU)(a b c d e f bits:Int)(hn:n.length<=9223372036854775807)(hh:h.length<=9223372036854775807)(hm:m.length<=9223372036854775807)(ub:uok bits):
 qxt n t ttl v6 hi lo h m x a b c d e f bits=some (q2n n t ttl v6 hi lo h m x a b c d e f bits):=by
 rw[qbdk];unfold qns q2n
 simp only[qh8 n hn,qbja,qboa _ _ _ _ _ _ _ _ _ _ _ _ _ _ hh hm ub,zos,qbav]
def dFit (y:AV):Prop:=fitC qbb y.cells=true/\(gS y.cells 3).length<=9223372036854775807/\(gS y.cells 4).length<=9223372036854775807/\uok (gI y.cells 12)
def qmu (d:LA):Prop:=∀y,y∈d->dFit y
def q7i (n:LU)(t l:Int)(y:AV):Bool:=q2n n t l (gB y.cells 0) (gI y.cells 1) (gI y.cells 2) (gS y.cells 3) (gS y.cells 4) (gS y.cells 5) (gI y.cells 6) (gI y.cells 7) (gI y.cells 8) (gI y.cells 9) (gI y.cells 10) (gI y.cells 11) (gI y.cells 12)
def qbr (n:LU)(t l:Int)(y:AV):AV:=.agg [.str n,.int .i64 t,.int .i64 l,.bool (gB y.cells 0),.int .u64 (gI y.cells 1),.int .u64 (gI y.cells 2),.str (gS y.cells 3),.str (gS y.cells 4),.str (gS y.cells 5),.int .i64 (gI y.cells 6),.int .i64 (gI y.cells 7),.int .i64 (gI y.cells 8),.int .i64 (gI y.cells 9),.int .i64 (gI y.cells 10),.int .i64 (gI y.cells 11),.int .u64 (gI y.cells 12)]
theorem qbog (n:LU)(t l:Int)(d:LA)(hd1:d.length<=1000000)(hd2:qmu d):qs3 n t l d=some (d.map (qbr n t l)):=by
 rw[q9g];unfold qky
 have key:=qcn d (by omega) (fun k i s=>qdq d (d.length:Int) n t l d (fun a0=>bif hd a0 a0.length then some a0 else none) k i s)
  (fun i s nx=>qfn d (d.length:Int) i n t l d s nx (fun a0=>bif hd a0 a0.length then some a0 else none)) (fun _ _ _=>rfl) (fun i s=>s.length<=i) (fun r s=>some (s++r.map (qbr n t l)))
  (fun s nx _=>by simp[qfn])
  (fun i y r s nx h1 h2 h3 h4 h5 h6=>by
   have h7:(i:Int)<(d.length:Int):=by omega
   unfold qfn
   simp only[h7,decide_true,zct,zin,h2,zos,(hd2 y (zmg h2)).1,h4,zhs]
   have hb':decide ((s.length+([qbr n t l y]:List AV).length)*160<=140737488355328)=true:=by simp;omega
   show(bif hd [qbr n t l y] ([qbr n t l y].length)then(bif decide ((s.length+([qbr n t l y]:List AV).length)*160<=140737488355328)then nx ((i+1:Nat):Int) (s++[qbr n t l y])else none)else none)=_
   rw[zhs,zct,hb',zct,h6 _ (by simp;omega)]
   simp)
  [] FU (Nat.le_refl _) (qcb (by omega))
 rw[q3g]
 show qdq d (d.length:Int) n t l d (fun a0=>bif hd a0 a0.length then some a0 else none) FU 0 []=_
 rw[key];rfl
def ixA (q:AV->Bool):Nat->List AV->Int
 |_,[]=> -1
 |i,y::r=>bif q y then(i:Int)else ixA q (i+1) r
theorem qbje (q:AV->Bool):∀(r:LA) (i:Nat),decide (ixA q i r<0)= !r.any q
 |[],i=>rfl
 |y::r,i=>by
  unfold ixA
  rw[List.any_cons]
  cases q y
  · exact qbje q r (i+1)
  · simp<;>omega
def recB (z:AV):Bool:=q2n (gS z.cells 0) (gI z.cells 1) (gI z.cells 2) (gB z.cells 3) (gI z.cells 4) (gI z.cells 5) (gS z.cells 6) (gS z.cells 7) (gS z.cells 8) (gI z.cells 9) (gI z.cells 10) (gI z.cells 11) (gI z.cells 12) (gI z.cells 13) (gI z.cells 14) (gI z.cells 15)
theorem qbpw (l:LA)(hl:l.length<=1000000)(h:∀z,z∈l->fitC qgv z.cells=true/\(gS z.cells 0).length<=9223372036854775807/\(gS z.cells 6).length<=9223372036854775807/\(gS z.cells 7).length<=9223372036854775807/\uok (gI z.cells 15)):
 qcc l=some (ixA (fun z=> !recB z) 0 l):=by
 rw[qih];unfold qbe
 rw[qha,qbeq l (by omega) (qr l (l.length:Int) fun _=>some (-1)) (fun i nx=>qq l (l.length:Int) i nx fun _=>some (-1)) (fun _ _=>rfl) (fun i r=>some (ixA (fun z=> !recB z) i r))]
 · intro nx;simp[qq,ixA]
 · intro i z r nx h1 h2 h3 h4 h5
   obtain⟨f1,f2,f3,f4,f5⟩:=h z (zmg h2)
   have h7:(i:Int)<(l.length:Int):=by omega
   unfold qq
   simp only[h7,decide_true,zct,zin,h2,zos,f1,ixA]
   rw[q3l];unfold qhl
   rw[qbof _ _ _ _ _ _ _ _ _ _ _ _ _ _ _ _ f2 f3 f4 f5,zos,zos,h4,h5]
   show(bif !recB z then some (i:Int)else some (ixA (fun z=> !recB z) (i+1) r))=_
   cases recB z<;>rfl
def qxj (n:LU)(t l:Int)(d:LA):Bool:= !((decide ((d.length:Int)<1)||decide ((d.length:Int)>64))||l==0)&&d.all (q7i n t l)
theorem qbmf (n:LU)(t l:Int)(d:LA)(hn:n.length<=9223372036854775807)(hd2:qmu d):qq1 n t l d=some (qxj n t l d):=by
 rw[q70];unfold qji qxj
 cases hc:((decide ((d.length:Int)<1)||decide ((d.length:Int)>64))||l==0)with
 |true=>rfl
 |false=>
  have h64:d.length<=64:=by
   simp only[Bool.or_eq_false_iff,decide_eq_false_iff_not]at hc
   omega
  simp only[zcf,Bool.not_false,Bool.true_and]
  rw[qbog n t l d (by omega) hd2,zos,qbpw _ (by simp;omega) (fun z hz=>by
   obtain⟨y,hy,rfl⟩:=List.mem_map.1 hz
   obtain⟨g1,g2,g3,g4⟩:=hd2 y hy
   exact⟨rfl,hn,g2,g3,g4⟩),zos,qbje]
  congr 1
  rw[List.any_map,List.not_any_eq_all_not]
  congr 1
  funext y
  simp only[Function.comp_apply,Bool.not_not]
  rfl
def lsO (b:Option (Nat×Int)):Int:=match b with
 |none=> -1
 |some p=>p.1
def lsB (b:Option (Nat×Int))(v:Int):Bool:=match b with
 |none=>true
 |some p=>decide (v<p.2)
def lstS (S:En->Bool)(b:Option (Nat×Int))(i:Nat)(e:En):Option (Nat×Int):=if(!S e&&lsB b e.v)=true then some (i,e.v)else b
def lstF (S:En->Bool):Option (Nat×Int)->Nat->List En->Option (Nat×Int)
 |b,_,[]=>b
 |b,i,e::r=>lstF S (lstS S b i e) (i+1) r
theorem qxk (S:En->Bool):∀(r:List En) (b:Option (Nat×Int)) (i:Nat),(b.isSome=true\/∃e,e∈r/\S e=false)->(lstF S b i r).isSome=true
 |[],b,i,h=>by
  rcases h with h|⟨e,h,_⟩
  · exact h
  · simp at h
 |e::r,b,i,h=>by
  unfold lstF
  refine qxk S r _ _ ?_
  unfold lstS
  rcases h with h|⟨x,hx,hs⟩
  · left
    split
    · rfl
    · exact h
  · rcases List.mem_cons.1 hx with rfl|hx
    · left
      cases b with
      |none=>simp[hs,lsB]
      |some p=>split<;>rfl
    · exact .inr ⟨x,hx,hs⟩
theorem q2o (S:En->Bool)(L:List En):∀(r:List En) (b:Option (Nat×Int)) (i:Nat),L.drop i=r->(∀p,b=some p->∃e,L[p.1]?=some e/\S e=false/\p.2=e.v)->∀p,lstF S b i r=some p->∃e,L[p.1]?=some e/\S e=false/\p.2=e.v
 |[],b,i,_,hb,p,h=>hb p h
 |e::r,b,i,hd,hb,p,h=>by
  unfold lstF at h
  have hi:L[i]?=some e:=by
   have:=congrArg (·[0]?) hd
   simpa using this
  refine q2o S L r _ (i+1) ?_ ?_ p h
  · have:L.drop (i+1)=(L.drop i).drop 1:=by simp
    rw[this,hd];rfl
  · intro p hp
    unfold lstS at hp
    split at hp
    · rename_i hc
      simp only[Bool.and_eq_true,Bool.not_eq_true']at hc
      cases hp
      exact⟨e,hi,hc.1,rfl⟩
    · exact hb p hp
def evF (most:Int)(S:En->Bool):Nat->List En->List En
 |0,L=>L
 |k+1,L=>if decide ((L.length:Int)>most)&&decide ((L.length:Int)>1)then
  match lstF S none 0 L with
  |some p=>evF most S k (L.eraseIdx p.1)
  |none=>L
  else L
section
variable (x:En)(most now:Int)(l0:LA)
abbrev qj (x:En):En->Bool:=fun e=>e.about x.n x.t
theorem qbrv (L:List En)(hL:L.length<=1000000)(kx:Int->Option AV):qpt (qcu x) ((avL L).length:Int) most l0 now (avL L) kx FU (-1) 0=kx (lsO (lstF (qj x) none 0 L)):=by
 have hlen:=qbl L
 let dec:Int->Option (Nat×Int):=fun a=>if a<0 then none else match L[a.toNat]? with
  |some e=>some (a.toNat,e.v)
  |none=>none
 let J:Nat->Int->Prop:=fun i a=>a= -1\/∃(k:Nat) (e:En),a=(k:Int)/\L[k]?=some e
 have key:=qcn (avL L) (by omega) (fun n i s=>qf5 (qcu x) ((avL L).length:Int) most l0 now (avL L) kx n s i)
  (fun i s nx=>qf4 (qcu x) s ((avL L).length:Int) i most l0 now (avL L) (fun a b=>nx b a) kx) (fun _ _ _=>rfl) J (fun r s=>kx (lsO (lstF (qj x) (dec s) ((avL L).length-r.length) (r.map enOf))))
  (fun s nx hJ=>by
   have hs:lsO (dec s)=s:=by
    rcases hJ with rfl|⟨k,e,rfl,he⟩
    · rfl
    · simp only[dec]
      rw[if_neg (by omega)]
      simp[he,lsO]
   simp[qf4,lstF,hs])
  (fun i y r s nx h1 h2 h3 h4 hJ h6=>by
   obtain⟨e,he,rfl⟩:=qev (zmg h2)
   have hle:L[i]?=some e:=by
    rw[qjc]at h2
    obtain⟨e',h8,h9⟩:=zms.1 h2
    rw[h8,show e'=e from by rw[<-qba e',h9,qba]]
   have h7:decide ((i:Int)<((avL L).length:Int))=true:=by simp;omega
   have hrl:(avL L).length-(e.av::r).length=i:=by
    have:=congrArg List.length h1
    simp only[List.length_drop,List.length_cons]at this⊢
    omega
   have hrl2:(avL L).length-r.length=i+1:=by
    simp only[List.length_cons]at hrl
    have:=congrArg List.length h1
    simp only[List.length_drop,List.length_cons]at this
    omega
   have hin:decide (0<=(i:Int)/\(i:Int)<(avL L).length)=true:=by simp;omega
   unfold qf4
   simp only[h7,zct,zhs,hin,Int.toNat_natCast,h2,zos]
   rw[show rdE e.av 0 true 9=some e.av from rfl,zos,qbes,zct]
   simp only[Bool.and_self,zct,h4]
   rw[q5d];unfold qit
   rw[show ap1.ap (qcu x) [.agg [.int .i64 (gI e.av.cells 0),.str (gS e.av.cells 1),.int .i64 (gI e.av.cells 2),.int .i64 (gI e.av.cells 3),.sl 13 (gL e.av.cells 4),.int .i64 (gI e.av.cells 5),.int .i64 (gI e.av.cells 6),.int .i64 (gI e.av.cells 7),.int .i64 (gI e.av.cells 8)]]=some (e.about x.n x.t)from qbrr e x,zos]
   rw[hrl,List.map_cons,qba,lstF]
   have hdi:dec (i:Int)=some (i,e.v):=by
    simp only[dec]
    rw[if_neg (by omega)]
    simp[hle]
   have hgo:∀s',J (i+1) s'->dec s'=lstS (qj x) (dec s) i e->nx ((i+1:Nat):Int) s'=kx (lsO (lstF (qj x) (lstS (qj x) (dec s) i e) (i+1) (r.map enOf))):=fun s' hs' hd'=>by
    rw[h6 s' hs',hrl2,hd']
   have hJi:J (i+1) (i:Int):=.inr ⟨i,e,rfl,hle⟩
   cases hab:e.about x.n x.t with
   |true=>
    simp only[znt,zcf]
    exact hgo s hJ (by simp[lstS,hab,qj])
   |false=>
    simp only[Bool.not_false,zct]
    rcases hJ with rfl|⟨k,e2,rfl,he2⟩
    · simp only[show decide ((-1:Int)<0)=true from rfl,zct]
      exact hgo _ hJi (by rw[hdi];simp[lstS,hab,dec,qj,lsB])
    · have hk0:decide ((k:Int)<0)=false:=by simp
      have hkl:k<L.length:=(zge.1 he2).1
      have hkin:decide (0<=(k:Int)/\(k:Int)<(avL L).length)=true:=by simp;omega
      have hk2:(avL L)[k]?=some e2.av:=by rw[qjc,he2];rfl
      have hdk:dec (k:Int)=some (k,e2.v):=by
       simp only[dec]
       rw[if_neg (by omega)]
       simp[he2]
      simp only[hk0,zcf,hkin,zct,Int.toNat_natCast,hk2,zos]
      rw[show rdE e2.av 8 false 1=some (.int .i64 e2.v)from rfl,zos,show fitV (.one (.i .i64)) (.int .i64 e2.v)=true from rfl,zct]
      simp only[zhs,zct]
      show(bif decide (e.v<e2.v)then nx ((i+1:Nat):Int) (i:Int)else nx ((i+1:Nat):Int) (k:Int))=_
      cases hlt:decide (e.v<e2.v)with
      |true=>
       rw[zct]
       exact hgo _ hJi (by rw[hdi,hdk];simp[lstS,hab,qj,lsB,hlt])
      |false=>
       rw[zcf]
       exact hgo _ (.inr ⟨k,e2,rfl,he2⟩) (by rw[hdk];simp[lstS,hab,qj,lsB,hlt]))
  (-1) FU (.inl rfl) (qcb (by omega))
 rw[q5e]
 have hd1:dec (-1)=none:=rfl
 have hm:(avL L).map enOf=L:=by simp[avL,Function.comp_def,qba]
 rw[hd1,hm,Nat.sub_self]at key
 exact key
theorem qnl {α:Type}:∀(l:List α) (i:Nat),l.take i++l.drop (i+1)=l.eraseIdx i
 |[],i=>by simp
 |a::l,0=>by simp
 |a::l,i+1=>by simp[qnl l i]
def Uniq (L:List En):Prop:=L.Pairwise fun a b=>¬(a.n=b.n/\a.t=b.t)
theorem qs2 {e:En}{n:LU}{t:Int}:e.about n t=true↔e.n=n/\e.t=t:=by simp[En.about]
theorem q2p {L:List En}(hu:Uniq L)(h:1<L.length)(x:En):∃e,e∈L/\qj x e=false:=by
 match L,h with
 |a::b::r,_=>
  have h1:=(List.pairwise_cons.1 hu).1 b (by simp)
  cases ha:qj x a with
  |false=>exact⟨a,by simp,ha⟩
  |true=>
   refine⟨b,by simp,?_⟩
   cases hb:qj x b with
   |false=>rfl
   |true=>
    have ha':=qs2.1 ha
    have hb':=qs2.1 hb
    exact absurd ⟨ha'.1.trans hb'.1.symm,ha'.2.trans hb'.2.symm⟩ h1
theorem qbrw (kx:List AV->Option AV):∀(k:Nat) (L:List En),L.length=k->L.length<=1000000->Uniq L->∀n,k<n->qcj (qcu x) most l0 now kx n (avL L)=kx (avL (evF most (qj x) k L)):=by
 intro k
 induction k with
 |zero=>
  intro L hk hL hu n hn
  obtain⟨n,rfl⟩:∃m,n=m+1:=⟨n-1,by omega⟩
  have:L=[]:=List.eq_nil_of_length_eq_zero hk
  subst this
  show qer (qcu x) most l0 now (avL []) (qcj (qcu x) most l0 now kx n) kx=_
  unfold qer
  simp[qbk0,evF]
 |succ k ih=>
  intro L hk hL hu n hn
  obtain⟨n,rfl⟩:∃m,n=m+1:=⟨n-1,by omega⟩
  have hlen:=qbl L
  show qer (qcu x) most l0 now (avL L) (qcj (qcu x) most l0 now kx n) kx=_
  unfold qer evF
  rw[hlen]
  cases hc:(decide ((L.length:Int)>most)&&decide ((L.length:Int)>1))with
  |false=>rfl
  |true=>
   simp only[zct,if_true]
   have h1:1<L.length:=by
    simp only[Bool.and_eq_true,decide_eq_true_eq]at hc
    omega
   have hsome:=qxk (qj x) L none 0 (.inr (q2p hu h1 x))
   obtain⟨p,hp⟩:=Option.isSome_iff_exists.1 hsome
   obtain⟨e,he,_,_⟩:=q2o (qj x) L L none 0 rfl (fun p h=>by cases h) p hp
   have hpl:p.1<L.length:=(zge.1 he).1
   have hb:(hd (avL L) L.length&&(hd (avL L) L.length&&true))=true:=by rw[<-hlen];simp
   rw[hb,zct,<-hlen,qbrv x most now l0 L hL,hp,hlen]
   have hw:i64.wrap (lsO (some p)+1)=((p.1+1:Nat):Int):=w64 (by simp[lsO];omega) (by simp[lsO];omega)
   have hdel:qz1 (avL L) (lsO (some p)) (i64.wrap (lsO (some p)+1))=some (avL (L.eraseIdx p.1)):=by
    rw[hw]
    unfold qz1
    have hcd:decide (0<=lsO (some p)/\lsO (some p)<((p.1+1:Nat):Int)/\((p.1+1:Nat):Int)<=(avL L).length/\(avL L).length<=9223372036854775807)=true:=by simp[lsO];omega
    rw[hcd]
    show some ((avL L).take p.1++(avL L).drop (p.1+1))=_
    rw[<-qnl L,qbk1]
    simp only[avL,List.map_take,List.map_drop]
   rw[<-hlen,zhs,zct,hdel,zos]
   simp only[hp]
   refine ih _ ?_ ?_ ?_ n (by omega)
   · rw[List.length_eraseIdx_of_lt hpl];omega
   · rw[List.length_eraseIdx_of_lt hpl];omega
   · exact hu.sublist (List.eraseIdx_sublist ..)
def posF (L:List En)(x:En):Nat:=if fidx (fun e=>decide (ordE e x>0)) 0 L<0 then L.length else(fidx (fun e=>decide (ordE e x>0)) 0 L).toNat
theorem q7j (P:En->Bool):∀(L:List En) (i:Nat),fidx P i L= -1\/∃k,k<L.length/\fidx P i L=((i+k:Nat):Int)
 |[],i=>.inl rfl
 |e::L,i=>by
  unfold fidx
  cases P e with
  |true=>exact .inr ⟨0,by simp,by simp⟩
  |false=>
   rw[zcf]
   rcases q7j P L (i+1)with h|⟨k,h1,h2⟩
   · exact .inl h
   · exact .inr ⟨k+1,by simp;omega,by rw[h2];omega⟩
theorem qbrx (L:List En)(x:En):posF L x<=L.length:=by
 unfold posF
 split
 · exact Nat.le_refl _
 · rcases q7j (fun e=>decide (ordE e x>0)) L 0 with h|⟨k,h1,h2⟩
   · rw[h];simp
   · rw[h2];simp;omega
def insF (L:List En)(x:En):List En:=L.take (posF L x)++[x]++L.drop (posF L x)
def qfw (most:Int)(L:List En)(x:En)(now:Int):List En:=
 let l1:=insF (L.filter fun e=> !qj x e) x
 let l2:=if(l1.length:Int)>most then l1.filter (fun e=>qj x e||e.alive now)else l1
 evF most (qj x) l2.length l2
def enOk (e:En):Prop:=qf0 e/\qz5 e
theorem q60 (L:List En)(x:En):(insF L x).Perm (x::L):=by
 unfold insF
 have h:=List.perm_middle (a:=x) (l₁:=L.take (posF L x)) (l₂:=L.drop (posF L x))
 rw[List.take_append_drop]at h
 simpa using h
theorem qbjf (L:List En)(x:En):(insF L x).length=L.length+1:=by rw[(q60 L x).length_eq];rfl
theorem qbaw {L:List En}{x e:En}:e∈insF L x↔e=x\/e∈L:=by rw[(q60 L x).mem_iff];simp
theorem q7k (S:En->Bool):∀(k:Nat) (L:List En),(evF most S k L).Sublist L
 |0,L=>List.Sublist.refl _
 |k+1,L=>by
  unfold evF
  split
  · split
    · exact(q7k S k _).trans (List.eraseIdx_sublist ..)
    · exact List.Sublist.refl _
  · exact List.Sublist.refl _
theorem qbmg {L:List En}{e:En}(h:e∈qfw most L x now):e=x\/e∈L:=by
 unfold qfw at h
 have h1:=(q7k most (qj x) _ _).subset h
 have h2:e∈insF (L.filter fun e=> !qj x e) x:=by
  split at h1
  · exact(List.mem_filter.1 h1).1
  · exact h1
 rcases qbaw.1 h2 with h3|h3
 · exact .inl h3
 · exact .inr (List.mem_filter.1 h3).1
theorem qbjg {L:List En}(hu:Uniq L)(h:∀e,e∈L->qj x e=false):Uniq (insF L x):=by
 refine((q60 L x).pairwise_iff (fun {a b} hab=> ?_)).2 (List.pairwise_cons.2 ⟨fun e he=> ?_,hu⟩)
 · exact fun hc=>hab ⟨hc.1.symm,hc.2.symm⟩
 · intro hc
   have:=h e he
   rw[show qj x e=true from qs2.2 ⟨hc.1.symm,hc.2.symm⟩]at this
   cases this
theorem qbk3 (L:List En)(hL:L.length<=100000)(hu:Uniq L)(hok:∀e,e∈L->enOk e)(hx:enOk x):
 qia most (avL L) x.k x.n x.t x.l x.d x.r x.s x.u x.v now=some (.agg [.int .i64 most,.sl 9 (avL (qfw most L x now))]):=by
 rw[qbdw];unfold qn1
 have hl0:(L.filter fun e=> !qj x e).length<=100000:=Nat.le_trans (List.length_filter_le ..) hL
 have hm0:∀e,e∈L.filter (fun e=> !qj x e)->enOk e/\qj x e=false:=fun e he=>by
  have:=List.mem_filter.1 he
  exact⟨hok e this.1,by simpa using this.2⟩
 have hu0:Uniq (L.filter fun e=> !qj x e):=hu.sublist (List.filter_sublist ..)
 have hk1:=qz3 L (by omega) _ (fun e=> !qj x e) (fun e _=>qbpr e x)
 unfold qcu at hk1
 rw[hk1,zos,zhs,zct]
 unfold qfw
 generalize L.filter (fun e=> !qj x e)=L0 at*
 rw[qz4 L0 (by omega) _ (fun e=>decide (ordE e x>0)) (fun e he=>qbps e x (hm0 e he).1.1 hx.1),zos]
 simp only[zhs,Bool.and_self,zct]
 have hpos:∀kn:Int->Option AV,qq7 x.k x.n x.t x.l x.d x.r x.s x.u x.v (qcu x) (fidx (fun e=>decide (ordE e x>0)) 0 L0) most (avL L) now 0 (avL L0) kn=kn (posF L0 x:Int):=fun kn=>by
  rw[q75];unfold qjl posF
  rw[qbl]
  by_cases h:fidx (fun e=>decide (ordE e x>0)) 0 L0<0
  · simp[h]
  · simp only[h,decide_false,zcf,if_false]
    rw[show((fidx (fun e=>decide (ordE e x>0)) 0 L0).toNat:Int)=fidx (fun e=>decide (ordE e x>0)) 0 L0 from Int.toNat_of_nonneg (by omega)]
 unfold qcu at hpos
 rw[hpos]
 have hple:=qbrx L0 x
 have hlen0:=qbl L0
 have hins:quj 96 (avL L0) (posF L0 x:Int) [x.av]=some (avL (insF L0 x)):=by
  unfold quj
  have hc:decide (0<=(posF L0 x:Int)/\(posF L0 x:Int)<=(avL L0).length/\0<([x.av]:List AV).length/\((avL L0).length+([x.av]:List AV).length)*96<=140737488355328)=true:=by simp;omega
  rw[hc]
  show some ((avL L0).take (posF L0 x)++[x.av]++(avL L0).drop (posF L0 x))=_
  unfold insF
  simp only[avL,List.map_append,List.map_take,List.map_drop,List.map_cons,List.map_nil]
 show(oB (quj 96 (avL L0) (posF L0 x:Int) [x.av]) fun r4=>_)=_
 rw[hins,zos]
 have hl1:(insF L0 x).length<=100001:=by rw[qbjf];omega
 have hm1:∀e,e∈insF L0 x->enOk e:=fun e he=>by
  rcases qbaw.1 he with rfl|h
  · exact hx
  · exact(hm0 e h).1
 have hu1:Uniq (insF L0 x):=qbjg x hu0 (fun e he=>(hm0 e he).2)
 generalize insF L0 x=L1 at*
 have hJ:∀kn:List AV->Option AV,qlb (qcu x) most (avL L) now 0 (avL L1) kn=kn (avL (if(L1.length:Int)>most then L1.filter (fun e=>qj x e||e.alive now)else L1)):=fun kn=>by
  rw[q5b];unfold qis
  rw[qbl]
  by_cases h:(L1.length:Int)>most
  · simp only[h,decide_true,zct,if_true]
    rw[<-qbl L1,zhs,zct,qz3 L1 (by omega) _ (fun e=>qj x e||e.alive now) (fun e _=>qbpt e x now),zos]
  · simp only[h,decide_false,zcf,if_false]
 show qlb (qcu x) most (avL L) now 0 (avL L1) _=_
 rw[hJ]
 have hl2:(if(L1.length:Int)>most then L1.filter (fun e=>qj x e||e.alive now)else L1).length<=100001:=by
  split
  · exact Nat.le_trans (List.length_filter_le ..) hl1
  · exact hl1
 have hm2:∀e,e∈(if(L1.length:Int)>most then L1.filter (fun e=>qj x e||e.alive now)else L1)->enOk e:=fun e he=>by
  split at he
  · exact hm1 e (List.mem_filter.1 he).1
  · exact hm1 e he
 have hu2:Uniq (if(L1.length:Int)>most then L1.filter (fun e=>qj x e||e.alive now)else L1):=by
  split
  · exact hu1.sublist (List.filter_sublist ..)
  · exact hu1
 generalize (if(L1.length:Int)>most then L1.filter (fun e=>qj x e||e.alive now)else L1)=L2 at*
 rw[q5f]
 show qcj (qcu x) most (avL L) 0 _ FU (avL L2)=_
 rw[qbrw x most 0 (avL L) _ L2.length L2 rfl (by omega) hu2 FU (qcb (by omega))]
 have hsub:=q7k most (qj x) L2.length L2
 rw[qboe most (avL L) _ (Nat.le_trans hsub.length_le (by omega)) (fun e he=>(hm2 e (hsub.subset he)).2),zos]
 rfl
end
structure Good (L:List En):Prop where
 len:L.length<=100000
 uq:Uniq L
 ok:∀e,e∈L->enOk e
def qbj (most:Int)(L:List En):AV:=.agg [.int .i64 most,.sl 9 (avL L)]
theorem qz6 (most:Int)(l:LA)(L:List En)(h:Good L):qbo most l (avL L)=some (.agg [.int .i64 most,.fr true 9 (avL L)]):=qboe most l L (by have:=h.len;omega) (fun e he=>(h.ok e he).2)
theorem Good.filter {L:List En}(h:Good L)(P:En->Bool):Good (L.filter P):=
 ⟨Nat.le_trans (List.length_filter_le ..) h.len,h.uq.sublist (List.filter_sublist ..),fun e he=>h.ok e (List.mem_filter.1 he).1⟩
def qrv (L:List En)(n:LU)(t l:Int)(d:LA)(rank now:Int):Bool:=
 ((!qxj n t l d||decide (now<0))||decide (now>4294967295))||qd1 L rank now (fun e=>e.about n t||e.denies n)
def putE (n:LU)(t l:Int)(d:LA)(rank state now:Int):En:=⟨0,n,t,l,d,rank,state,endF l now,now⟩
def PutF (most:Int)(L:List En)(n:LU)(t l:Int)(d:LA)(rank state now:Int):List En:=
 if qrv L n t l d rank now then L else qfw most (L.filter fun e=> !e.denies n) (putE n t l d rank state now) now
theorem qbha (most:Int)(L:List En)(h:Good L)(n:LU)(t l:Int)(d:LA)(rank state now:Int)(hn:n.length<=9223372036854775807)(hd1:d.length<=1000000)(hd2:qmu d):
 qhr most (avL L) n t l d rank state now=some (qbj most (PutF most L n t l d rank state now)):=by
 have hlen:=h.len
 rw[qbhq];unfold qr0 PutF
 have hJ:∀kn:Bool->Option AV,qu0 rank state now n t l d (.func ql9 [.cptr [.str n,.int .i64 t,.int .i64 l,.sl 13 d]]) most (avL L) 0 kn=kn (qrv L n t l d rank now):=fun kn=>by
  rw[qbbk];unfold qme qrv
  rw[qbmf n t l d hn hd2,zos]
  cases hc:((!qxj n t l d||decide (now<0))||decide (now>4294967295))with
  |true=>rfl
  |false=>
   rw[zcf,qbc6 most L (by omega) rank now _ (fun e=>e.about n t||e.denies n) (fun e _=>qbs6 e n t l d),zos]
   rfl
 rw[hJ]
 cases qrv L n t l d rank now with
 |true=>
  rw[zct,qz6 _ _ L h,zos];rfl
 |false=>
  rw[zcf,qz3 L (by omega) _ (fun e=> !e.denies n) (fun e _=>qbs7 e n t l d),zos,qbqj,zos]
  have hg:=h.filter fun e=> !e.denies n
  rw[show qia most (avL (L.filter fun e=> !e.denies n)) 0 n t l d rank state (endF l now) now now=some (qbj most (qfw most (L.filter fun e=> !e.denies n) (putE n t l d rank state now) now))from
   qbk3 (putE n t l d rank state now) most now _ hg.len hg.uq hg.ok ⟨hn,hd1⟩,zos]
  rfl
def qpd (n:LU)(t:Int)(nx:Bool)(ttl now:Int):Bool:=
 ((((!qk n||decide (ttl<1))||decide (ttl>2147483647))||decide (now<0))||decide (now>4294967295))||(!nx&&decide (t<1))
def qkk (n:LU)(t:Int)(nx:Bool)(e:En):Bool:=if nx then e.n==n else e.about n t||e.denies n
def qc8 (n:LU)(nx:Bool)(e:En):Bool:=if nx then e.n==n else e.denies n
def qkd (n:LU)(t:Int)(nx:Bool)(ttl rank state now:Int):En:=⟨if nx then 2 else 1,n,if nx then 0 else t,ttl,[],rank,state,endF ttl now,now⟩
def qxl (most:Int)(L:List En)(n:LU)(t:Int)(nx:Bool)(ttl rank state now:Int):List En:=
 if qpd n t nx ttl now||qd1 L rank now (qkk n t nx)then L else qfw most (L.filter fun e=> !qc8 n nx e) (qkd n t nx ttl rank state now) now
theorem qboh (most:Int)(L:List En)(h:Good L)(n:LU)(t:Int)(nx:Bool)(ttl rank state now:Int)(hn:n.length<=9223372036854775807):
 qpx most (avL L) n t nx ttl rank state now=some (qbj most (qxl most L n t nx ttl rank state now)):=by
 have hlen:=h.len
 rw[qbgv];unfold qpw qxl
 have hJ:∀kn:Bool->Option AV,qs8 nx ttl rank state now most (avL L) n t 0 kn=kn (qpd n t nx ttl now):=fun kn=>by
  rw[q90];unfold qle qpd
  rw[qh8 n hn,zos]
  cases((((!qk n||decide (ttl<1))||decide (ttl>2147483647))||decide (now<0))||decide (now>4294967295))<;>cases nx<;>rfl
 rw[hJ]
 cases qpd n t nx ttl now with
 |true=>
  rw[zct,qz6 _ _ L h,zos];rfl
 |false=>
  rw[zcf,qbqj,zos]
  have fin:∀(q1 q2:AV) (k2 t2:Int),(∀e,e∈L->ap0.ap q1 [e.av]=some (qkk n t nx e))->(∀e,e∈L->ap0.ap q2 [e.av]=some (qc8 n nx e))->k2=(if nx then 2 else 1)->t2=(if nx then 0 else t)->
   (oB (qi6 most (avL L) rank now q1) fun r8=>(bif r8 then(oB (qbo most (avL L) (avL L)) fun r9=>(some (.agg [(.int .i64 (gI r9.cells 0)),(.sl 9 (gL r9.cells 1))])))else(oB (qbc (avL L) (.func qld [(.cptr [(.fv q2)])])) fun r10=>(oB (qia most r10 k2 n t2 ttl [] rank state (endF ttl now) now now) fun r11=>(some (.agg [(.int .i64 (gI r11.cells 0)),(.sl 9 (gL r11.cells 1))]))))))=
   some (qbj most (if qd1 L rank now (qkk n t nx)then L else qfw most (L.filter fun e=> !qc8 n nx e) (qkd n t nx ttl rank state now) now)):=by
   intro q1 q2 k2 t2 h1 h2 hk ht
   subst hk;subst ht
   rw[qbc6 most L (by omega) rank now q1 _ h1,zos]
   cases qd1 L rank now (qkk n t nx)with
   |true=>rw[zct,qz6 _ _ L h,zos];rfl
   |false=>
    rw[zcf,qz3 L (by omega) _ (fun e=> !qc8 n nx e) (fun e he=>qbru e q2 _ (h2 e he)),zos]
    have hg:=h.filter fun e=> !qc8 n nx e
    rw[show qia most (avL (L.filter fun e=> !qc8 n nx e)) (if nx then 2 else 1) n (if nx then 0 else t) ttl [] rank state (endF ttl now) now now=some (qbj most (qfw most (L.filter fun e=> !qc8 n nx e) (qkd n t nx ttl rank state now) now))from
     qbk3 (qkd n t nx ttl rank state now) most now _ hg.len hg.uq hg.ok ⟨hn,by simp[qz5,qkd]⟩,zos]
    rfl
  rw[Bool.false_or,q8b];unfold qjm
  cases nx with
  |true=>exact fin _ _ 2 0 (fun e _=>qbk2 e n t) (fun e _=>qbk2 e n t) rfl rfl
  |false=>exact fin _ _ 1 t (fun e _=>qbrs e n t) (fun e _=>qbrt e n t) rfl rfl
def qql (L:List En)(n:LU)(t now:Int):Int:=
 let a:=fidx (fun e=>e.alive now&&e.about n t) 0 L
 let b:=if a<0 then fidx (fun e=>e.alive now&&e.k==0&&e.about n 5) 0 L else a
 if b<0 then fidx (fun e=>e.alive now&&e.denies n) 0 L else b
def qbqk (u now:Int):Int:=i64.wrap (u-(if 0>now then 0 else now))
def qch (e:En)(now:Int):En:={e with v:=now}
def qbtm (e:En)(now:Int):En:={e with v:=now,l:=qbqk e.u now}
def qbmh:En:=⟨0,[],0,0,[],0,0,0,0⟩
def qfm (L:List En)(n:LU)(t now:Int):Option (Nat×En):=
 if qql L n t now<0 then none else match L[(qql L n t now).toNat]? with
  |some e=>some ((qql L n t now).toNat,e)
  |none=>none
def getL (L:List En)(now:Int):Option (Nat×En)->List En
 |none=>L
 |some p=>L.set p.1 (qch p.2 now)
def getR (now:Int):Option (Nat×En)->En
 |none=>qbmh
 |some p=>qbtm p.2 now
theorem qbjh (L:List En)(n:LU)(t now:Int):qql L n t now= -1\/∃k,k<L.length/\qql L n t now=(k:Int):=by
 have z:∀P,fidx P 0 L= -1\/∃k,k<L.length/\fidx P 0 L=(k:Int):=fun P=>by
  rcases q7j P L 0 with h|⟨k,h1,h2⟩
  · exact .inl h
  · exact .inr ⟨k,h1,by rw[h2];omega⟩
 unfold qql
 simp only
 repeat' split
 all_goals exact z _
theorem qbc7 (most:Int)(L:List En)(h:Good L)(n:LU)(t now:Int):
 qjd most (avL L) n t now=some (qbj most (getL L now (qfm L n t now)),(getR now (qfm L n t now)).av,(qfm L n t now).isSome):=by
 have hlen:=h.len
 have hal:=qbl L
 rw[qbhr];unfold qr2
 rw[qz4 L (by omega) _ (fun e=>e.alive now&&e.about n t) (fun e _=>qbs3 e now n t),zos]
 have e1:∀(a:Int) (kn:Int->Option (AV×AV×Bool)),qpu n t now a most (avL L) 0 0 [] 0 0 0 0 0 0 kn=kn (if a<0 then fidx (fun e=>e.alive now&&e.k==0&&e.about n 5) 0 L else a):=fun a kn=>by
  rw[qbbm];unfold qmf
  by_cases ha:a<0
  · simp only[ha,decide_true,zct,if_true]
    rw[qz4 L (by omega) _ (fun e=>e.alive now&&e.k==0&&e.about n 5) (fun e _=>qbs4 e now n t),zos]
  · simp only[ha,decide_false,zcf,if_false]
 have e2:∀(a:Int) (kn:Int->Option (AV×AV×Bool)),qn2 n t now a most (avL L) 0 0 [] 0 0 0 0 0 0 kn=kn (if a<0 then fidx (fun e=>e.alive now&&e.denies n) 0 L else a):=fun a kn=>by
  rw[q9y];unfold qlc
  by_cases ha:a<0
  · simp only[ha,decide_true,zct,if_true]
    rw[qz4 L (by omega) _ (fun e=>e.alive now&&e.denies n) (fun e _=>qbs5 e now n t),zos]
  · simp only[ha,decide_false,zcf,if_false]
 have e12:∀kn:Int->Option (AV×AV×Bool),qpu n t now (fidx (fun e=>e.alive now&&e.about n t) 0 L) most (avL L) 0 0 [] 0 0 0 0 0 0 (fun v=>qn2 n t now v most (avL L) 0 0 [] 0 0 0 0 0 0 kn)=kn (qql L n t now):=fun kn=>by
  rw[e1,e2];rfl
 rw[e12,qz6 _ _ L h,zos]
 unfold qfm
 rcases qbjh L n t now with hi|⟨k,hk,hi⟩
 · rw[hi]
   simp only[show decide ((-1:Int)<0)=true from rfl,zct,show((-1:Int)<0)=True from by simp,if_true]
   show(bif hd (avL L) ((avL L).length)then _ else _)=_
   rw[zhs,zct];rfl
 · obtain⟨e,he⟩:∃e,L[k]?=some e:=⟨L[k],by simp⟩
   have hav:(avL L)[k]?=some e.av:=by rw[qjc,he];rfl
   have hneg:decide ((k:Int)<0)=false:=by simp
   have hneg':¬((k:Int)<0):=by omega
   have hin:decide (0<=(k:Int)/\(k:Int)<((avL L).length))=true:=by simp;omega
   have hset:(avL L).set k (qch e now).av=avL (L.set k (qch e now)):=by simp[avL,List.map_set]
   have hhd:hd ((avL L).set k (qch e now).av) ((avL L).length)=true:=by
    have:=zhs ((avL L).set k (qch e now).av)
    rwa [List.length_set]at this
   have hgL:gL (AV.agg [AV.int .i64 most,AV.fr true 9 (avL L)]).cells 1=avL L:=rfl
   rw[hi]
   simp only[hneg,zcf,hgL,zhs,zct,hin,Int.toNat_natCast,hav,zos,if_neg hneg',he]
   rw[show Go.Pev.putE e.av 8 1 [.int .i64 now]=some (qch e now).av from rfl,zos]
   simp only[hhd,zct]
   rw[show((avL L).set k (qch e now).av)[k]?=some (qch e now).av from by rw[List.getElem?_set_self (by omega)],zos]
   rw[show rdE (qch e now).av 0 true 9=some (qch e now).av from rfl,zos,qbes,zct]
   rw[show qhp (gI (qch e now).av.cells 0) (gS (qch e now).av.cells 1) (gI (qch e now).av.cells 2) (gI (qch e now).av.cells 3) (gL (qch e now).av.cells 4) (gI (qch e now).av.cells 5) (gI (qch e now).av.cells 6) (gI (qch e now).av.cells 7) (gI (qch e now).av.cells 8)=some (qch e now).av from qbme _ (h.ok e (zmg he)).2,zos,hset]
   rfl
def labN (e:En):Int:=((qf e.n).length:Int)
def nsB (name:LU)(now:Int)(e:En):Bool:= !(((e.k != 0)||(e.t != 2))||(!e.alive now|| !qf7 name e.n))
def clO:Option En->Int
 |none=> -1
 |some e=>labN e
def clF (name:LU)(now:Int):Option En->List En->Option En
 |b,[]=>b
 |b,e::r=>clF name now (if nsB name now e&&decide (labN e>clO b)then some e else b) r
def q7l (now:Int):Option En->AV
 |none=>.agg [.str [],.int .i64 0,.int .i64 0,.sl 13 []]
 |some e=>.agg [.str e.n,.int .i64 e.t,.int .i64 (qbqk e.u now),.sl 13 e.d]
theorem qbf8 (most:Int)(L:List En)(h:Good L)(name:LU)(now:Int)(hn:name.length<=9223372036854775807):
 qkf most (avL L) name now=some (q7l now (clF name now none L),(clF name now none L).isSome):=by
 have hlen:=h.len
 have hal:=qbl L
 rw[q92];unfold qlf
 let kx:Int->Option (AV×Bool):=fun v8q1=>(bif(decide (v8q1<0))then(some ((.agg [(.str ([]:List UInt8)),(.int .i64 (0:Int)),(.int .i64 (0:Int)),(.sl 13 ([]:List AV))]),false))else(oB (ixB (avL L) v8q1) fun y2=>(bif fitC qb y2.cells then(oB (qhp (gI y2.cells 0) (gS y2.cells 1) (gI y2.cells 2) (gI y2.cells 3) (gL y2.cells 4) (gI y2.cells 5) (gI y2.cells 6) (gI y2.cells 7) (gI y2.cells 8)) fun r3=>(some ((.agg [(.str (gS r3.cells 1)),(.int .i64 (gI r3.cells 2)),(.int .i64 (i64.wrap ((gI r3.cells 7)-(if(0:Int)>now then(0:Int)else now)))),(.sl 13 (gL r3.cells 4))]),true)))else none)))
 let dec:Int->Option En:=fun a=>if a<0 then none else L[a.toNat]?
 let J:Nat->Int×Int->Prop:=fun i s=>s.2=clO (dec s.1)/\(s.1= -1\/∃(k:Nat) (e:En),s.1=(k:Int)/\L[k]?=some e)
 have key:=qcn (avL L) (by omega) (fun m i (s:Int×Int)=>qfp name now (avL L) ((avL L).length:Int) most (avL L) [] 0 0 kx m s.1 s.2 i)
  (fun i s nx=>qfo name now s.1 s.2 (avL L) ((avL L).length:Int) i most (avL L) [] 0 0 (fun a b j=>nx j (a,b)) kx) (fun _ _ _=>rfl) J (fun r s=>some (q7l now (clF name now (dec s.1) (r.map enOf)),(clF name now (dec s.1) (r.map enOf)).isSome))
  (fun s nx hJ=>by
   obtain⟨a,b⟩:=s
   have hb:decide (((avL L).length:Int)<((avL L).length:Int))=false:=by simp
   unfold qfo
   simp only[hb,zcf,List.map_nil,clF]
   rcases hJ.2 with hs|⟨k,e,hs,he⟩
   · simp only at hs
     subst hs;rfl
   · simp only at hs
     subst hs
     have hav:(avL L)[k]?=some e.av:=by rw[qjc,he];rfl
     have hk0:decide ((k:Int)<0)=false:=by simp
     have hdk:dec (k:Int)=some e:=by
      simp only[dec]
      rw[if_neg (by omega)]
      simpa using he
     simp only[kx,hk0,zcf,zin,hav,zos,qeq,zct,hdk]
     rw[show qhp (gI e.av.cells 0) (gS e.av.cells 1) (gI e.av.cells 2) (gI e.av.cells 3) (gL e.av.cells 4) (gI e.av.cells 5) (gI e.av.cells 6) (gI e.av.cells 7) (gI e.av.cells 8)=some e.av from qbme e (h.ok e (zmg he)).2,zos]
     rfl)
  (fun i y r s nx h1 h2 h3 h4 hJ h6=>by
   obtain⟨a,b⟩:=s
   obtain⟨e,he,rfl⟩:=qev (zmg h2)
   have hle:L[i]?=some e:=by
    rw[qjc]at h2
    obtain⟨e',h8,h9⟩:=zms.1 h2
    rw[h8,show e'=e from by rw[<-qba e',h9,qba]]
   have h7:decide ((i:Int)<((avL L).length:Int))=true:=by simp;omega
   have hen:=(h.ok e he).1
   unfold qfo
   simp only[h7,zct,zin,h2,zos,qeq,h4,List.map_cons,qba,clF]
   have hJ21:∀kn:Bool->Option (AV×Bool),qm1 name now a b (i:Int) (avL L) ((avL L).length:Int) (i:Int) most (avL L) [] 0 0 (gI e.av.cells 0) (gS e.av.cells 1) (gI e.av.cells 2) (gI e.av.cells 3) (gL e.av.cells 4) (gI e.av.cells 5) (gI e.av.cells 6) (gI e.av.cells 7) (gI e.av.cells 8) kn=kn (!nsB name now e):=fun kn=>by
    rw[q0i]
    show(bif((e.k != 0)||(e.t != 2))then(kn true)else(oB (qbt e.k e.n e.t e.l e.d e.r e.s e.u e.v now) fun r1=>(bif(!r1)then(kn true)else(oB (qna name e.n) fun r2=>(kn (!r2))))))=_
    rw[qru,zos,qbkx _ _ hn hen]
    unfold nsB
    cases((e.k != 0)||(e.t != 2))<;>cases e.alive now<;>simp
   rw[hJ21]
   have hin:J (i+1) ((i:Int),labN e):=by
    have hdi:dec (i:Int)=some e:=by
     simp only[dec]
     rw[if_neg (by omega)]
     simpa using hle
    exact⟨by simp only[hdi];rfl,.inr ⟨i,e,rfl,hle⟩⟩
   have hdi:dec (i:Int)=some e:=by
    simp only[dec]
    rw[if_neg (by omega)]
    simpa using hle
   cases hns:nsB name now e with
   |false=>
    simp only[Bool.not_false,zct,Bool.false_and,Bool.false_eq_true,if_false]
    exact h6 (a,b) ⟨hJ.1,hJ.2⟩
   |true=>
    simp only[znt,zcf,Bool.true_and]
    rw[show qi5 (gS e.av.cells 1)=some (avS (qf e.n))from qbau e.n hen,zos]
    have hll:((avS (qf e.n)).length:Int)=labN e:=by simp[avS,labN]
    rw[hll]
    have hb2:b=clO (dec a):=hJ.1
    cases hlt:decide (labN e>b)with
    |true=>
     rw[zct,<-hb2,hlt,if_pos rfl,<-hdi]
     exact h6 _ hin
    |false=>
     rw[zcf,<-hb2,hlt,if_neg (by simp)]
     exact h6 (a,b) ⟨hJ.1,hJ.2⟩)
  (-1,-1) FU ⟨rfl,.inl rfl⟩ (qcb (by omega))
 rw[q3q]
 have hm:(avL L).map enOf=L:=by simp[avL,Function.comp_def,qba]
 rw[hm]at key
 exact key
def qbc8 (L:List En)(n:LU):List En:=L.filter fun e=> !qf7 e.n n
def qbc9 (L:List En)(now:Int):List En:=L.filter fun e=>e.alive now
theorem qbk4 (most:Int)(L:List En)(h:Good L)(n:LU)(hn:n.length<=9223372036854775807):qib most (avL L) n=some (qbj most (qbc8 L n)):=by
 have hlen:=h.len
 rw[qbdz];unfold qn3
 rw[qz3 L (by omega) _ (fun e=> !qf7 e.n n) (fun e he=>qbpv e n (h.ok e he).1 hn),zos,qz6 _ _ _ (h.filter _),zos]
 rfl
theorem qbk5 (most:Int)(L:List En)(h:Good L)(now:Int):qic most (avL L) now=some (qbj most (qbc9 L now)):=by
 have hlen:=h.len
 rw[qbd0];unfold qn4
 rw[qz3 L (by omega) _ (fun e=>e.alive now) (fun e _=>qbpu e now),zos,qz6 _ _ _ (h.filter _),zos]
 rfl
theorem qbpx {a b:Int}:cmpI a b<0↔a<b:=by
 unfold cmpI
 split
 · simp;assumption
 · split<;>simp<;>omega
theorem qboi (a b:Int):cmpI b a= -cmpI a b:=by
 unfold cmpI
 split<;>split<;>(try split)<;>(try rfl)<;>omega
theorem qboj {a b:Int}:cmpI a b=0↔a=b:=by
 unfold cmpI
 split
 · simp;omega
 · split
   · simp;omega
   · simp;omega
theorem q61 {a b:En}:ordE a b=0↔a.n=b.n/\a.t=b.t:=by
 unfold ordE
 by_cases h:cmpN a.n b.n=0
 · have h':=qpc.1 h
   simp[h,h',qboj,qpc]
 · have h':a.n≠b.n:=fun hc=>h (qpc.2 hc)
   simp[h,h']
theorem qbok (a b:En):ordE b a= -ordE a b:=by
 unfold ordE
 rw[qbn0 a.n b.n,qboi a.t b.t]
 by_cases h:cmpN a.n b.n=0
 · simp[h]
 · rw[if_pos (by omega),if_pos h]
theorem qbji {a b:En}:ordE a b<0↔cmpN a.n b.n<0\/(a.n=b.n/\a.t<b.t):=by
 unfold ordE
 by_cases h:cmpN a.n b.n=0
 · have h':=qpc.1 h
   have h0:cmpN b.n b.n=0:=qpc.2 rfl
   simp[h',h0,qbpx]
 · have h':a.n≠b.n:=fun hc=>h (qpc.2 hc)
   simp[h,h']
theorem qbmi {a b c:En}(h1:ordE a b<0)(h2:ordE b c<0):ordE a c<0:=by
 rw[qbji]at*
 rcases h1 with h1|⟨e1,h1⟩
 · rcases h2 with h2|⟨e2,h2⟩
   · exact .inl (qbma h1 h2)
   · exact .inl (by rw[<-e2];exact h1)
 · rcases h2 with h2|⟨e2,h2⟩
   · exact .inl (by rw[e1];exact h2)
   · exact .inr ⟨e1.trans e2,by omega⟩
def Srt (L:List En):Prop:=L.Pairwise fun a b=>ordE a b<0
theorem Srt.uniq {L:List En}(h:Srt L):Uniq L:=h.imp fun hab hc=>by
 rw[q61.2 hc]at hab
 simp at hab
theorem qbf9 (P:En->Bool):∀(L:List En) (i:Nat),(if fidx P i L<0 then L.length else(fidx P i L).toNat-i)=(L.takeWhile fun e=> !P e).length
 |[],i=>by simp[fidx]
 |e::L,i=>by
  unfold fidx
  rw[List.takeWhile_cons]
  cases hp:P e with
  |true=>simp
  |false=>
   simp only[zcf,Bool.not_false,if_true,List.length_cons]
   have ih:=qbf9 P L (i+1)
   rcases q7j P L (i+1)with h|⟨k,h1,h2⟩
   · rw[h]at ih⊢
     simp at ih⊢
     omega
   · rw[h2]at ih⊢
     rw[if_neg (by omega)]at ih⊢
     omega
theorem q2q {α:Type}(p:α->Bool):∀L:List α,L.take (L.takeWhile p).length=L.takeWhile p/\L.drop (L.takeWhile p).length=L.dropWhile p
 |[]=>by simp
 |a::L=>by
  rw[List.takeWhile_cons,List.dropWhile_cons]
  cases p a
  · simp
  · simp[q2q p L]
theorem q7m (L:List En)(x:En):insF L x=(L.takeWhile fun e=> !decide (ordE e x>0))++[x]++(L.dropWhile fun e=> !decide (ordE e x>0)):=by
 have h:=qbf9 (fun e=>decide (ordE e x>0)) L 0
 have hp:posF L x=(L.takeWhile fun e=> !decide (ordE e x>0)).length:=by
  rw[<-h];unfold posF
  simp
 unfold insF
 rw[hp,(q2q _ L).1,(q2q _ L).2]
theorem q3d {α:Type}(p:α->Bool):∀(L:List α) (a:α),a∈L.takeWhile p->p a=true
 |[],a,h=>by simp at h
 |b::L,a,h=>by
  rw[List.takeWhile_cons]at h
  split at h
  · rcases List.mem_cons.1 h with rfl|h
    · assumption
    · exact q3d p L a h
  · simp at h
theorem qxm {α:Type}(p:α->Bool):∀(L:List α),L.dropWhile p=[]\/∃a r,L.dropWhile p=a::r/\p a=false
 |[]=>.inl rfl
 |b::L=>by
  rw[List.dropWhile_cons]
  cases hp:p b with
  |true=>exact qxm p L
  |false=>exact .inr ⟨b,L,rfl,hp⟩
theorem qbry {L:List En}{x:En}(h:Srt L)(hx:∀e,e∈L->qj x e=false):Srt (insF L x):=by
 have hne:∀e,e∈L->ordE e x≠0:=fun e he hc=>by
  have:=hx e he
  rw[show qj x e=true from qs2.2 (q61.1 hc)]at this
  cases this
 rw[q7m]
 have hsp:(L.takeWhile fun e=> !decide (ordE e x>0))++(L.dropWhile fun e=> !decide (ordE e x>0))=L:=List.takeWhile_append_dropWhile
 have h':Srt ((L.takeWhile fun e=> !decide (ordE e x>0))++(L.dropWhile fun e=> !decide (ordE e x>0))):=by rw[hsp];exact h
 obtain⟨h1,h2,h3⟩:=List.pairwise_append.1 h'
 have hA:∀e,e∈(L.takeWhile fun e=> !decide (ordE e x>0))->ordE e x<0:=fun e he=>by
  have h4:=q3d _ _ _ he
  have h5:=hne e ((List.takeWhile_sublist _).subset he)
  simp at h4
  omega
 have hB:∀e,e∈(L.dropWhile fun e=> !decide (ordE e x>0))->ordE x e<0:=fun e he=>by
  rcases qxm (fun e=> !decide (ordE e x>0)) L with hn|⟨a,r,hd,hp⟩
  · rw[hn]at he;simp at he
  · have hax:ordE x a<0:=by
     rw[qbok a x]
     simp at hp
     omega
    rw[hd]at he h2
    rcases List.mem_cons.1 he with rfl|he
    · exact hax
    · exact qbmi hax ((List.pairwise_cons.1 h2).1 e he)
 rw[List.append_assoc]
 refine List.pairwise_append.2 ⟨h1,?_,?_⟩
 · rw[List.singleton_append]
   exact List.pairwise_cons.2 ⟨hB,h2⟩
 · intro a ha b hb
   rw[List.singleton_append]at hb
   rcases List.mem_cons.1 hb with rfl|hb
   · exact hA a ha
   · exact h3 a ha b hb
theorem qbk6 (most:Int)(x:En):∀(k:Nat) (L:List En),L.length<=k->Uniq L->((evF most (qj x) k L).length:Int)<=max most 1
 |0,L,hk,_=>by
  unfold evF
  omega
 |k+1,L,hk,hu=>by
  unfold evF
  split
  · rename_i hc
    simp only[Bool.and_eq_true,decide_eq_true_eq]at hc
    obtain⟨p,hp⟩:=Option.isSome_iff_exists.1 (qxk (qj x) L none 0 (.inr (q2p hu (by omega) x)))
    obtain⟨e,he,_,_⟩:=q2o (qj x) L L none 0 rfl (fun p h=>by cases h) p hp
    have hpl:p.1<L.length:=(zge.1 he).1
    rw[hp]
    refine qbk6 most x k _ ?_ (hu.sublist (List.eraseIdx_sublist ..))
    rw[List.length_eraseIdx_of_lt hpl]
    omega
  · rename_i hc
    simp only[Bool.and_eq_true,decide_eq_true_eq]at hc
    omega
def q7n (e:En):Prop:=qk e.n=true/\0<=e.k/\e.k<=2/\(e.k=0↔e.d≠[])/\(e.k=2↔e.t=0)/\e.d.length<=64/\qmu e.d
structure Inv (most:Int)(L:List En):Prop where
 len:(L.length:Int)<=most
 srt:Srt L
 nx:∀a b,a∈L->b∈L->a.n=b.n->a.k=2->a=b
 ent:∀e,e∈L->q7n e
theorem q7n.en {e:En}(h:q7n e):enOk e:=by
 obtain⟨h1,_,_,_,_,h6,_⟩:=h
 have:=q2l h1
 exact⟨by unfold qf0;omega,by unfold qz5;omega⟩
theorem Inv.good {most:Int}{L:List En}(h:Inv most L)(hm:most<=256):Good L:=
 ⟨by have:=h.len;omega,h.srt.uniq,fun e he=>(h.ent e he).en⟩
theorem qbeu {most:Int}(h:1<=most):Inv most []:=⟨by simp;omega,List.Pairwise.nil,by simp,by simp⟩
theorem Inv.sub {most:Int}{L M:List En}(h:Inv most L)(hs:M.Sublist L):Inv most M:=
 ⟨by have:=h.len;have:=hs.length_le;omega,h.srt.sublist hs,fun a b ha hb=>h.nx a b (hs.subset ha) (hs.subset hb),fun e he=>h.ent e (hs.subset he)⟩
theorem qbga {most:Int}{L:List En}{x:En}{now:Int}(hm:1<=most)(h:Inv most L)(hx:q7n x)(h1:∀e,e∈L->e.n=x.n->e.k≠2)(h2:x.k=2->∀e,e∈L->e.n≠x.n):Inv most (qfw most L x now):=by
 have hmem:=fun {e:En} (he:e∈qfw most L x now)=>qbmg x most now he
 have h0:Inv most (L.filter fun e=> !qj x e):=h.sub (List.filter_sublist ..)
 have hns:∀e,e∈L.filter (fun e=> !qj x e)->qj x e=false:=fun e he=>by
  have:=(List.mem_filter.1 he).2
  simpa using this
 have hs1:Srt (insF (L.filter fun e=> !qj x e) x):=qbry h0.srt hns
 have hs2:Srt (if((insF (L.filter fun e=> !qj x e) x).length:Int)>most then(insF (L.filter fun e=> !qj x e) x).filter (fun e=>qj x e||e.alive now)else insF (L.filter fun e=> !qj x e) x):=by
  split
  · exact hs1.sublist (List.filter_sublist ..)
  · exact hs1
 refine⟨?_,?_,?_,?_⟩
 · unfold qfw
   have:=qbk6 most x _ _ (Nat.le_refl _) hs2.uniq
   simp only at this⊢
   omega
 · unfold qfw
   exact hs2.sublist (q7k most (qj x) _ _)
 · intro a b ha hb hn hk
   rcases hmem ha with e1|ha2
   · rcases hmem hb with e2|hb2
     · rw[e1,e2]
     · exact absurd (by rw[<-e1];exact hn.symm) (h2 (by rw[<-e1];exact hk) b hb2)
   · rcases hmem hb with e2|hb2
     · exact absurd hk (h1 a ha2 (by rw[hn,e2]))
     · exact h.nx a b ha2 hb2 hn hk
 · intro e he
   rcases hmem he with rfl|he
   · exact hx
   · exact h.ent e he
theorem qbpy {n:LU}{t l:Int}{d:LA}(h:qxj n t l d=true):qk n=true/\t≠0/\d≠[]/\d.length<=64/\0<l/\l<=2147483647:=by
 unfold qxj at h
 simp only[Bool.and_eq_true,Bool.not_eq_true',Bool.or_eq_false_iff,decide_eq_false_iff_not,beq_eq_false_iff_ne]at h
 obtain⟨⟨⟨h1,h2⟩,h3⟩,h4⟩:=h
 obtain⟨y,r,rfl⟩:∃y r,d=y::r:=by
  cases d with
  |nil=>simp at h1
  |cons y r=>exact⟨y,r,rfl⟩
 rw[List.all_cons,Bool.and_eq_true]at h4
 have h5:=h4.1
 unfold q7i q2n at h5
 simp only[Bool.and_eq_true,decide_eq_true_eq]at h5
 obtain⟨h6,⟨⟨h7,h8⟩,h9⟩,_⟩:=h5
 refine⟨h6,fun ht=> ?_,by simp,by omega,by omega,h9⟩
 subst ht
 exact absurd h7 (by decide)
theorem qbev {most:Int}{L:List En}(hm:1<=most)(h:Inv most L)(n:LU)(t l:Int)(d:LA)(rank state now:Int)(hd:qmu d):Inv most (PutF most L n t l d rank state now):=by
 unfold PutF
 split
 · exact h
 · rename_i hr
   have hst:qxj n t l d=true:=by
    unfold qrv at hr
    simp only[Bool.or_eq_true,not_or,Bool.not_eq_true',Bool.not_eq_false']at hr
    simpa using hr.1.1.1
   obtain⟨g1,g2,g3,g4,_⟩:=qbpy hst
   refine qbga hm (h.sub (List.filter_sublist ..)) ⟨g1,by simp[putE],by simp[putE],by simp[putE,g3],by simp[putE,g2],g4,hd⟩ (fun e he hn hk=> ?_) (fun hk=>by simp[putE]at hk)
   have:=(List.mem_filter.1 he).2
   simp[En.denies,hk,show e.n=n from hn]at this
theorem qbjj {most:Int}{L:List En}(hm:1<=most)(h:Inv most L)(n:LU)(t:Int)(nx:Bool)(ttl rank state now:Int):Inv most (qxl most L n t nx ttl rank state now):=by
 unfold qxl
 split
 · exact h
 · rename_i hr
   unfold qpd at hr
   simp only[Bool.or_eq_true,not_or,Bool.not_eq_true',Bool.not_eq_false',decide_eq_true_eq]at hr
   have g1:qk n=true:=by simpa using hr.1.1.1.1.1.1
   have g2:nx=true\/1<=t:=by
    have:=hr.1.2
    cases nx
    · simp at this;right;omega
    · exact .inl rfl
   refine qbga hm (h.sub (List.filter_sublist ..)) ⟨g1,?_,?_,?_,?_,by simp[qkd],by simp[qkd,qmu]⟩ (fun e he hn hk=> ?_) (fun hk e he hn=> ?_)
   · simp only[qkd];cases nx<;>simp
   · simp only[qkd];cases nx<;>simp
   · simp only[qkd];cases nx<;>simp
   · simp only[qkd]
     rcases g2 with rfl|g2
     · simp
     · cases nx<;>simp;omega
   · have h3:=(List.mem_filter.1 he).2
     have hn':e.n=n:=hn
     cases nx<;>simp[qc8,En.denies,hk,hn']at h3
   · have h3:=(List.mem_filter.1 he).2
     have hn':e.n=n:=hn
     have:nx=true:=by
      cases nx
      · simp[qkd]at hk
      · rfl
     subst this
     simp[qc8,hn']at h3
theorem qbpz {most:Int}{L:List En}(h:Inv most L)(now:Int){k:Nat}{e:En}(he:L[k]?=some e):Inv most (L.set k (qch e now)):=by
 have hkl:=(zge.1 he).1
 have heL:=zmg he
 have hmem:∀a,a∈L.set k (qch e now)->∃b,b∈L/\a.n=b.n/\a.t=b.t/\a.k=b.k/\a.d=b.d:=fun a ha=>by
  rcases List.mem_or_eq_of_mem_set ha with ha|rfl
  · exact⟨a,ha,rfl,rfl,rfl,rfl⟩
  · exact⟨e,heL,rfl,rfl,rfl,rfl⟩
 have hsrt:Srt (L.set k (qch e now)):=by
  unfold Srt
  rw[List.pairwise_iff_getElem]
  intro i j hi hj hij
  rw[List.length_set]at hi hj
  have hs:=List.pairwise_iff_getElem.1 h.srt i j hi hj hij
  have hek:L[k]=e:=by
   rw[List.getElem?_eq_getElem hkl]at he
   exact Option.some.inj he
  have same:∀(i:Nat) (hi:i<L.length),((L.set k (qch e now))[i]'(by rw[List.length_set];exact hi)).n=L[i].n/\((L.set k (qch e now))[i]'(by rw[List.length_set];exact hi)).t=L[i].t:=fun i hi=>by
   rw[List.getElem_set]
   split
   · rename_i hki
     subst hki
     rw[hek];exact⟨rfl,rfl⟩
   · exact⟨rfl,rfl⟩
  rw[qbji]at hs⊢
  rw[(same i hi).1,(same j hj).1,(same i hi).2,(same j hj).2]
  exact hs
 refine⟨by rw[List.length_set];exact h.len,hsrt,?_,?_⟩
 · intro a b ha hb hn hk
   obtain⟨a',ha',e1,e2,e3,_⟩:=hmem a ha
   obtain⟨b',hb',f1,f2,f3,_⟩:=hmem b hb
   have hab:=h.nx a' b' ha' hb' (by rw[<-e1,<-f1,hn]) (by rw[<-e3];exact hk)
   obtain⟨i,hi⟩:=List.getElem?_of_mem ha
   obtain⟨j,hj⟩:=List.getElem?_of_mem hb
   by_cases hij:i=j
   · subst hij;rw[hi]at hj;exact Option.some.inj hj
   · exfalso
     have hu:=hsrt.uniq
     have hil:=(zge.1 hi)
     have hjl:=(zge.1 hj)
     have ht:a.t=b.t:=by rw[e2,f2,hab]
     rcases Nat.lt_or_gt_of_ne hij with hlt|hlt
     · have:=List.pairwise_iff_getElem.1 hu i j hil.1 hjl.1 hlt
       rw[hil.2,hjl.2]at this
       exact this ⟨hn,ht⟩
     · have:=List.pairwise_iff_getElem.1 hu j i hjl.1 hil.1 hlt
       rw[hil.2,hjl.2]at this
       exact this ⟨hn.symm,ht.symm⟩
 · intro a ha
   obtain⟨b,hb,e1,e2,e3,e4⟩:=hmem a ha
   have:=h.ent b hb
   unfold q7n at this⊢
   rw[e1,e2,e3,e4]
   exact this
theorem qbgb {L:List En}{n:LU}{t now:Int}{p:Nat×En}(h:qfm L n t now=some p):L[p.1]?=some p.2:=by
 unfold qfm at h
 split at h
 · cases h
 · split at h
   · rename_i e he
     cases h
     exact he
   · cases h
theorem qbrz {most:Int}{L:List En}(h:Inv most L)(n:LU)(t now:Int):Inv most (getL L now (qfm L n t now)):=by
 cases hg:qfm L n t now with
 |none=>exact h
 |some p=>exact qbpz h now (qbgb hg)
theorem qcq {α β:Type}{o:Option α}{a:α}(h:o=some a){f:α->Option β}{r:Option β}(hf:f a=r):oB o f=r:=by rw[h];exact hf
theorem qbql (m:Int)(h1:1<=m)(h2:m<=256):qos m=some (.agg [.int .i64 m,.nils],0):=by
 rw[q4i];unfold qm8
 have:(decide (m<1)||decide (m>256))=false:=by simp;omega
 rw[this];rfl
theorem qbjk (m:Int)(h:m<1\/m>256):qos m=some (.agg [.int .i64 0,.nils],1):=by
 rw[q4i];unfold qm8
 have:(decide (m<1)||decide (m>256))=true:=by simpa using h
 rw[this];rfl
def aD:AV:=.agg [.bool false,.int .u64 0,.int .u64 1,.str [],.str [],.str [],.int .i64 0,.int .i64 0,.int .i64 0,.int .i64 0,.int .i64 0,.int .i64 0,.int .u64 0]
def hD:AV:=.agg [.bool false,.int .u64 0,.int .u64 0,.str [97,46],.str [],.str [],.int .i64 0,.int .i64 0,.int .i64 0,.int .i64 0,.int .i64 0,.int .i64 0,.int .u64 0]
theorem qbqm (n:LU)(l:Int):qph n l=some (.agg [.str n,.int .i64 1,.int .i64 l,.fr true 13 [aD]]):=by rw[qbax];rfl
theorem qbjl:qmu [aD]:=fun y hy=>by
 rw[List.mem_singleton.1 hy]
 exact⟨rfl,by simp[aD,gS,gC,AV.cells,aS],by simp[aD,gS,gC,AV.cells,aS],by simp[aD,gI,gC,AV.cells,aI,uok]⟩
theorem qbol:qmu [hD]:=fun y hy=>by
 rw[List.mem_singleton.1 hy]
 exact⟨rfl,by simp[hD,gS,gC,AV.cells,aS],by simp[hD,gS,gC,AV.cells,aS],by simp[hD,gI,gC,AV.cells,aI,uok]⟩
def wA:List UInt8:=[97,46,101,120,97,109,112,108,101,46]
def wB:List UInt8:=[98,46]
def wE:List UInt8:=[101,120,97,109,112,108,101,46]
def w1:List En:=PutF 2 [] wA 1 60 [aD] 5 0 100
def w2:List En:=qxl 2 w1 wB 0 true 30 5 0 100
def w3:List En:=PutF 2 w2 wE 2 60 [hD] 5 0 100
theorem i1:Inv 2 w1:=qbev (by omega) (qbeu (by omega)) _ _ _ _ _ _ _ qbjl
theorem i2:Inv 2 w2:=qbjj (by omega) i1 _ _ _ _ _ _ _
theorem i3:Inv 2 w3:=qbev (by omega) i2 _ _ _ _ _ _ _ qbol
theorem qbk7:qmg=some true:=by
 have g0:Good ([]:List En):=(qbeu (most:=2) (by omega)).good (by omega)
 have g1:=i1.good (by omega)
 have g2:=i2.good (by omega)
 have g3:=i3.good (by omega)
 rw[q8c];unfold qjn
 refine qcq (qbql 2 (by omega) (by omega)) ?_
 refine qcq (qbjk 0 (by omega)) ?_
 refine qcq (qbqm _ _) ?_
 refine qcq (qbha 2 [] g0 wA 1 60 [aD] 5 0 100 (by decide) (by decide) qbjl) ?_
 refine qcq (qbc7 2 w1 g1 wA 1 140) ?_
 refine qcq (qbc7 2 w1 g1 wA 1 160) ?_
 rw[qyi];unfold qf9
 rw[qbqm,zos]
 have hput:qhr 2 (avL w1) wA 1 9 [aD] 3 0 100=some (qbj 2 (PutF 2 w1 wA 1 9 [aD] 3 0 100)):=qbha 2 w1 g1 wA 1 9 [aD] 3 0 100 (by decide) (by decide) qbjl
 have fin:(oB (qpx 2 (avL w1) wB 0 true 30 5 0 100) fun r8=>(oB (qjd (gI r8.cells 0) (gL r8.cells 1) wB 2 100) fun r9=>(bif hd [hD] ([hD].length)then(oB (qhr (gI r8.cells 0) (gL r8.cells 1) wE 2 60 [hD] 5 0 100) fun r10=>(oB (qkf (gI r10.cells 0) (gL r10.cells 1) wA 110) fun r11=>(bif(((((r9.2.2&&((gI r9.2.1.cells 0)==(2:Int)))&&(((gL r8.cells 1).length:Int)==(2:Int)))&&r11.2)&&((gS r11.1.cells 0)==wE))&&((gI r11.1.cells 2)==(50:Int)))then(oB (qib (gI r8.cells 0) (gL r8.cells 1) ([46]:List UInt8)) fun r12=>(bif(((gL r12.cells 1).length:Int)==0)then(oB (qic (gI r8.cells 0) (gL r8.cells 1) (130:Int)) fun r13=>(some (((gL r13.cells 1).length:Int)==1)))else(some false)))else(some false))))else none)))=some true:=by
  refine qcq (qboh 2 w1 g1 wB 0 true 30 5 0 100 (by decide)) ?_
  refine qcq (qbc7 2 w2 g2 wB 2 100) ?_
  rw[zhs,zct]
  refine qcq (qbha 2 w2 g2 wE 2 60 [hD] 5 0 100 (by decide) (by decide) qbol) ?_
  refine qcq (qbf8 2 w3 g3 wA 110 (by decide)) ?_
  have e1:(qib 2 (avL w2) [46])=some (qbj 2 (qbc8 w2 [46])):=qbk4 2 w2 g2 [46] (by decide)
  have e2:(qic 2 (avL w2) 130)=some (qbj 2 (qbc9 w2 130)):=qbk5 2 w2 g2 130
  show(bif _ then(oB (qib 2 (avL w2) [46]) fun r12=>(bif(((gL r12.cells 1).length:Int)==0)then(oB (qic 2 (avL w2) 130) fun r13=>(some (((gL r13.cells 1).length:Int)==1)))else(some false)))else some false)=_
  rw[e1,e2]
  kernel_rfl
 show(bif _ then _ else bif _ then _ else bif _ then _ else bif _ then _ else bif _ then _ else bif _ then _ else oB (qhr 2 (avL w1) wA 1 9 [aD] 3 0 100) _)=_
 rw[hput,zos]
 exact(show _=_ by kernel_rfl).trans fin
def qv (x:LU):List UInt8:=x.take 300
theorem qul {α:Type}(x:List α)(k:Nat):cutI x none (some (if(k:Int)<(x.length:Int)then(k:Int)else(x.length:Int)))=some (x.take k):=by
 unfold cutI
 by_cases h:(k:Int)<(x.length:Int)
 · simp[h];omega
 · have h':x.length<=k:=by omega
   simp[h,List.take_of_length_le h']
def qvz (y:AV):AV:=.agg [.bool (gB y.cells 0),.int .u64 (gI y.cells 1),.int .u64 (gI y.cells 2),.str (qv (gS y.cells 3)),.str (qv (gS y.cells 4)),.str (qv (gS y.cells 5)),.int .i64 (gI y.cells 6),.int .i64 (gI y.cells 7),.int .i64 (gI y.cells 8),.int .i64 (gI y.cells 9),.int .i64 (gI y.cells 10),.int .i64 (gI y.cells 11),.int .u64 (gI y.cells 12)]
def qqm (d:LA):List AV:=(d.take 10).map qvz
def dat0 (y:AV):Prop:=fitC qbb y.cells=true/\uok (gI y.cells 12)
theorem qbk8 (n:LU)(t l:Int)(d:LA)(hd1:∀y,y∈d->dat0 y):qmh n t l d=some (.agg [.str (qv n),.int .i64 t,.int .i64 l,.fr true 13 (qqm d)]):=by
 rw[q8d];unfold qjo
 rw[show cutI n none (some (if(300:Int)<(n.length:Int)then(300:Int)else(n.length:Int)))=some (qv n)from qul n 300,zos]
 let kx:List AV->Option AV:=fun a2q2=>(bif hd a2q2 a2q2.length then(some (.agg [(.str (qv n)),(.int .i64 t),(.int .i64 l),(.fr true 13 a2q2)]))else none)
 have key:=qcn (d.take 10) (by simp;omega) (fun m i s=>qc3 (qv n) t l d [] 0 0 kx m i s) (fun i s nx=>qec i (qv n) t l d [] 0 0 s nx kx) (fun _ _ _=>rfl)
  (fun i s=>s.length<=i) (fun r s=>some (.agg [.str (qv n),.int .i64 t,.int .i64 l,.fr true 13 (s++r.map qvz)]))
  (fun s nx _=>by
   have hb:(decide (((d.take 10).length:Int)<(d.length:Int))&&decide (((d.take 10).length:Int)<10))=false:=by simp;omega
   unfold qec
   rw[hb,zcf]
   simp[kx])
  (fun i y r s nx h1 h2 h3 h4 h5 h6=>by
   have hlt:i<d.length/\i<10:=by rw[List.length_take]at h3;omega
   have hb:(decide ((i:Int)<(d.length:Int))&&decide ((i:Int)<10))=true:=by simp;omega
   have hy:d[i]?=some y:=by
    rw[List.getElem?_take]at h2
    simpa[hlt.2]using h2
   have hf:=hd1 y (zmg hy)
   unfold qec
   rw[hb,zct,zin,hy,zos,hf.1,zct]
   rw[show cutI (gS y.cells 3) none (some (if(300:Int)<((gS y.cells 3).length:Int)then(300:Int)else((gS y.cells 3).length:Int)))=some (qv (gS y.cells 3))from qul _ 300,zos,
    show cutI (gS y.cells 4) none (some (if(300:Int)<((gS y.cells 4).length:Int)then(300:Int)else((gS y.cells 4).length:Int)))=some (qv (gS y.cells 4))from qul _ 300,zos,
    show cutI (gS y.cells 5) none (some (if(300:Int)<((gS y.cells 5).length:Int)then(300:Int)else((gS y.cells 5).length:Int)))=some (qv (gS y.cells 5))from qul _ 300,zos]
   rw[zhs,zct]
   have hb':decide ((s.length+([qvz y]:List AV).length)*128<=140737488355328)=true:=by simp;omega
   show(bif hd [qvz y] ([qvz y].length)then(bif decide ((s.length+([qvz y]:List AV).length)*128<=140737488355328)then nx (i64.wrap ((i:Int)+1)) (s++[qvz y])else none)else none)=_
   rw[zhs,zct,hb',zct,h4,h6 _ (by simp;omega)]
   simp)
  [] FU (Nat.le_refl _) (qcb (by simp;omega))
 rw[qyj]
 show qc3 (qv n) t l d [] 0 0 kx FU 0 []=_
 rw[key];rfl
theorem qmv (x:LU):(qv x).length<=300:=by simp[qv];omega
theorem q62 {d:LA}(hd1:∀y,y∈d->dat0 y):qmu (qqm d):=fun y hy=>by
 obtain⟨z,hz,rfl⟩:=List.mem_map.1 hy
 have h:=hd1 z (List.mem_of_mem_take hz)
 exact⟨rfl,Nat.le_trans (qmv _) (by omega),Nat.le_trans (qmv _) (by omega),h.2⟩
theorem qbgc (d:LA):(qqm d).length<=10:=by simp[qqm];omega
def qbda (a:AV):Prop:=fitC qff a.cells=true/\∀y,y∈gL a.cells 4->dat0 y
def qbhb:Ty:=.st [.st [.bool,.int .u64,.int .u64],.str,.str,.str,.int .i64,.int .i64,.int .i64,.int .i64,.int .i64,.int .i64,.int .u64]
def qbqn:Ty:=.st [.str,.int .i64,.int .i64,.sl 13 qbhb]
def qbmj:Ty:=.st [.int .i64,qbqn,.st [.str,.int .i64],.bool,.int .i64,.int .i64,.int .i64]
theorem qbr0 {y:AV}(h1:fitC qbhb.lts y.cells=true)(h2:qbhb.good y.cells 0):dat0 y:=by
 simp only[qbhb,Ty.good.goods,Ty.good,Ty.size,Ty.sizes,Nat.zero_add,Nat.reduceAdd,and_true,true_and]at h2
 exact⟨h1,h2.2.2.2.2.2.2.2.2.2.2⟩
theorem actsFit_of {l:LA}(h:l.length<=9223372036854775807/\∀y,y∈l->fitC qbmj.lts y.cells=true/\qbmj.good y.cells 0):∀a,a∈l->qbda a:=fun a ha=>by
 obtain⟨h1,h2⟩:=h.2 a ha
 simp only[qbmj,qbqn,Ty.good.goods,Ty.good,Ty.size,Ty.sizes,Nat.zero_add,Nat.reduceAdd,and_true,true_and]at h2
 exact⟨h1,fun y hy=>qbr0 (h2.2.1.2.2.2.2 y hy).1 (h2.2.1.2.2.2.2 y hy).2⟩
def runF (most:Int)(L:List En)(a:AV):List En:=
 if gI a.cells 0=0 then PutF most L (qv (gS a.cells 1)) (gI a.cells 2) (gI a.cells 3) (qqm (gL a.cells 4)) (gI a.cells 8) (gI a.cells 9) (gI a.cells 10)
 else if gI a.cells 0=1 then qxl most L (qv (gS a.cells 5)) (gI a.cells 6) (gB a.cells 7) (gI a.cells 3) (gI a.cells 8) (gI a.cells 9) (gI a.cells 10)
 else if gI a.cells 0=2 then getL L (gI a.cells 10) (qfm L (qv (gS a.cells 5)) (gI a.cells 6) (gI a.cells 10))
 else if gI a.cells 0=4 then qbc8 L (qv (gS a.cells 5))
 else if gI a.cells 0=5 then qbc9 L (gI a.cells 10)
 else L
theorem qbr1 {most:Int}{L:List En}(hm:1<=most)(h:Inv most L){a:AV}(ha:qbda a):Inv most (runF most L a):=by
 unfold runF
 repeat' split
 · exact qbev hm h _ _ _ _ _ _ _ (q62 ha.2)
 · exact qbjj hm h _ _ _ _ _ _ _
 · exact qbrz h _ _ _
 · exact h.sub (List.filter_sublist ..)
 · exact h.sub (List.filter_sublist ..)
 · exact h
theorem qbtn (most:Int)(L:List En)(hL:Good L)(a:AV)(ha:qbda a):
 qve most (avL L) (gI a.cells 0) (gS a.cells 1) (gI a.cells 2) (gI a.cells 3) (gL a.cells 4) (gS a.cells 5) (gI a.cells 6) (gB a.cells 7) (gI a.cells 8) (gI a.cells 9) (gI a.cells 10)=some (qbj most (runF most L a)):=by
 have hq:(qv (gS a.cells 5)).length<=9223372036854775807:=Nat.le_trans (qmv _) (by omega)
 have hs:(qv (gS a.cells 1)).length<=9223372036854775807:=Nat.le_trans (qmv _) (by omega)
 rw[qbbv];unfold qmm
 rw[qbk8 _ _ _ _ ha.2,zos,show cutI (gS a.cells 5) none (some (if(300:Int)<((gS a.cells 5).length:Int)then(300:Int)else((gS a.cells 5).length:Int)))=some (qv (gS a.cells 5))from qul _ 300,zos]
 unfold runF
 by_cases k0:gI a.cells 0=0
 · rw[if_pos k0,show(gI a.cells 0==0)=true from by simpa using k0,zct]
   exact qcq (qbha most L hL (qv (gS a.cells 1)) (gI a.cells 2) (gI a.cells 3) (qqm (gL a.cells 4)) _ _ _ hs (Nat.le_trans (qbgc _) (by omega)) (q62 ha.2)) rfl
 rw[if_neg k0,show(gI a.cells 0==0)=false from by simpa using k0,zcf]
 by_cases k1:gI a.cells 0=1
 · rw[if_pos k1,show(gI a.cells 0==1)=true from by simpa using k1,zct]
   exact qcq (qboh most L hL _ _ _ _ _ _ _ hq) rfl
 rw[if_neg k1,show(gI a.cells 0==1)=false from by simpa using k1,zcf]
 by_cases k2:gI a.cells 0=2
 · rw[if_pos k2,show(gI a.cells 0==2)=true from by simpa using k2,zct]
   exact qcq (qbc7 most L hL _ _ _) rfl
 rw[if_neg k2,show(gI a.cells 0==2)=false from by simpa using k2,zcf]
 by_cases k4:gI a.cells 0=4
 · rw[if_pos k4,show(gI a.cells 0==4)=true from by simpa using k4,zct]
   exact qcq (qbk4 most L hL _ hq) rfl
 rw[if_neg k4,show(gI a.cells 0==4)=false from by simpa using k4,zcf]
 by_cases k5:gI a.cells 0=5
 · rw[if_pos k5,show(gI a.cells 0==5)=true from by simpa using k5,zct]
   exact qcq (qbk5 most L hL _) rfl
 rw[if_neg k5,show(gI a.cells 0==5)=false from by simpa using k5,zcf]
 rfl
def q7o (y z:AV):Bool:=((gB y.cells 0)==(gB z.cells 0))&&(((gI y.cells 1)==(gI z.cells 1))&&(((gI y.cells 2)==(gI z.cells 2))&&(((gS y.cells 3)==(gS z.cells 3))&&(((gS y.cells 4)==(gS z.cells 4))&&(((gS y.cells 5)==(gS z.cells 5))&&(((gI y.cells 6)==(gI z.cells 6))&&(((gI y.cells 7)==(gI z.cells 7))&&(((gI y.cells 8)==(gI z.cells 8))&&(((gI y.cells 9)==(gI z.cells 9))&&(((gI y.cells 10)==(gI z.cells 10))&&(((gI y.cells 11)==(gI z.cells 11))&&(((gI y.cells 12)==(gI z.cells 12))&&true))))))))))))
theorem qbmk (y:AV):q7o y y=true:=by simp[q7o]
def qxn:List AV->List AV->Bool
 |y::r,z::s=>q7o y z&&qxn r s
 |_,_=>true
theorem qbdb:∀d,qxn d d=true
 |[]=>rfl
 |y::r=>by simp[qxn,qbmk,qbdb r]
def qbhc (n:LU)(t l:Int)(d:LA)(n':LU)(t' l':Int)(d':LA):Bool:=
 !((((!(n==n'))||(t != t'))||(l != l'))||((d.length:Int) != (d'.length:Int)))&&qxn d d'
theorem q2r (n:LU)(t l:Int)(d:LA):qbhc n t l d n t l d=true:=by simp[qbhc,qbdb]
theorem qbjm (n:LU)(t l:Int)(d:LA)(n':LU)(t' l':Int)(d':LA)(h1:d.length<=1000000)(h2:∀y,y∈d->fitC qbb y.cells=true)(h3:∀y,y∈d'->fitC qbb y.cells=true):
 qhd n t l d n' t' l' d'=some (qbhc n t l d n' t' l' d'):=by
 rw[q9f];unfold qkx qbhc
 cases hc:((((!(n==n'))||(t != t'))||(l != l'))||((d.length:Int) != (d'.length:Int)))with
 |true=>rfl
 |false=>
  have hlen:d.length=d'.length:=by
   simp only[Bool.or_eq_false_iff,bne_eq_false_iff_eq]at hc
   omega
  simp only[zcf,Bool.not_false,Bool.true_and]
  rw[qz7,qbeq d (by omega) (qe7 (d.length:Int) n t l d n' t' l' d' fun _=>some true) (fun i nx=>qe6 (d.length:Int) i n t l d n' t' l' d' nx fun _=>some true) (fun _ _=>rfl) (fun i r=>some (qxn r (d'.drop i)))]
  · rfl
  · intro nx
    simp[qe6,qxn]
  · intro i y r nx g1 g2 g3 g4 g5
    have g6:(i:Int)<(d.length:Int):=by omega
    obtain⟨z,hz⟩:∃z,d'[i]?=some z:=⟨d'[i]'(by omega),by simp⟩
    have hdz:d'.drop i=z::d'.drop (i+1):=by
     rw[List.drop_eq_getElem_cons (by omega)]
     rw[(zge.1 hz).2]
    unfold qe6
    simp only[g6,decide_true,zct,zin,g2,zos,h2 y (zmg g2),hz,h3 z (zmg hz),g4,g5]
    rw[hdz]
    show(bif(!q7o y z)then some false else some (qxn r (d'.drop (i+1))))=some (q7o y z&&qxn r (d'.drop (i+1)))
    cases q7o y z<;>rfl
theorem qbgd (P:En->Bool):∀(L:List En) (i:Nat),fidx P i L= -1\/∃(k:Nat) (e:En),fidx P i L=((i+k:Nat):Int)/\L[k]?=some e/\P e=true
 |[],i=>.inl rfl
 |e::L,i=>by
  unfold fidx
  cases hp:P e with
  |true=>exact .inr ⟨0,e,by simp,rfl,hp⟩
  |false=>
   rw[zcf]
   rcases qbgd P L (i+1)with h|⟨k,x,h1,h2,h3⟩
   · exact .inl h
   · exact .inr ⟨k+1,x,by rw[h1];omega,h2,h3⟩
theorem qbml {L:List En}{n:LU}{t now:Int}{p:Nat×En}(h:qfm L n t now=some p):p.2∈L/\now<p.2.u/\p.2.n=n/\(p.2.t=t\/(p.2.k=0/\p.2.t=5)\/p.2.k=2):=by
 have hmem:=qbgb h
 refine⟨zmg hmem,?_⟩
 have hix:(qql L n t now)=(p.1:Int):=by
  unfold qfm at h
  split at h
  · cases h
  · split at h
    · cases h
      simp only
      omega
    · cases h
 have key:∀P,fidx P 0 L=(p.1:Int)->P p.2=true:=fun P hP=>by
  rcases qbgd P L 0 with h1|⟨k,e,h1,h2,h3⟩
  · rw[h1]at hP;omega
  · have:k=p.1:=by rw[h1]at hP;omega
    rw[this,hmem]at h2
    cases h2
    exact h3
 unfold qql at hix
 simp only at hix
 split at hix
 · split at hix
   · have:=key _ hix
     simp[En.alive,En.denies]at this
     exact⟨this.1,this.2.2,.inr (.inr this.2.1)⟩
   · have:=key _ hix
     simp[En.alive,En.about]at this
     exact⟨this.1.1,this.2.1,.inr (.inl ⟨this.1.2,this.2.2⟩)⟩
 · have:=key _ hix
   simp[En.alive,En.about]at this
   exact⟨this.1,this.2.1,.inl this.2.2⟩
theorem qbom (name:LU)(t:Int):∀(L:List En) (b:Option En) (e:En),clF name t b L=some e->b=some e\/e∈L
 |[],b,e,h=>.inl h
 |x::L,b,e,h=>by
  unfold clF at h
  rcases qbom name t L _ e h with h1|h1
  · split at h1
    · cases h1;exact .inr (by simp)
    · exact .inl h1
  · exact .inr (zmc _ h1)
theorem qbto (m:Int)(h1:1<=m)(h2:m<=256):qpe m=some (.agg [.int .i64 m,.nils],0):=by
 rw[qwf];unfold qiz
 have:(decide (m<1)||decide (m>256))=false:=by simp;omega
 rw[this];rfl
theorem qbp0 (m:Int)(h:m<1\/m>256):qpe m=some (.agg [.int .i64 0,.nils],1):=by
 rw[qwf];unfold qiz
 have:(decide (m<1)||decide (m>256))=true:=by simpa using h
 rw[this];rfl
theorem qbjn (e:En)(rank now:Int):qbm e.k e.n e.t e.l e.d e.r e.s e.u e.v rank now=some (e.alive now&&decide (e.r>rank)):=by rw[q5m];rfl
theorem qbqo (ttl now:Int):qlw ttl now=some (endF ttl now):=by rw[qbbr];rfl
theorem qbew (e x:En)(he:qf0 e)(hx:qf0 x):qdw e.k e.n e.t e.l e.d e.r e.s e.u e.v x.k x.n x.t x.l x.d x.r x.s x.u x.v=some (ordE e x):=by
 rw[q8m];unfold qjy ordE cmpI
 rw[qbmc _ _ he hx,zos]
 by_cases h:cmpN e.n x.n=0
 · rw[h,if_neg (by simp),show((0:Int) != 0)=false from rfl,zcf]
   by_cases h1:e.t<x.t
   · simp[h1]
   · by_cases h2:e.t>x.t<;>simp[h1,h2]
 · rw[if_pos h,show(cmpN e.n x.n != 0)=true from by simp[h]];rfl
theorem q2s (e x:En):qj x e=(ordE e x==0):=by
 rw[Bool.eq_iff_iff,beq_iff_eq,q61]
 exact qs2
theorem app1 (s:LA)(i:Nat)(y:AV)(h1:s.length<=i)(h2:i<1000001):decide ((s.length+([y]:List AV).length)*96<=140737488355328)=true:=by simp;omega
section
variable (L:List En)(hL:L.length<=1000000)
include hL
theorem qbon (most:Int)(n:LU)(nx:Bool):qhe most (avL L) n nx=some (.agg [.int .i64 most,.fr true 9 (avL (L.filter fun e=> !qc8 n nx e))]):=by
 have hlen:=qbl L
 rw[qbaa];unfold qli
 let kx:List AV->Option AV:=fun a2q1=>(bif hd a2q1 a2q1.length then(some (.agg [(.int .i64 most),(.fr true 9 a2q1)]))else none)
 have key:=qcn (avL L) (by omega) (fun k i s=>qdu n nx most (avL L) 0 kx k i s) (fun i s nxt=>qfq n nx i most (avL L) 0 s nxt kx) (fun _ _ _=>rfl) (fun i s=>s.length<=i) (fun r s=>some (.agg [.int .i64 most,.fr true 9 (s++r.filter fun y=> !qc8 n nx (enOf y))]))
  (fun s nxt _=>by simp[qfq,kx])
  (fun i y r s nxt h1 h2 h3 h4 h5 h6=>by
   obtain⟨e,he,rfl⟩:=qev (zmg h2)
   unfold qfq
   rw[show decide ((i:Int)<((avL L).length:Int))=true from by simp;omega,zct,zin,h2,zos,qeq,zct,zhs,Bool.and_self,zct]
   have hJ:∀kn:Bool->Option AV,qm4 n nx (i:Int) most (avL L) 0 s (gI e.av.cells 0) (gS e.av.cells 1) (gI e.av.cells 2) (gI e.av.cells 3) (gL e.av.cells 4) (gI e.av.cells 5) (gI e.av.cells 6) (gI e.av.cells 7) (gI e.av.cells 8) kn=kn (!qc8 n nx e):=fun kn=>by
    rw[q01]
    show(bif(!(e.n==n))then(kn true)else(bif(!nx)then(kn (e.k != (2:Int)))else(kn false)))=_
    unfold qc8 En.denies
    cases(e.n==n)<;>cases nx<;>simp[bne]
   rw[hJ]
   have hf:(e.av::r).filter (fun y=> !qc8 n nx (enOf y))=if(!qc8 n nx e)then e.av::r.filter (fun y=> !qc8 n nx (enOf y))else r.filter (fun y=> !qc8 n nx (enOf y)):=by rw[List.filter_cons,qba]
   rw[hf]
   cases(!qc8 n nx e)with
   |true=>
    rw[zct,zct]
    show(bif hd [e.av] ([e.av].length)then(bif decide ((s.length+([e.av]:List AV).length)*96<=140737488355328)then nxt (i64.wrap ((i:Int)+1)) (s++[e.av])else none)else none)=_
    rw[zhs,zct,app1 s i _ h5 (by omega),zct,h4,h6 _ (by simp;omega)]
    simp
   |false=>
    rw[zcf,h4,h6 _ (by omega)]
    simp)
  [] FU (Nat.le_refl _) (qcb (by omega))
 rw[q30]
 show qdu n nx most (avL L) 0 kx FU 0 []=_
 rw[key,qqk (fun e=> !qc8 n nx e)];rfl
theorem qbr2 (most:Int)(n:LU)(hs:∀e,e∈L->qf0 e)(hn:n.length<=9223372036854775807):qrg most (avL L) n=some (.agg [.int .i64 most,.fr true 9 (avL (qbc8 L n))]):=by
 have hlen:=qbl L
 rw[q8q];unfold qj5
 let kx:List AV->Option AV:=fun a2q1=>(bif hd a2q1 a2q1.length then(some (.agg [(.int .i64 most),(.fr true 9 a2q1)]))else none)
 have key:=qcn (avL L) (by omega) (fun k i s=>qda n most (avL L) 0 kx k i s) (fun i s nxt=>qfb n i most (avL L) 0 s nxt kx) (fun _ _ _=>rfl) (fun i s=>s.length<=i) (fun r s=>some (.agg [.int .i64 most,.fr true 9 (s++r.filter fun y=> !qf7 (enOf y).n n)]))
  (fun s nxt _=>by simp[qfb,kx])
  (fun i y r s nxt h1 h2 h3 h4 h5 h6=>by
   obtain⟨e,he,rfl⟩:=qev (zmg h2)
   unfold qfb
   rw[show decide ((i:Int)<((avL L).length:Int))=true from by simp;omega,zct,zin,h2,zos,qeq,zct,
    show qgt (gS e.av.cells 1) n=some (qf7 e.n n)from qbi8 _ _ (hs e he) hn,zos]
   have hf:(e.av::r).filter (fun y=> !qf7 (enOf y).n n)=if(!qf7 e.n n)then e.av::r.filter (fun y=> !qf7 (enOf y).n n)else r.filter (fun y=> !qf7 (enOf y).n n):=by rw[List.filter_cons,qba]
   rw[hf]
   cases(!qf7 e.n n)with
   |true=>
    rw[zct,zos,qeq,zct,zhs,zct]
    show(bif hd [e.av] ([e.av].length)then(bif decide ((s.length+([e.av]:List AV).length)*96<=140737488355328)then nxt (i64.wrap ((i:Int)+1)) (s++[e.av])else none)else none)=_
    rw[zhs,zct,app1 s i _ h5 (by omega),zct,h4,h6 _ (by simp;omega)]
    simp
   |false=>
    rw[zcf,h4,h6 _ (by omega)]
    simp)
  [] FU (Nat.le_refl _) (qcb (by omega))
 rw[q1h]
 show qda n most (avL L) 0 kx FU 0 []=_
 rw[key,qqk (fun e=> !qf7 e.n n)];rfl
theorem qbr3 (most now:Int):qrh most (avL L) now=some (.agg [.int .i64 most,.fr true 9 (avL (qbc9 L now))]):=by
 have hlen:=qbl L
 rw[q8r];unfold qj6
 let kx:List AV->Option AV:=fun a2q1=>(bif hd a2q1 a2q1.length then(some (.agg [(.int .i64 most),(.fr true 9 a2q1)]))else none)
 have key:=qcn (avL L) (by omega) (fun k i s=>qdb now most (avL L) 0 kx k i s) (fun i s nxt=>qfc now i most (avL L) 0 s nxt kx) (fun _ _ _=>rfl) (fun i s=>s.length<=i) (fun r s=>some (.agg [.int .i64 most,.fr true 9 (s++r.filter fun y=>(enOf y).alive now)]))
  (fun s nxt _=>by simp[qfc,kx])
  (fun i y r s nxt h1 h2 h3 h4 h5 h6=>by
   obtain⟨e,he,rfl⟩:=qev (zmg h2)
   unfold qfc
   rw[show decide ((i:Int)<((avL L).length:Int))=true from by simp;omega,zct,zin,h2,zos,qeq,zct]
   have hf:(e.av::r).filter (fun y=>(enOf y).alive now)=if e.alive now then e.av::r.filter (fun y=>(enOf y).alive now)else r.filter (fun y=>(enOf y).alive now):=by rw[List.filter_cons,qba]
   rw[hf]
   show(bif e.alive now then _ else _)=_
   cases e.alive now with
   |true=>
    rw[zct,zos,qeq,zct,zhs,zct]
    show(bif hd [e.av] ([e.av].length)then(bif decide ((s.length+([e.av]:List AV).length)*96<=140737488355328)then nxt (i64.wrap ((i:Int)+1)) (s++[e.av])else none)else none)=_
    rw[zhs,zct,app1 s i _ h5 (by omega),zct,h4,h6 _ (by simp;omega)]
    simp
   |false=>
    rw[zcf,h4,h6 _ (by omega)]
    simp)
  [] FU (Nat.le_refl _) (qcb (by omega))
 rw[q1i]
 show qdb now most (avL L) 0 kx FU 0 []=_
 rw[key,qqk (fun e=>e.alive now)];rfl
end
def qoa (x:En):Bool->List En->List En
 |d,[]=>if d then[]else[x]
 |d,e::r=>if ordE e x=0 then qoa x d r else if ordE e x>0/\d=false then x::e::qoa x true r else e::qoa x d r
theorem qbge (x:En):∀L:List En,qoa x true L=L.filter fun e=> !qj x e
 |[]=>rfl
 |e::L=>by
  unfold qoa
  rw[List.filter_cons,q2s,qbge x L]
  by_cases h:ordE e x=0
  · simp[h]
  · simp[h]
theorem qbdc (x:En):∀L:List En,qoa x false L=insF (L.filter fun e=> !qj x e) x
 |[]=>by simp[qoa,q7m]
 |e::L=>by
  unfold qoa
  have ih:=qbdc x L
  rw[q7m]at ih
  rw[q7m,List.filter_cons,q2s]
  by_cases h:ordE e x=0
  · simp only[h,if_true]
    rw[ih]
    simp
  · have hb:(!(ordE e x==0))=true:=by simp[h]
    rw[if_neg h,hb,if_pos rfl]
    by_cases hp:ordE e x>0
    · rw[if_pos ⟨hp,rfl⟩,qbge,List.takeWhile_cons,List.dropWhile_cons]
      have:(!decide (ordE e x>0))=false:=by simp[hp]
      rw[this]
      simp
    · rw[if_neg (fun hc=>hp hc.1),ih,List.takeWhile_cons,List.dropWhile_cons]
      have:(!decide (ordE e x>0))=true:=by simp[hp]
      rw[this]
      simp
theorem qboo (L:List En)(hL:L.length<=1000000)(k:Nat)(hk:k<L.length):qjz (avL L) (k:Int)=some (avL (L.eraseIdx k)):=by
 have hlen:=qbl L
 rw[q35];unfold qhz
 have c1:cutI (avL L) none (some (k:Int))=some ((avL L).take k):=by
  unfold cutI
  simp
  omega
 have hw:i64.wrap ((k:Int)+1)=((k+1:Nat):Int):=w64 (by omega) (by omega)
 have c2:cutI (avL L) (some (((k+1:Nat)):Int)) none=some ((avL L).drop (k+1)):=by
  unfold cutI
  have:(0:Int)<=((k+1:Nat):Int)/\((k+1:Nat):Int)<=((avL L).length:Int)/\((avL L).length:Int)<=((avL L).length:Int):=by omega
  simp only[Option.getD_some,Option.getD_none]
  rw[if_pos this]
  simp
 rw[c1,zos,hw,c2,zos]
 have l1:((avL L).take k).length=k:=by simp;omega
 have l2:((avL L).drop (k+1)).length=L.length-(k+1):=by simp[hlen]
 have d1:decide ((([]:List AV).length+((avL L).take k).length)*96<=140737488355328)=true:=by rw[l1];simp;omega
 have d2:decide ((((avL L).take k).length+((avL L).drop (k+1)).length)*96<=140737488355328)=true:=by rw[l1,l2];simp;omega
 rw[d1,zct,zhs,zct,d2,zct,zhs,zct,qnl,<-qnl (avL L),<-qnl L,qbk1]
 simp only[avL,List.map_take,List.map_drop]
section
variable (x:En)(most now:Int)(l0:LA)(hx:qf0 x)
include hx
theorem qbr4 (L:List En)(hL:L.length<=1000000)(hs:∀e,e∈L->qf0 e)(kx:Int->Option AV):ql1 (avL L) most l0 x.k x.n x.t x.l x.d x.r x.s x.u x.v 0 kx FU (-1) 0=kx (lsO (lstF (qj x) none 0 L)):=by
 have hlen:=qbl L
 let dec:Int->Option (Nat×Int):=fun a=>if a<0 then none else match L[a.toNat]? with
  |some e=>some (a.toNat,e.v)
  |none=>none
 let J:Nat->Int->Prop:=fun i a=>a= -1\/∃(k:Nat) (e:En),a=(k:Int)/\L[k]?=some e
 have key:=qcn (avL L) (by omega) (fun n i s=>qej (avL L) most l0 x.k x.n x.t x.l x.d x.r x.s x.u x.v 0 kx n s i)
  (fun i s nx=>qei (avL L) s i most l0 x.k x.n x.t x.l x.d x.r x.s x.u x.v 0 (fun a b=>nx b a) kx) (fun _ _ _=>rfl) J (fun r s=>kx (lsO (lstF (qj x) (dec s) ((avL L).length-r.length) (r.map enOf))))
  (fun s nx hJ=>by
   have hsd:lsO (dec s)=s:=by
    rcases hJ with rfl|⟨k,e,rfl,he⟩
    · rfl
    · simp only[dec]
      rw[if_neg (by omega)]
      simp[he,lsO]
   simp[qei,lstF,hsd])
  (fun i y r s nx h1 h2 h3 h4 hJ h6=>by
   obtain⟨e,he,rfl⟩:=qev (zmg h2)
   have hle:L[i]?=some e:=by
    rw[qjc]at h2
    obtain⟨e',h8,h9⟩:=zms.1 h2
    rw[h8,show e'=e from by rw[<-qba e',h9,qba]]
   have hrl:(avL L).length-(e.av::r).length=i:=by
    have:=congrArg List.length h1
    simp only[List.length_drop,List.length_cons]at this⊢
    omega
   have hrl2:(avL L).length-r.length=i+1:=by
    simp only[List.length_cons]at hrl
    have:=congrArg List.length h1
    simp only[List.length_drop,List.length_cons]at this
    omega
   unfold qei
   rw[show decide ((i:Int)<((avL L).length:Int))=true from by simp;omega,zct]
   rw[qza];unfold qgk
   rw[zin,h2,zos]
   have hdi:dec (i:Int)=some (i,e.v):=by
    simp only[dec]
    rw[if_neg (by omega)]
    simp[hle]
   have hgo:∀s',J (i+1) s'->dec s'=lstS (qj x) (dec s) i e->nx ((i+1:Nat):Int) s'=kx (lsO (lstF (qj x) (lstS (qj x) (dec s) i e) (i+1) (r.map enOf))):=fun s' hs' hd'=>by
    rw[h6 s' hs',hrl2,hd']
   have hJi:J (i+1) (i:Int):=.inr ⟨i,e,rfl,hle⟩
   rw[hrl,List.map_cons,qba,lstF,h4]
   show(oB (qdw e.k e.n e.t e.l e.d e.r e.s e.u e.v x.k x.n x.t x.l x.d x.r x.s x.u x.v) fun r3=>(bif(r3 != 0)then(bif(decide (s<0))then nx ((i+1:Nat):Int) (i:Int)else(oB (some e.av) fun y4=>(bif fitC qby y4.cells then(oB (ixB (avL L) s) fun y5=>(bif fitC qby y5.cells then(bif(decide ((gI y4.cells 8)<(gI y5.cells 8)))then nx ((i+1:Nat):Int) (i:Int)else nx ((i+1:Nat):Int) s)else none))else none)))else nx ((i+1:Nat):Int) s))=_
   rw[qbew e x (hs e he) hx,zos]
   have hab:=q2s e x
   cases hc:(ordE e x==0)with
   |true=>
    rw[hc]at hab
    rw[show(ordE e x != 0)=false from by simp[bne,hc],zcf]
    exact hgo s (by exact hJ) (by unfold lstS;rw[hab];simp)
   |false=>
    rw[hc]at hab
    rw[show(ordE e x != 0)=true from by simp[bne,hc],zct]
    rcases hJ with rfl|⟨k,e2,rfl,he2⟩
    · rw[show decide ((-1:Int)<0)=true from rfl,zct]
      exact hgo _ hJi (by rw[hdi];unfold lstS;rw[hab];simp[dec,lsB])
    · have hk2:(avL L)[k]?=some e2.av:=by rw[qjc,he2];rfl
      have hdk:dec (k:Int)=some (k,e2.v):=by
       simp only[dec]
       rw[if_neg (by omega)]
       simp[he2]
      rw[show decide ((k:Int)<0)=false from by simp,zcf,zos,zin,hk2,zos]
      show(bif decide (e.v<e2.v)then nx ((i+1:Nat):Int) (i:Int)else nx ((i+1:Nat):Int) (k:Int))=_
      cases hlt:decide (e.v<e2.v)with
      |true=>
       rw[zct]
       exact hgo _ hJi (by rw[hdi,hdk];unfold lstS;rw[hab];simp[lsB,hlt])
      |false=>
       rw[zcf]
       exact hgo _ (.inr ⟨k,e2,rfl,he2⟩) (by rw[hdk];unfold lstS;rw[hab];simp[lsB,hlt]))
  (-1) FU (.inl rfl) (qcb (by omega))
 rw[qzb]
 have hd1:dec (-1)=none:=rfl
 have hm:(avL L).map enOf=L:=by simp[avL,Function.comp_def,qba]
 rw[hd1,hm,Nat.sub_self]at key
 exact key
theorem qbr5 (kx:List AV->Option AV):∀(k:Nat) (L:List En),L.length=k->L.length<=1000000->Uniq L->(∀e,e∈L->qf0 e)->∀n,k<n->qcd most l0 x.k x.n x.t x.l x.d x.r x.s x.u x.v 0 kx n (avL L)=kx (avL (evF most (qj x) k L)):=by
 intro k
 induction k with
 |zero=>
  intro L hk hL hu hs n hn
  obtain⟨n,rfl⟩:∃m,n=m+1:=⟨n-1,by omega⟩
  have:L=[]:=List.eq_nil_of_length_eq_zero hk
  subst this
  show qc5 (avL []) most l0 x.k x.n x.t x.l x.d x.r x.s x.u x.v 0 (qcd most l0 x.k x.n x.t x.l x.d x.r x.s x.u x.v 0 kx n) kx=_
  unfold qc5
  simp[qbk0,evF]
 |succ k ih=>
  intro L hk hL hu hs n hn
  obtain⟨n,rfl⟩:∃m,n=m+1:=⟨n-1,by omega⟩
  have hlen:=qbl L
  show qc5 (avL L) most l0 x.k x.n x.t x.l x.d x.r x.s x.u x.v 0 (qcd most l0 x.k x.n x.t x.l x.d x.r x.s x.u x.v 0 kx n) kx=_
  unfold qc5 evF
  rw[hlen]
  cases hc:(decide ((L.length:Int)>most)&&decide ((L.length:Int)>1))with
  |false=>rfl
  |true=>
   simp only[zct,if_true]
   have h1:1<L.length:=by
    simp only[Bool.and_eq_true,decide_eq_true_eq]at hc
    omega
   obtain⟨p,hp⟩:=Option.isSome_iff_exists.1 (qxk (qj x) L none 0 (.inr (q2p hu h1 x)))
   obtain⟨e,he,_,_⟩:=q2o (qj x) L L none 0 rfl (fun p h=>by cases h) p hp
   have hpl:p.1<L.length:=(zge.1 he).1
   rw[qbr4 x most l0 hx L hL hs,hp]
   show(oB (qjz (avL L) (p.1:Int)) fun r2=>_)=_
   rw[qboo L hL p.1 hpl,zos]
   refine ih _ ?_ ?_ ?_ ?_ n (by omega)
   · rw[List.length_eraseIdx_of_lt hpl];omega
   · rw[List.length_eraseIdx_of_lt hpl];omega
   · exact hu.sublist (List.eraseIdx_sublist ..)
   · exact fun f hf=>hs f ((List.eraseIdx_sublist ..).subset hf)
theorem qbp1 (L:List En)(hL:L.length<=1000000)(hs:∀e,e∈L->qf0 e)(kx:List AV->Option AV):ql0 now most l0 x.k x.n x.t x.l x.d x.r x.s x.u x.v 0 (avL L) kx FU 0 []=kx (avL (L.filter fun e=>qj x e||e.alive now)):=by
 have hlen:=qbl L
 have key:=qcn (avL L) (by omega) (fun k i s=>qc4 now most l0 x.k x.n x.t x.l x.d x.r x.s x.u x.v 0 (avL L) kx k i s) (fun i s nxt=>qeh now i most l0 x.k x.n x.t x.l x.d x.r x.s x.u x.v 0 (avL L) s nxt kx) (fun _ _ _=>rfl) (fun i s=>s.length<=i) (fun r s=>kx (s++r.filter fun y=>qj x (enOf y)||(enOf y).alive now))
  (fun s nxt _=>by simp[qeh])
  (fun i y r s nxt h1 h2 h3 h4 h5 h6=>by
   obtain⟨e,he,rfl⟩:=qev (zmg h2)
   have hin:decide (0<=(i:Int)/\(i:Int)<(avL L).length)=true:=by simp;omega
   unfold qeh
   rw[show decide ((i:Int)<((avL L).length:Int))=true from by simp;omega,zct,zhs,zhs,Bool.and_self,Bool.and_self,zct]
   have hJ:∀kn:Bool->Option AV,qlz now (i:Int) most l0 x.k x.n x.t x.l x.d x.r x.s x.u x.v 0 (avL L) s kn=kn (e.alive now||qj x e):=fun kn=>by
    rw[qy5];unfold qgi
    simp only[zhs,zct,hin,Int.toNat_natCast,h2,zos]
    rw[show rdE e.av 7 false 1=some (.int .i64 e.u)from rfl,zos,show fitV (.one (.i .i64)) (.int .i64 e.u)=true from rfl,zct]
    show(bif e.alive now then kn true else _)=_
    cases e.alive now with
    |true=>rfl
    |false=>
     rw[zcf,show rdE e.av 0 true 9=some e.av from rfl,zos]
     show(oB (qdw e.k e.n e.t e.l e.d e.r e.s e.u e.v x.k x.n x.t x.l x.d x.r x.s x.u x.v) fun r5=>kn (r5==0))=_
     rw[qbew e x (hs e he) hx,zos,q2s];rfl
   rw[hJ]
   have hf:(e.av::r).filter (fun y=>qj x (enOf y)||(enOf y).alive now)=if(e.alive now||qj x e)then e.av::r.filter (fun y=>qj x (enOf y)||(enOf y).alive now)else r.filter (fun y=>qj x (enOf y)||(enOf y).alive now):=by rw[List.filter_cons,qba,Bool.or_comm]
   rw[hf]
   cases(e.alive now||qj x e)with
   |true=>
    simp only[zct,zhs,hin,Int.toNat_natCast,h2,zos]
    rw[show rdE e.av 0 true 9=some e.av from rfl,zos,qbes,zct]
    show(bif hd [e.av] ([e.av].length)then(bif decide ((s.length+([e.av]:List AV).length)*96<=140737488355328)then nxt (i64.wrap ((i:Int)+1)) (s++[e.av])else none)else none)=_
    rw[zhs,zct,app1 s i _ h5 (by omega),zct,h4,h6 _ (by simp;omega)]
    simp
   |false=>
    rw[zcf,h4,h6 _ (by omega)]
    simp)
  [] FU (Nat.le_refl _) (qcb (by omega))
 rw[qy6]
 show qc4 now most l0 x.k x.n x.t x.l x.d x.r x.s x.u x.v 0 (avL L) kx FU 0 []=_
 rw[key,qqk (fun e=>qj x e||e.alive now)];rfl
theorem qbp2 (L:List En)(hL:L.length<=100000)(hs:∀e,e∈L->qf0 e)(kx:Bool->List AV->Option AV)(K:List AV->Option AV)
 (hk:∀(d:Bool) (s:LA),s.length<=200000->kx d s=K (if d then s else s++[x.av])):qlx now most (avL L) x.k x.n x.t x.l x.d x.r x.s x.u x.v 0 kx FU false 0 []=K (avL (qoa x false L)):=by
 have hlen:=qbl L
 have key:=qcn (avL L) (by omega) (fun k i (s:Bool×List AV)=>qeg now most (avL L) x.k x.n x.t x.l x.d x.r x.s x.u x.v 0 kx k s.1 i s.2) (fun i s nxt=>qef now s.1 i most (avL L) x.k x.n x.t x.l x.d x.r x.s x.u x.v 0 s.2 (fun a b c=>nxt b (a,c)) kx) (fun _ _ _=>rfl)
  (fun i s=>s.2.length<=i+1/\(s.1=false->s.2.length<=i)) (fun r s=>K (s.2++avL (qoa x s.1 (r.map enOf))))
  (fun s nxt hJ=>by
   obtain⟨d,s⟩:=s
   unfold qef
   rw[show decide (((avL L).length:Int)<((avL L).length:Int))=false from by simp,zcf,hk d s (by have:=hJ.1;simp only at this;omega)]
   cases d<;>simp[qoa,avL])
  (fun i y r s nxt h1 h2 h3 h4 h5 h6=>by
   obtain⟨d,s⟩:=s
   obtain⟨e,he,rfl⟩:=qev (zmg h2)
   have h5a:=h5.1
   have h5b:=h5.2
   simp only at h5a h5b
   unfold qef
   rw[show decide ((i:Int)<((avL L).length:Int))=true from by simp;omega,zct,zin,h2,zos,qeq,zct,
    show qdw (gI e.av.cells 0) (gS e.av.cells 1) (gI e.av.cells 2) (gI e.av.cells 3) (gL e.av.cells 4) (gI e.av.cells 5) (gI e.av.cells 6) (gI e.av.cells 7) (gI e.av.cells 8) x.k x.n x.t x.l x.d x.r x.s x.u x.v=some (ordE e x)from qbew e x (hs e he) hx,zos,h4]
   rw[List.map_cons,qba]
   unfold qoa
   by_cases hz:ordE e x=0
   · rw[show(ordE e x==0)=true from by simp[hz],zct,if_pos hz]
     exact h6 (d,s) ⟨by show s.length<=i+1+1;omega,fun hd=>by show s.length<=i+1;have:=h5b hd;omega⟩
   · rw[show(ordE e x==0)=false from by simp[hz],zcf,if_neg hz]
     by_cases hp:ordE e x>0/\d=false
     · obtain⟨hp1,rfl⟩:=hp
       rw[show(decide (ordE e x>0)&& !false)=true from by simp[hp1],zct,if_pos ⟨hp1,rfl⟩,zhs,zct]
       have hsl:=h5b rfl
       show(bif hd [x.av] ([x.av].length)then(bif decide ((s.length+([x.av]:List AV).length)*96<=140737488355328)then(bif hd (s++[x.av]) ((s++[x.av]).length)then(bif hd [e.av] ([e.av].length)then(bif decide (((s++[x.av]).length+([e.av]:List AV).length)*96<=140737488355328)then nxt ((i+1:Nat):Int) (true,(s++[x.av])++[e.av])else none)else none)else none)else none)else none)=_
       rw[zhs,zct,app1 s i _ hsl (by omega),zct,zhs,zct,zhs,zct,app1 (s++[x.av]) (i+1) _ (by simp;omega) (by omega),zct,h6 _ ⟨by simp;omega,fun hd=>by cases hd⟩]
       simp[qbjc]
     · rw[show(decide (ordE e x>0)&& !d)=false from by
        cases d
        · simp only[and_true]at hp;simp;omega
        · simp,zcf,if_neg hp,zhs,zct]
       show(bif hd [e.av] ([e.av].length)then(bif decide ((s.length+([e.av]:List AV).length)*96<=140737488355328)then nxt ((i+1:Nat):Int) (d,s++[e.av])else none)else none)=_
       rw[zhs,zct,app1 s (i+1) _ h5a (by omega),zct,h6 _ ⟨by simp;omega,fun hd=>by have:=h5b hd;simp;omega⟩]
       simp[qbjc])
  (false,[]) FU ⟨by simp,by simp⟩ (qcb (by omega))
 rw[qy1]
 rw[show(avL L).map enOf=L by simp[avL,Function.comp_def,qba]]at key
 simpa using key
end
theorem qbk9 (x:En)(most now:Int)(hx:qf0 x)(L:List En)(hL:L.length<=100000)(hu:Uniq L)(hs:∀e,e∈L->qf0 e):
 qdy most (avL L) x.k x.n x.t x.l x.d x.r x.s x.u x.v now=some (qbj most (qfw most L x now)):=by
 rw[q8n];unfold qj0
 have hl1:(insF (L.filter fun e=> !qj x e) x).length<=100001:=by
  rw[qbjf]
  have:=List.length_filter_le (fun e=> !qj x e) L
  omega
 have hm1:∀e,e∈insF (L.filter fun e=> !qj x e) x->qf0 e:=fun e he=>by
  rcases qbaw.1 he with rfl|h
  · exact hx
  · exact hs e (List.mem_filter.1 h).1
 have hu1:Uniq (insF (L.filter fun e=> !qj x e) x):=qbjg x (hu.sublist (List.filter_sublist ..)) (fun e he=>by simpa using(List.mem_filter.1 he).2)
 have hK:∀l1:List En,l1.length<=100001->(∀e,e∈l1->qf0 e)->Uniq l1->
  qfr now most (avL L) x.k x.n x.t x.l x.d x.r x.s x.u x.v 0 (avL l1) (fun a3q4=>(bif hd a3q4 a3q4.length then(qdx most (avL L) x.k x.n x.t x.l x.d x.r x.s x.u x.v 0 (fun v7q5=>(some (.agg [(.int .i64 most),(.sl 9 v7q5)]))) FU a3q4)else none))=
  some (qbj most (let l2:=if(l1.length:Int)>most then l1.filter (fun e=>qj x e||e.alive now)else l1;evF most (qj x) l2.length l2)):=by
  intro l1 hl hm hu
  rw[qy8];unfold qgj
  have fin:∀l2:List En,l2.length<=100001->(∀e,e∈l2->qf0 e)->Uniq l2->(bif hd (avL l2) (avL l2).length then(qdx most (avL L) x.k x.n x.t x.l x.d x.r x.s x.u x.v 0 (fun v7q5=>(some (.agg [(.int .i64 most),(.sl 9 v7q5)]))) FU (avL l2))else none)=some (qbj most (evF most (qj x) l2.length l2)):=fun l2 g1 g2 g3=>by
   rw[zhs,zct,qzc,qbr5 x most (avL L) hx _ l2.length l2 rfl (by omega) g3 g2 FU (qcb (by omega))]
   rfl
  rw[qbl]
  by_cases h:(l1.length:Int)>most
  · simp only[h,decide_true,zct,if_true]
    rw[<-qbl l1,zhs]
    show(bif true&&(true&&true)then _ else _)=_
    rw[show(true&&(true&&true))=true from rfl,zct,qbp1 x most now (avL L) hx l1 (by omega) hm]
    exact fin _ (Nat.le_trans (List.length_filter_le ..) hl) (fun e he=>hm e (List.mem_filter.1 he).1) (hu.sublist (List.filter_sublist ..))
  · simp only[h,decide_false,zcf,if_false]
    exact fin l1 hl hm hu
 have:=qbp2 x most now hx L hL hs
  (fun v8q1 a3q2=>(bif(hd a3q2 (a3q2.length)&&true)then(qly now v8q1 most (avL L) x.k x.n x.t x.l x.d x.r x.s x.u x.v 0 a3q2 (fun a3q3=>(bif(hd a3q3 (a3q3.length)&&true)then(qfr now most (avL L) x.k x.n x.t x.l x.d x.r x.s x.u x.v 0 a3q3 (fun a3q4=>(bif hd a3q4 a3q4.length then(qdx most (avL L) x.k x.n x.t x.l x.d x.r x.s x.u x.v 0 (fun v7q5=>(some (.agg [(.int .i64 most),(.sl 9 v7q5)]))) FU a3q4)else none)))else none)))else none))
  (fun s=>qfr now most (avL L) x.k x.n x.t x.l x.d x.r x.s x.u x.v 0 s (fun a3q4=>(bif hd a3q4 a3q4.length then(qdx most (avL L) x.k x.n x.t x.l x.d x.r x.s x.u x.v 0 (fun v7q5=>(some (.agg [(.int .i64 most),(.sl 9 v7q5)]))) FU a3q4)else none)))
  (fun d s hsl=>by
   simp only[zhs,Bool.and_self,zct]
   rw[qy3];unfold qgh
   cases d with
   |true=>rfl
   |false=>
    rw[Bool.not_false,zct,zhs,zct]
    show(bif hd [x.av] ([x.av].length)then(bif decide ((s.length+([x.av]:List AV).length)*96<=140737488355328)then _ else none)else none)=_
    rw[zhs,zct,app1 s 200000 _ hsl (by omega),zct]
    rfl)
 rw[show(hd ([]:List AV) (([]:List AV).length)&&true)=true from rfl,zct,this,qbdc]
 exact hK _ hl1 hm1 hu1
theorem qbop (n:LU)(t l:Int)(d:LA)(hd1:d.length<=1000000)(hd2:qmu d):qog n t l d=some (d.map (qbr n t l)):=by
 rw[q3r];unfold qhs
 have key:=qcn d (by omega) (fun k i s=>qcs n t l d (fun a0=>bif hd a0 a0.length then some a0 else none) k i s)
  (fun i s nx=>qds i n t l d s nx (fun a0=>bif hd a0 a0.length then some a0 else none)) (fun _ _ _=>rfl) (fun i s=>s.length<=i) (fun r s=>some (s++r.map (qbr n t l)))
  (fun s nx _=>by simp[qds])
  (fun i y r s nx h1 h2 h3 h4 h5 h6=>by
   have h7:(i:Int)<(d.length:Int):=by omega
   unfold qds
   simp only[h7,decide_true,zct,zin,h2,zos,(hd2 y (zmg h2)).1,h4,zhs]
   have hb':decide ((s.length+([qbr n t l y]:List AV).length)*160<=140737488355328)=true:=by simp;omega
   show(bif decide ((s.length+([qbr n t l y]:List AV).length)*160<=140737488355328)then nx ((i+1:Nat):Int) (s++[qbr n t l y])else none)=_
   rw[hb',zct,h6 _ (by simp;omega)]
   simp)
  [] FU (Nat.le_refl _) (qcb (by omega))
 rw[qxy]
 show qcs n t l d (fun a0=>bif hd a0 a0.length then some a0 else none) FU 0 []=_
 rw[key];rfl
theorem qbp3 (n:LU)(t l:Int)(d:LA):(d.map (qbr n t l)).all recB=d.all (q7i n t l):=by
 rw[List.all_map]
 rfl
theorem qbtp (most:Int)(L:List En)(h:Good L)(n:LU)(t l:Int)(d:LA)(rank state now:Int)(hn:n.length<=9223372036854775807)(hd1:d.length<=1000000)(hd2:qmu d):
 qvb most (avL L) n t l d rank state now=some (qbj most (PutF most L n t l d rank state now)):=by
 have hlen:=qbl L
 have hll:=h.len
 rw[qbbs];unfold qmk
 have hR:qrv L n t l d rank now=((((((decide ((d.length:Int)<1))||(decide ((d.length:Int)>(64:Int))))||(l==0))||(decide (now<0)))||(decide (now>(4294967295:Int))))||(!d.all (q7i n t l)||qd1 L rank now (fun e=>e.about n t||e.denies n))):=by
  unfold qrv qxj
  cases((decide ((d.length:Int)<1)||decide ((d.length:Int)>64))||l==0)<;>cases d.all (q7i n t l)<;>cases decide (now<0)<;>cases decide (now>4294967295)<;>simp
 unfold PutF
 rw[hR]
 cases hc:(((((decide ((d.length:Int)<1))||(decide ((d.length:Int)>(64:Int))))||(l==0))||(decide (now<0)))||(decide (now>(4294967295:Int))))with
 |true=>rfl
 |false=>
  rw[zcf,qbop n t l d hd1 hd2,zos,Bool.false_or]
  have h37:∀kx:Unit->Option AV,qj1 rank state now most (avL L) n t l d 0 kx FU 0=bif qd1 L rank now (fun e=>e.about n t||e.denies n)then some (qbj most L)else kx ():=fun kx=>by
   rw[q39,qjf (avL L) (by omega) (qfv rank state now most (avL L) n t l d 0 kx) (fun i nx=>qfu rank state now i most (avL L) n t l d 0 nx kx) (fun _ _=>rfl) (fun r=>bif qd1 (r.map enOf) rank now (fun e=>e.about n t||e.denies n)then some (qbj most L)else kx ())]
   · rw[show(avL L).map enOf=L by simp[avL,Function.comp_def,qba]]
   · intro nx;simp[qfu,qd1]
   · intro i y r nx g1 g2 g3 g4 g5
     obtain⟨e,he,rfl⟩:=qev (zmg g2)
     unfold qfu
     rw[show decide ((i:Int)<((avL L).length:Int))=true from by simp;omega,zct,zin,g2,zos,qeq,zct]
     have hJ:∀kn:Bool->Option AV,qol rank state now (i:Int) most (avL L) n t l d 0 (gI e.av.cells 0) (gS e.av.cells 1) (gI e.av.cells 2) (gI e.av.cells 3) (gL e.av.cells 4) (gI e.av.cells 5) (gI e.av.cells 6) (gI e.av.cells 7) (gI e.av.cells 8) kn=kn ((e.about n t||e.denies n)&&e.alive now&&decide (e.r>rank)):=fun kn=>by
      rw[q38]
      show(bif(e.n==n)then(bif(e.t==t)then(oB (qbm e.k e.n e.t e.l e.d e.r e.s e.u e.v rank now) fun r1=>(kn r1))else(bif(e.k==(2:Int))then(oB (qbm e.k e.n e.t e.l e.d e.r e.s e.u e.v rank now) fun r2=>(kn r2))else(kn false)))else(kn false))=_
      rw[qbjn]
      unfold En.about En.denies
      cases(e.n==n)<;>cases(e.t==t)<;>cases(e.k==2)<;>simp
     rw[hJ,g4,g5,List.map_cons,qba]
     show(bif _ then some (qbj most L)else _)=(bif((((e.about n t||e.denies n)&&e.alive now&&decide (e.r>rank)))||qd1 (r.map enOf) rank now (fun e=>e.about n t||e.denies n))then _ else _)
     cases((e.about n t||e.denies n)&&e.alive now&&decide (e.r>rank))<;>rfl
  have hrl:(d.map (qbr n t l)).length=d.length:=by simp
  rw[q36,qjf (d.map (qbr n t l)) (by omega) (qft rank state now (d.map (qbr n t l)) most (avL L) n t l d 0 _) (fun i nx=>qfs rank state now (d.map (qbr n t l)) i most (avL L) n t l d 0 nx _) (fun _ _=>rfl)
   (fun r=>bif r.all recB then(qj1 rank state now most (avL L) n t l d 0 (fun(_:Unit)=>(oB (qhe most (avL L) n false) fun r2=>(oB (qlw l now) fun r3=>(oB (qdy (gI r2.cells 0) (gL r2.cells 1) 0 n t l d rank state r3 now now) fun r4=>(some (.agg [(.int .i64 (gI r4.cells 0)),(.sl 9 (gL r4.cells 1))])))))) FU 0)else some (qbj most L))]
  · rw[qbp3]
    cases d.all (q7i n t l)with
    |false=>rfl
    |true=>
     rw[zct,znt,Bool.false_or,h37]
     cases qd1 L rank now (fun e=>e.about n t||e.denies n)with
     |true=>rfl
     |false=>
      rw[zcf,qbon L (by omega),zos,qbqo,zos]
      have hg:=h.filter fun e=> !e.denies n
      rw[show qdy (gI (AV.agg [.int .i64 most,.fr true 9 (avL (L.filter fun e=> !qc8 n false e))]).cells 0) (gL (AV.agg [.int .i64 most,.fr true 9 (avL (L.filter fun e=> !qc8 n false e))]).cells 1) 0 n t l d rank state (endF l now) now now=some (qbj most (qfw most (L.filter fun e=> !e.denies n) (Dn.putE n t l d rank state now) now))from
       qbk9 (Dn.putE n t l d rank state now) most now hn _ hg.len hg.uq (fun e he=>(hg.ok e he).1),zos]
      rfl
  · intro nx;simp[qfs]
  · intro i z r nx g1 g2 g3 g4 g5
    obtain⟨y,hy,rfl⟩:=List.mem_map.1 (zmg g2)
    obtain⟨k1,k2,k3,k4⟩:=hd2 y hy
    unfold qfs
    rw[show decide ((i:Int)<((d.map (qbr n t l)).length:Int))=true from by simp;omega,zct,zin,g2,zos,show fitC qgv (qbr n t l y).cells=true from rfl,zct,
     show qmj (gS (qbr n t l y).cells 0) (gI (qbr n t l y).cells 1) (gI (qbr n t l y).cells 2) (gB (qbr n t l y).cells 3) (gI (qbr n t l y).cells 4) (gI (qbr n t l y).cells 5) (gS (qbr n t l y).cells 6) (gS (qbr n t l y).cells 7) (gS (qbr n t l y).cells 8) (gI (qbr n t l y).cells 9) (gI (qbr n t l y).cells 10) (gI (qbr n t l y).cells 11) (gI (qbr n t l y).cells 12) (gI (qbr n t l y).cells 13) (gI (qbr n t l y).cells 14) (gI (qbr n t l y).cells 15)=some (recB (qbr n t l y))from qbn7 _ _ _ _ _ _ _ _ _ _ _ _ _ _ _ _ hn k2 k3,zos,g4,g5,List.all_cons]
    cases recB (qbr n t l y)<;>rfl
theorem qbs8 (most:Int)(L:List En)(h:Good L)(n:LU)(t:Int)(nx:Bool)(ttl rank state now:Int)(hn:n.length<=9223372036854775807):
 qtb most (avL L) n t nx ttl rank state now=some (qbj most (qxl most L n t nx ttl rank state now)):=by
 have hlen:=qbl L
 have hll:=h.len
 rw[qbad];unfold qll qxl
 have hJ4:∀kn:Bool->Option AV,qom nx ttl rank state now most (avL L) n t 0 kn=kn (qpd n t nx ttl now):=fun kn=>by
  rw[q4b];unfold qh0 qpd
  rw[qxf n hn,zos]
  cases((((!qk n||decide (ttl<1))||decide (ttl>2147483647))||decide (now<0))||decide (now>4294967295))<;>cases nx<;>rfl
 rw[hJ4]
 cases qpd n t nx ttl now with
 |true=>rfl
 |false=>
  rw[zcf,Bool.false_or]
  have h14:∀kx:Unit->Option AV,qm6 nx ttl rank state now most (avL L) n t 0 kx FU 0=bif qd1 L rank now (qkk n t nx)then some (qbj most L)else kx ():=fun kx=>by
   rw[q1c,qjf (avL L) (by omega) (qfa nx ttl rank state now most (avL L) n t 0 kx) (fun i nxt=>qe9 nx ttl rank state now i most (avL L) n t 0 nxt kx) (fun _ _=>rfl) (fun r=>bif qd1 (r.map enOf) rank now (qkk n t nx)then some (qbj most L)else kx ())]
   · rw[show(avL L).map enOf=L by simp[avL,Function.comp_def,qba]]
   · intro nxt;simp[qe9,qd1]
   · intro i y r nxt g1 g2 g3 g4 g5
     obtain⟨e,he,rfl⟩:=qev (zmg g2)
     unfold qe9
     rw[show decide ((i:Int)<((avL L).length:Int))=true from by simp;omega,zct,zin,g2,zos,qeq,zct]
     have hJ:∀kn:Bool->Option AV,qm5 nx ttl rank state now (i:Int) most (avL L) n t 0 (gI e.av.cells 0) (gS e.av.cells 1) (gI e.av.cells 2) (gI e.av.cells 3) (gL e.av.cells 4) (gI e.av.cells 5) (gI e.av.cells 6) (gI e.av.cells 7) (gI e.av.cells 8) kn=kn (qkk n t nx e&&e.alive now&&decide (e.r>rank)):=fun kn=>by
      rw[q1b]
      show(bif(e.n==n)then(bif nx then(oB (qbm e.k e.n e.t e.l e.d e.r e.s e.u e.v rank now) fun r1=>(kn r1))else(bif(e.t==t)then(oB (qbm e.k e.n e.t e.l e.d e.r e.s e.u e.v rank now) fun r2=>(kn r2))else(bif(e.k==(2:Int))then(oB (qbm e.k e.n e.t e.l e.d e.r e.s e.u e.v rank now) fun r3=>(kn r3))else(kn false))))else(kn false))=_
      rw[qbjn]
      unfold qkk En.about En.denies
      cases(e.n==n)<;>cases nx<;>cases(e.t==t)<;>cases(e.k==2)<;>simp
     rw[hJ,g4,g5,List.map_cons,qba]
     show(bif _ then some (qbj most L)else _)=(bif((qkk n t nx e&&e.alive now&&decide (e.r>rank))||qd1 (r.map enOf) rank now (qkk n t nx))then _ else _)
     cases(qkk n t nx e&&e.alive now&&decide (e.r>rank))<;>rfl
  rw[h14]
  cases qd1 L rank now (qkk n t nx)with
  |true=>rfl
  |false=>
   rw[zcf,qbqo,zos,q1e];unfold qg5
   have hg:=h.filter fun e=> !qc8 n nx e
   have fin:∀k2 t2:Int,k2=(if nx then 2 else 1)->t2=(if nx then 0 else t)->(oB (qhe most (avL L) n nx) fun r5=>(oB (qdy (gI r5.cells 0) (gL r5.cells 1) k2 n t2 ttl [] rank state (endF ttl now) now now) fun r6=>(some (.agg [(.int .i64 (gI r6.cells 0)),(.sl 9 (gL r6.cells 1))]))))=some (qbj most (qfw most (L.filter fun e=> !qc8 n nx e) (qkd n t nx ttl rank state now) now)):=by
    intro k2 t2 e1 e2
    subst e1;subst e2
    rw[qbon L (by omega),zos]
    rw[show qdy (gI (AV.agg [.int .i64 most,.fr true 9 (avL (L.filter fun e=> !qc8 n nx e))]).cells 0) (gL (AV.agg [.int .i64 most,.fr true 9 (avL (L.filter fun e=> !qc8 n nx e))]).cells 1) (if nx then 2 else 1) n (if nx then 0 else t) ttl [] rank state (endF ttl now) now now=some (qbj most (qfw most (L.filter fun e=> !qc8 n nx e) (qkd n t nx ttl rank state now) now))from
     qbk9 (qkd n t nx ttl rank state now) most now hn _ hg.len hg.uq (fun e he=>(hg.ok e he).1),zos]
    rfl
   cases nx with
   |true=>exact fin 2 0 rfl rfl
   |false=>exact fin 1 t rfl rfl
def lidx (P:En->Bool):Int->Nat->List En->Int
 |b,_,[]=>b
 |b,i,e::r=>lidx P (if P e then(i:Int)else b) (i+1) r
theorem qbgf {P:En->Bool}:∀(r:List En) (b:Int) (i:Nat),(∀e,e∈r->P e=false)->lidx P b i r=b
 |[],b,i,_=>rfl
 |e::r,b,i,h=>by
  unfold lidx
  rw[h e (by simp)]
  exact qbgf r b (i+1) (fun f hf=>h f (by simp[hf]))
theorem q63 {P:En->Bool}:∀(L:List En) (i:Nat),L.Pairwise (fun a b=>¬(P a=true/\P b=true))->lidx P (-1) i L=fidx P i L
 |[],i,_=>rfl
 |e::L,i,h=>by
  obtain⟨h1,h2⟩:=List.pairwise_cons.1 h
  unfold lidx fidx
  cases hp:P e with
  |true=>
   rw[if_pos rfl,zct]
   exact qbgf L _ _ (fun f hf=>by
    have:=h1 f hf
    cases hf2:P f
    · rfl
    · exact absurd ⟨hp,hf2⟩ this)
  |false=>
   rw[if_neg (by simp),zcf]
   exact q63 L (i+1) h2
theorem qbr6 (most:Int)(L:List En)(h:Inv most L)(hL:L.length<=1000000)(n:LU)(t now:Int):qrf most (avL L) n t now=some (qql L n t now):=by
 have hlen:=qbl L
 rw[q8o];unfold qj2
 let A:En->Bool:=fun e=>e.alive now&&e.about n t
 let B:En->Bool:=fun e=>e.alive now&&e.k==0&&e.about n 5
 let C:En->Bool:=fun e=>e.alive now&&e.denies n
 let S:Nat->List En->Int×Int->Option Int:=fun i r s=>some (if fidx A i r<0 then(if lidx B s.1 i r>=0 then lidx B s.1 i r else lidx C s.2 i r)else fidx A i r)
 have key:=qcn (avL L) (by omega) (fun m i (s:Int×Int)=>qel now most (avL L) n t (fun v7q1 v8q2=>(bif(decide (v7q1>=0))then(some v7q1)else(some v8q2))) m s.1 s.2 i) (fun i s nx=>qek now s.1 s.2 i most (avL L) n t (fun a b c=>nx c (a,b)) (fun v7q1 v8q2=>(bif(decide (v7q1>=0))then(some v7q1)else(some v8q2)))) (fun _ _ _=>rfl) (fun _ _=>True)
  (fun r s=>S ((avL L).length-r.length) (r.map enOf) s)
  (fun s nx _=>by
   obtain⟨a,b⟩:=s
   simp only[qek,S,List.map_nil,fidx,lidx]
   rw[show decide (((avL L).length:Int)<((avL L).length:Int))=false from by simp,zcf]
   by_cases ha:a>=0<;>simp[ha])
  (fun i y r s nx h1 h2 h3 h4 _ h6=>by
   obtain⟨a,b⟩:=s
   obtain⟨e,he,rfl⟩:=qev (zmg h2)
   have hrl:(avL L).length-(e.av::r).length=i:=by
    have:=congrArg List.length h1
    simp only[List.length_drop,List.length_cons]at this⊢
    omega
   have hrl2:(avL L).length-r.length=i+1:=by
    simp only[List.length_cons]at hrl
    have:=congrArg List.length h1
    simp only[List.length_drop,List.length_cons]at this
    omega
   have h6':∀s',nx ((i+1:Nat):Int) s'=S (i+1) (r.map enOf) s':=fun s'=>by rw[h6 s' trivial,hrl2]
   unfold qek
   rw[show decide ((i:Int)<((avL L).length:Int))=true from by simp;omega,zct,qze]
   unfold qgl
   rw[zin,h2,zos,qeq,zct,hrl,List.map_cons,qba,h4]
   show(bif((!(e.n==n))||(decide (now>=e.u)))then nx ((i+1:Nat):Int) (a,b)else(bif(e.t==t)then(some (i:Int))else(bif((e.k==0)&&(e.t==(5:Int)))then(bif(e.k==(2:Int))then nx ((i+1:Nat):Int) ((i:Int),(i:Int))else nx ((i+1:Nat):Int) ((i:Int),b))else(bif(e.k==(2:Int))then nx ((i+1:Nat):Int) (a,(i:Int))else nx ((i+1:Nat):Int) (a,b)))))=_
   simp only[h6']
   have hal:decide (now>=e.u)= !e.alive now:=by
    unfold En.alive
    by_cases hx:now<e.u
    · rw[decide_eq_true hx,decide_eq_false (by omega)];rfl
    · rw[decide_eq_false hx,decide_eq_true (by omega)];rfl
   rw[hal]
   simp only[S,fidx,lidx]
   have eA:A e=(e.alive now&&((e.n==n)&&(e.t==t))):=rfl
   have eB:B e=(e.alive now&&e.k==0&&((e.n==n)&&(e.t==5))):=rfl
   have eC:C e=(e.alive now&&(e.k==2&&e.n==n)):=rfl
   rw[eA,eB,eC]
   cases(e.n==n)with
   |false=>simp
   |true=>
    cases e.alive now with
    |false=>simp
    |true=>
     cases(e.t==t)with
     |true=>
      simp
      intro hneg
      omega
     |false=>cases(e.k==0)<;>cases(e.t==5)<;>cases(e.k==2)<;>simp)
  (-1,-1) FU trivial (qcb (by omega))
 rw[qzf]
 have hm:(avL L).map enOf=L:=by simp[avL,Function.comp_def,qba]
 rw[hm,Nat.sub_self]at key
 refine key.trans ?_
 have hB:L.Pairwise (fun a b=>¬(B a=true/\B b=true)):=h.srt.uniq.imp fun {a b} hab hc=>hab (by
  obtain⟨h1,h2⟩:=hc
  simp[B,En.about]at h1 h2
  exact⟨h1.2.1.trans h2.2.1.symm,h1.2.2.trans h2.2.2.symm⟩)
 have hC:L.Pairwise (fun a b=>¬(C a=true/\C b=true)):=by
  refine List.Pairwise.imp_of_mem (R:=fun(a b:En)=>¬(a.n=b.n/\a.t=b.t)) (fun {a b} ha hb hab hc=>hab ?_) h.srt.uniq
  obtain⟨h1,h2⟩:=hc
  simp[C,En.denies]at h1 h2
  have:=h.nx a b ha hb (h1.2.2.trans h2.2.2.symm) h1.2.1
  exact⟨by rw[this],by rw[this]⟩
 show some _=some _
 congr 1
 rw[q63 L 0 hB,q63 L 0 hC]
 unfold qql
 simp only
 show(if fidx A 0 L<0 then(if fidx B 0 L>=0 then fidx B 0 L else fidx C 0 L)else fidx A 0 L)=(if(if fidx A 0 L<0 then fidx B 0 L else fidx A 0 L)<0 then fidx C 0 L else(if fidx A 0 L<0 then fidx B 0 L else fidx A 0 L))
 by_cases h1:fidx A 0 L<0
 · rw[if_pos h1,if_pos h1]
   by_cases h2:fidx B 0 L<0
   · rw[if_pos h2,if_neg (by omega)]
   · rw[if_neg h2,if_pos (by omega)]
 · rw[if_neg h1,if_neg h1,if_neg h1]
theorem qbtq (most:Int)(L:List En)(h:Inv most L)(hL:L.length<=1000000)(n:LU)(t now:Int):
 qvc most (avL L) n t now=some (qbj most (getL L now (qfm L n t now)),(getR now (qfm L n t now)).av,(qfm L n t now).isSome):=by
 have hal:=qbl L
 rw[qbbu];unfold qml
 rw[qbr6 most L h hL n t now,zos]
 unfold qfm
 rcases qbjh L n t now with hi|⟨k,hk,hi⟩
 · rw[hi];rfl
 · obtain⟨e,he⟩:∃e,L[k]?=some e:=⟨L[k],by simp⟩
   have hav:(avL L)[k]?=some e.av:=by rw[qjc,he];rfl
   have hneg:decide ((k:Int)<0)=false:=by simp
   have hneg':¬((k:Int)<0):=by omega
   have hin:decide (0<=(k:Int)/\(k:Int)<((avL L).length))=true:=by simp;omega
   have hcap:decide ((([]:List AV).length+(avL L).length)*96<=140737488355328)=true:=by simp;omega
   have hset:(avL L).set k (qch e now).av=avL (L.set k (qch e now)):=by simp[avL,List.map_set]
   have hhd:hd ((avL L).set k (qch e now).av) ((avL L).length)=true:=by
    have:=zhs ((avL L).set k (qch e now).av)
    rwa [List.length_set]at this
   rw[hi]
   simp only[hneg,zcf,zin,hav,zos,qeq,zct,hcap,zhs,hin,Int.toNat_natCast,if_neg hneg',he]
   rw[show Go.Pev.putE e.av 0 9 [.int .i64 (gI e.av.cells 0),.str (gS e.av.cells 1),.int .i64 (gI e.av.cells 2),.int .i64 (gI e.av.cells 3),.sl 13 (gL e.av.cells 4),.int .i64 (gI e.av.cells 5),.int .i64 (gI e.av.cells 6),.int .i64 (gI e.av.cells 7),.int .i64 now]=some (qch e now).av from rfl,zos,hhd,zct,hset]
   rfl
theorem qboq (most:Int)(L:List En)(h:Good L)(name:LU)(now:Int)(hn:name.length<=9223372036854775807):
 qon most (avL L) name now=some (q7l now (clF name now none L),(clF name now none L).isSome):=by
 have hlen:=h.len
 have hal:=qbl L
 rw[q4f];unfold qh1
 let kx:Int->Option (AV×Bool):=fun v8q1=>(bif(decide (v8q1<0))then(some ((.agg [(.str ([]:List UInt8)),(.int .i64 (0:Int)),(.int .i64 (0:Int)),(.sl 13 ([]:List AV))]),false))else(oB (ixB (avL L) v8q1) fun y2=>(bif fitC qb y2.cells then(oB (ixB (avL L) v8q1) fun y3=>(bif fitC qb y3.cells then(some ((.agg [(.str (gS y2.cells 1)),(.int .i64 (gI y2.cells 2)),(.int .i64 (i64.wrap ((gI y3.cells 7)-(if(0:Int)>now then(0:Int)else now)))),(.sl 13 (gL y2.cells 4))]),true))else none))else none)))
 let dec:Int->Option En:=fun a=>if a<0 then none else L[a.toNat]?
 let J:Nat->Int->Prop:=fun i s=>s= -1\/∃(k:Nat) (e:En),s=(k:Int)/\L[k]?=some e
 have hdec:∀(k:Nat) (e:En),L[k]?=some e->dec (k:Int)=some e:=fun k e he=>by
  simp only[dec]
  rw[if_neg (by omega)]
  simpa using he
 have key:=qcn (avL L) (by omega) (fun m i (s:Int)=>qd0 name now most (avL L) [] 0 0 kx m s i)
  (fun i s nx=>qdz name now s i most (avL L) [] 0 0 (fun a j=>nx j a) kx) (fun _ _ _=>rfl) J (fun r s=>some (q7l now (clF name now (dec s) (r.map enOf)),(clF name now (dec s) (r.map enOf)).isSome))
  (fun s nx hJ=>by
   unfold qdz
   rw[show decide (((avL L).length:Int)<((avL L).length:Int))=false from by simp,zcf]
   simp only[List.map_nil,clF]
   rcases hJ with rfl|⟨k,e,rfl,he⟩
   · rfl
   · have hav:(avL L)[k]?=some e.av:=by rw[qjc,he];rfl
     simp only[kx,show decide ((k:Int)<0)=false from by simp,zcf,zin,hav,zos,qeq,zct,hdec k e he]
     rfl)
  (fun i y r s nx h1 h2 h3 h4 hJ h6=>by
   obtain⟨e,he,rfl⟩:=qev (zmg h2)
   have hle:L[i]?=some e:=by
    rw[qjc]at h2
    obtain⟨e',h8,h9⟩:=zms.1 h2
    rw[h8,show e'=e from by rw[<-qba e',h9,qba]]
   have hen:=(h.ok e he).1
   have hJi:J (i+1) (i:Int):=.inr ⟨i,e,rfl,hle⟩
   unfold qdz
   rw[show decide ((i:Int)<((avL L).length:Int))=true from by simp;omega,zct,qwe]
   unfold qfk
   rw[zin,h2,zos,qeq,zct,h4,List.map_cons,qba,clF]
   have hJ20:∀kn:Bool->Option (AV×Bool),qj4 name now s (i:Int) most (avL L) [] 0 0 (gI e.av.cells 0) (gS e.av.cells 1) (gI e.av.cells 2) (gI e.av.cells 3) (gL e.av.cells 4) (gI e.av.cells 5) (gI e.av.cells 6) (gI e.av.cells 7) (gI e.av.cells 8) kn=kn (nsB name now e):=fun kn=>by
    rw[qwc]
    show(bif(((e.k==0)&&(e.t==(2:Int)))&&e.alive now)then(oB (qgt name e.n) fun r1=>(kn r1))else(kn false))=_
    rw[qbi8 _ _ hn hen]
    unfold nsB
    cases hk0:(e.k==0)<;>cases ht2:(e.t==2)<;>cases e.alive now<;>simp[bne,hk0,ht2]
   rw[hJ20]
   cases hns:nsB name now e with
   |false=>
    simp only[zcf,Bool.false_and,Bool.false_eq_true,if_false]
    exact h6 s hJ
   |true=>
    simp only[zct,Bool.true_and]
    rcases hJ with rfl|⟨k,e2,rfl,he2⟩
    · rw[show decide ((-1:Int)<0)=true from rfl,zct]
      have hc:decide (labN e>clO (dec (-1)))=true:=by
       simp[dec,clO,labN]
       omega
      rw[hc,if_pos rfl,<-hdec i e hle]
      exact h6 _ hJi
    · have hk2:(avL L)[k]?=some e2.av:=by rw[qjc,he2];rfl
      have hx:fitC qby e2.av.cells=true:=rfl
      rw[show decide ((k:Int)<0)=false from by simp,zcf,
       show qfy (gS e.av.cells 1)=some (avS (qf e.n))from qbfy e.n hen,zos,zin,hk2,zos,hx,zct,
       show qfy (gS e2.av.cells 1)=some (avS (qf e2.n))from qbfy e2.n (h.ok e2 (zmg he2)).1,zos,hdec k e2 he2]
      have hll:∀f:En,((avS (qf f.n)).length:Int)=labN f:=fun f=>by simp[avS,labN]
      rw[hll,hll]
      show(bif decide (labN e>labN e2)then nx ((i+1:Nat):Int) (i:Int)else nx ((i+1:Nat):Int) (k:Int))=some (q7l now (clF name now (if decide (labN e>labN e2)=true then some e else some e2) (r.map enOf)),(clF name now (if decide (labN e>labN e2)=true then some e else some e2) (r.map enOf)).isSome)
      cases decide (labN e>labN e2)with
      |true=>
       rw[zct,if_pos rfl,<-hdec i e hle]
       exact h6 _ hJi
      |false=>
       rw[zcf,if_neg (by simp),<-hdec k e2 he2]
       exact h6 _ (.inr ⟨k,e2,rfl,he2⟩))
  (-1) FU (.inl rfl) (qcb (by omega))
 rw[qx3]
 have hm:(avL L).map enOf=L:=by simp[avL,Function.comp_def,qba]
 rw[hm]at key
 exact key
theorem q64 (most:Int)(L:List En)(hL:L.length<=1000000)(h:∀e,e∈L->q7n e):qfe most (avL L) most (avL L)=some true:=by
 have hlen:=qbl L
 rw[q3f];unfold qhg
 rw[show((most != most)||(((avL L).length:Int) != ((avL L).length:Int)))=false from by simp,zcf]
 rw[qv0,qjf (avL L) (by omega) (qdf (avL L) ((avL L).length:Int) most (avL L) fun _=>some true) (fun i nx=>qde (avL L) ((avL L).length:Int) i most (avL L) nx fun _=>some true) (fun _ _=>rfl) (fun _=>some true)]
 · intro nx;simp[qde]
 · intro i y r nx g1 g2 g3 g4 g5
   obtain⟨e,he,rfl⟩:=qev (zmg g2)
   have hd:=h e he
   unfold qde
   rw[show decide ((i:Int)<((avL L).length:Int))=true from by simp;omega,zct,zin,g2,zos,qeq,zct,zos,qeq,zct]
   rw[show qhd (gS e.av.cells 1) (gI e.av.cells 2) (gI e.av.cells 3) (gL e.av.cells 4) (gS e.av.cells 1) (gI e.av.cells 2) (gI e.av.cells 3) (gL e.av.cells 4)=some true from
    (qbjm e.n e.t e.l e.d e.n e.t e.l e.d (by have:=hd.2.2.2.2.2.1;omega) (fun y hy=>(hd.2.2.2.2.2.2 y hy).1) (fun y hy=>(hd.2.2.2.2.2.2 y hy).1)).trans (by rw[q2r]),zos,g4,g5]
   simp
theorem law_CachePlays (most:Int)(acts:LA)(ha:∀a,a∈acts->qbda a):qg6 most acts=some true:=by
 rw[qx4];unfold qfz
 by_cases hr:most<1\/most>256
 · refine qcq (qbjk most hr) ?_
   refine qcq (qbp0 most hr) ?_
   rw[qlm];unfold qcx
   rw[qbk7]
   rw[show qfe (gI (AV.agg [AV.int .i64 0,.nils],(1:Int)).1.cells 0) [] (gI (AV.agg [AV.int .i64 0,.nils],(1:Int)).1.cells 0) []=some true from q64 0 [] (by simp) (by simp)]
   rfl
 · have h1:1<=most:=by omega
   have h2:most<=256:=by omega
   refine qcq (qbql most h1 h2) ?_
   refine qcq (qbto most h1 h2) ?_
   rw[qlm];unfold qcx
   rw[qbk7]
   rw[show qfe (gI (AV.agg [AV.int .i64 most,.nils],(0:Int)).1.cells 0) [] (gI (AV.agg [AV.int .i64 most,.nils],(0:Int)).1.cells 0) []=some true from q64 most [] (by simp) (by simp)]
   let kx:Unit->Option Bool:=fun _=>(oB (some true) fun r5=>(some r5))
   show qhc acts kx FU 0 most (avL []) most (avL [])=some true
   have key:∀(r:LA) (i:Nat) (L:List En) (n:Nat),(acts.take 30).drop i=r->i<=(acts.take 30).length->Inv most L->r.length<n->qb2 acts kx n (i:Int) most (avL L) most (avL L)=some true:=by
    intro r
    induction r with
    |nil=>
     intro i L n hd hi hL hn
     obtain⟨n,rfl⟩:∃m,n=m+1:=⟨n-1,by omega⟩
     show qb1 acts (i:Int) most (avL L) most (avL L) _ kx=_
     have hil:(acts.take 30).length<=i:=by
      have:=congrArg List.length hd
      simp only[List.length_drop,List.length_nil]at this
      omega
     have hb:(decide ((i:Int)<(acts.length:Int))&&decide ((i:Int)<30))=false:=by
      rw[List.length_take]at hil
      simp;omega
     unfold qb1
     rw[hb];rfl
    |cons a r ih=>
     intro i L n hd hi hL hn
     obtain⟨n,rfl⟩:∃m,n=m+1:=⟨n-1,by omega⟩
     show qb1 acts (i:Int) most (avL L) most (avL L) (qb2 acts kx n) kx=_
     have hil:i<(acts.take 30).length:=by
      have:=congrArg List.length hd
      simp only[List.length_drop,List.length_cons]at this
      omega
     have hil2:i<acts.length/\i<30:=by rw[List.length_take]at hil;omega
     have hb:(decide ((i:Int)<(acts.length:Int))&&decide ((i:Int)<30))=true:=by simp;omega
     have hai:acts[i]?=some a:=by
      have h3:(acts.take 30)[i]?=some a:=by
       have:=congrArg (·[0]?) hd
       simpa using this
      rw[List.getElem?_take]at h3
      simpa[hil2.2]using h3
     have hf:=ha a (zmg hai)
     have hw:i64.wrap ((i:Int)+1)=((i+1:Nat):Int):=w64 (by omega) (by omega)
     have hgd:=hL.good h2
     have hlen:=hgd.len
     have hq:(qv (gS a.cells 5)).length<=9223372036854775807:=Nat.le_trans (qmv _) (by omega)
     have hs:(qv (gS a.cells 1)).length<=9223372036854775807:=Nat.le_trans (qmv _) (by omega)
     unfold qb1
     rw[hb,zct,zin,hai,zos,hf.1,zct,qbk8 _ _ _ _ hf.2,zos,show cutI (gS a.cells 5) none (some (if(300:Int)<((gS a.cells 5).length:Int)then(300:Int)else((gS a.cells 5).length:Int)))=some (qv (gS a.cells 5))from qul _ 300,zos]
     have hJ:∀kn:Int->List AV->Option Bool,qe4 acts (i:Int) most (avL L) most (avL L) (gI a.cells 0) (gS a.cells 1) (gI a.cells 2) (gI a.cells 3) (gL a.cells 4) (gS a.cells 5) (gI a.cells 6) (gB a.cells 7) (gI a.cells 8) (gI a.cells 9) (gI a.cells 10) (qv (gS a.cells 1)) (gI a.cells 2) (gI a.cells 3) (qqm (gL a.cells 4)) (qv (gS a.cells 5)) (gI a.cells 6) kn=kn most (avL (runF most L a)):=fun kn=>by
      rw[qth];unfold qd5 runF
      by_cases k0:gI a.cells 0=0
      · rw[if_pos k0,show(gI a.cells 0==0)=true from by simpa using k0,zct]
        exact qcq (qbtp most L hgd (qv (gS a.cells 1)) (gI a.cells 2) (gI a.cells 3) (qqm (gL a.cells 4)) _ _ _ hs (Nat.le_trans (qbgc _) (by omega)) (q62 hf.2)) rfl
      rw[if_neg k0,show(gI a.cells 0==0)=false from by simpa using k0,zcf]
      by_cases k1:gI a.cells 0=1
      · rw[if_pos k1,show(gI a.cells 0==1)=true from by simpa using k1,zct]
        exact qcq (qbs8 most L hgd _ _ _ _ _ _ _ hq) rfl
      rw[if_neg k1,show(gI a.cells 0==1)=false from by simpa using k1,zcf]
      by_cases k2:gI a.cells 0=2
      · rw[if_pos k2,show(gI a.cells 0==2)=true from by simpa using k2,zct]
        refine qcq (qbc7 most L hgd _ _ _) ?_
        refine qcq (qbtq most L hL (by omega) _ _ _) ?_
        have hz:qmu (getR (gI a.cells 10) (qfm L (qv (gS a.cells 5)) (gI a.cells 6) (gI a.cells 10))).d/\(getR (gI a.cells 10) (qfm L (qv (gS a.cells 5)) (gI a.cells 6) (gI a.cells 10))).d.length<=64:=by
         cases hg:qfm L (qv (gS a.cells 5)) (gI a.cells 6) (gI a.cells 10)with
         |none=>exact⟨fun y hy=>by simp[getR,qbmh]at hy,by simp[getR,qbmh]⟩
         |some p=>
          have:=hL.ent p.2 (qbml hg).1
          exact⟨this.2.2.2.2.2.2,this.2.2.2.2.2.1⟩
        generalize getR (gI a.cells 10) (qfm L (qv (gS a.cells 5)) (gI a.cells 6) (gI a.cells 10))=x at hz
        generalize (qfm L (qv (gS a.cells 5)) (gI a.cells 6) (gI a.cells 10)).isSome=b
        generalize getL L (gI a.cells 10) (qfm L (qv (gS a.cells 5)) (gI a.cells 6) (gI a.cells 10))=M
        have hJ63:∀kn:Bool->Option Bool,qe2 acts (i:Int) b b most (avL L) most (avL M) (gI a.cells 0) (gS a.cells 1) (gI a.cells 2) (gI a.cells 3) (gL a.cells 4) (gS a.cells 5) (gI a.cells 6) (gB a.cells 7) (gI a.cells 8) (gI a.cells 9) (gI a.cells 10) x.k x.n x.t x.l x.d x.r x.s x.u x.v x.k x.n x.t x.l x.d x.r x.s x.u x.v kn=kn false:=fun kn=>by
         rw[qtd];unfold qd3
         rw[qbjm _ _ _ _ _ _ _ _ (by omega) (fun y hy=>(hz.1 y hy).1) (fun y hy=>(hz.1 y hy).1),q2r]
         simp
        show qe2 acts (i:Int) b b most (avL L) most (avL M) (gI a.cells 0) (gS a.cells 1) (gI a.cells 2) (gI a.cells 3) (gL a.cells 4) (gS a.cells 5) (gI a.cells 6) (gB a.cells 7) (gI a.cells 8) (gI a.cells 9) (gI a.cells 10) x.k x.n x.t x.l x.d x.r x.s x.u x.v x.k x.n x.t x.l x.d x.r x.s x.u x.v _=_
        rw[hJ63];rfl
      rw[if_neg k2,show(gI a.cells 0==2)=false from by simpa using k2,zcf]
      by_cases k3:gI a.cells 0=3
      · rw[show(gI a.cells 0==3)=true from by simpa using k3,zct,if_neg (by omega),if_neg (by omega)]
        refine qcq (qbf8 most L hgd _ _ hq) ?_
        refine qcq (qboq most L hgd _ _ hq) ?_
        have hc:∃(m:LU) (ty tl:Int) (d:LA),q7l (gI a.cells 10) (clF (qv (gS a.cells 5)) (gI a.cells 10) none L)=.agg [.str m,.int .i64 ty,.int .i64 tl,.sl 13 d]/\qmu d/\d.length<=64:=by
         cases hq2:clF (qv (gS a.cells 5)) (gI a.cells 10) none L with
         |none=>exact⟨_,_,_,_,rfl,fun y hy=>by simp at hy,by simp⟩
         |some e=>
          rcases qbom _ _ L none e hq2 with h|h
          · cases h
          · have:=hL.ent e h
            exact⟨_,_,_,_,rfl,this.2.2.2.2.2.2,this.2.2.2.2.2.1⟩
        obtain⟨m,ty,tl,d,hsv,hd1,hd2⟩:=hc
        rw[hsv]
        generalize (clF (qv (gS a.cells 5)) (gI a.cells 10) none L).isSome=b
        have hJ77:∀kn:Bool->Option Bool,qe3 acts (i:Int) b b most (avL L) most (avL L) (gI a.cells 0) (gS a.cells 1) (gI a.cells 2) (gI a.cells 3) (gL a.cells 4) (gS a.cells 5) (gI a.cells 6) (gB a.cells 7) (gI a.cells 8) (gI a.cells 9) (gI a.cells 10) m ty tl d m ty tl d kn=kn false:=fun kn=>by
         rw[qtf];unfold qd4
         rw[qbjm _ _ _ _ _ _ _ _ (by omega) (fun y hy=>(hd1 y hy).1) (fun y hy=>(hd1 y hy).1),q2r]
         simp
        show qe3 acts (i:Int) b b most (avL L) most (avL L) (gI a.cells 0) (gS a.cells 1) (gI a.cells 2) (gI a.cells 3) (gL a.cells 4) (gS a.cells 5) (gI a.cells 6) (gB a.cells 7) (gI a.cells 8) (gI a.cells 9) (gI a.cells 10) m ty tl d m ty tl d _=_
        rw[hJ77];rfl
      rw[show(gI a.cells 0==3)=false from by simpa using k3,zcf]
      by_cases k4:gI a.cells 0=4
      · rw[if_pos k4,show(gI a.cells 0==4)=true from by simpa using k4,zct]
        exact qcq (qbr2 L (by omega) most _ (fun e he=>(hgd.ok e he).1) hq) rfl
      rw[if_neg k4,show(gI a.cells 0==4)=false from by simpa using k4,zcf]
      by_cases k5:gI a.cells 0=5
      · rw[if_pos k5,show(gI a.cells 0==5)=true from by simpa using k5,zct]
        exact qcq (qbr3 L (by omega) most _) rfl
      rw[if_neg k5,show(gI a.cells 0==5)=false from by simpa using k5,zcf]
     have hIr:=qbr1 h1 hL hf
     show qe4 acts (i:Int) most (avL L) most (avL L) (gI a.cells 0) (gS a.cells 1) (gI a.cells 2) (gI a.cells 3) (gL a.cells 4) (gS a.cells 5) (gI a.cells 6) (gB a.cells 7) (gI a.cells 8) (gI a.cells 9) (gI a.cells 10) (qv (gS a.cells 1)) (gI a.cells 2) (gI a.cells 3) (qqm (gL a.cells 4)) (qv (gS a.cells 5)) (gI a.cells 6) _=_
     rw[hJ]
     refine qcq (qbtn most L hgd a hf) ?_
     refine qcq (q64 most (runF most L a) (by have:=(hIr.good h2).len;omega) hIr.ent) ?_
     rw[znt,zcf,hw]
     exact ih (i+1) (runF most L a) n (by
      have:(acts.take 30).drop (i+1)=((acts.take 30).drop i).drop 1:=by simp
      rw[this,hd];rfl) (by omega) hIr (by simp only[List.length_cons]at hn;omega)
   rw[qti]
   exact key (acts.take 30) 0 [] FU rfl (Nat.zero_le _) (qbeu h1) (qcb (by simp;omega))
end Go.Proofs.YtmficjbenbhneaaGreatDoor.Dn
