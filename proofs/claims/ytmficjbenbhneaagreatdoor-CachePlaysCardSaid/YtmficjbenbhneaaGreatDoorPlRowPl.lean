/- PROVES the statement CachePlays: for every input the law returns true, and the arguments read behind the call as_ before. No conditions. -/
import Derived.Test.YtmficjbenbhneaaGreatDoorRows
import Derived.Test.YtmficjbenbhneaaGreatDoorPlLibD
import Derived.Test.YtmficjbenbhneaaGreatDoorTie
import Derived.Test.YtmficjbenbhneaaGreatDoorCards
import Derived.Test.YtmficjbenbhneaaGreatDoorPlLwA
import Derived.ProofKit
import Derived.SizedLaws
import Derived.OpenShut
import Derived.LaidMore
import Derived.Stop.Joined
import Derived.SevenTiedAt
set_option linter.all false
namespace Go.Proofs.YtmficjbenbhneaaGreatDoor.CachePlaysRow
open Go Go.Pev Go.ChangeShapes Go.WideShapes Go.ChangeAt Go.RowKit
theorem own:ownKnob Tryz.prog.godebug=none:=by kernel_rfl
theorem laidOut:laidOutB Tryz.prog=true:=by kernel_rfl
def ty3:Ty:=(.int .i64)
theorem has3:tyOf Tryz.prog 12 3=some ty3:=by kernel_rfl
def ty22:Ty:=(.sl 11 (.st [(.int .i64),(.st [.str,(.int .i64),(.int .i64),(.sl 13 (.st [(.st [.bool,(.int .u64),(.int .u64)]),.str,.str,.str,(.int .i64),(.int .i64),(.int .i64),(.int .i64),(.int .i64),(.int .i64),(.int .u64)]))]),(.st [.str,(.int .i64)]),.bool,(.int .i64),(.int .i64),(.int .i64)]))
theorem qbtr:tyOf Tryz.prog 12 22=some ty22:=by kernel_rfl
theorem asks:∀(y0:AV) (y1:AV),(ty3).fitv y0->(ty22).fitv y1->qzl Tryz.prog 3 [y0,y1] (· =.bool true):=by
 intro y0 y1 f0 f1
 obtain⟨h0,g0⟩:=qbks rfl f0
 have k0:fitT Mem.none (.one (.l (.i .i64))) y0=true:=by
  have:=(qbek Mem.none [(.i .i64)] [y0]).trans h0
  simp only[List.map_cons,List.map_nil,qkb]at this
  split at this
  · rename_i hk;exact hk
  · cases this
 obtain⟨h1,g1⟩:=qbks rfl f1
 have k1:fitT Mem.none (.one (.l (.sl 11))) y1=true:=by
  have:=(qbek Mem.none [(.sl 11)] [y1]).trans h1
  simp only[List.map_cons,List.map_nil,qkb]at this
  split at this
  · rename_i hk;exact hk
  · cases this
 have hfit:fitS Dn.S109_ (qg7 [y0,y1]) Mem.none=true:=by
  show(match qqd (qg7 [y0,y1]) Mem.none Dn.S109_.ts with|true=>true|false=>false)=true
  have:qqd (qg7 [y0,y1]) Mem.none Dn.S109_.ts=true:=by
   exact qbfx (show fitT Mem.none _ ((qg7 [y0,y1]) 0)=true from k0) (qbfx (show fitT Mem.none _ ((qg7 [y0,y1]) 1)=true from k1) (rfl))
  rw[this]
 have law:Dn.qg6 (gI [y0] 0) (gL [y1] 0)=some true:=by
  exact Dn.law_CachePlays _ _ (Dn.actsFit_of g1)
 refine qbj9 Dn.qzh.h (fun K=> ?_)
 show chk (fitS Dn.S109_ (qg7 [y0,y1]) Mem.none) (oB (Dn.qg6 (gI [y0] 0) (gL [y1] 0)) fun r=>K (.bool r))=K (.bool true)
 rw[hfit,law];rfl
noncomputable def qbgg (os:Os):World:=
 let w0:=World.holding Tryz.prog os ⟨#[],#[],[]⟩
 let put (h:Array Obj) (g:Nat) (cs:Array Value):Array Obj:=h.modify g fun
  | .cells _ t frozen=>.cells cs t frozen
  |o=>o
 let h1:=put w0.heap 2 ((List.range 16).flatMap fun i=>[Value.int .u8 (if i=0 then 128 else if i=1 then 160 else if i=2 then 128 else if i=3 then 144 else if i=4 then 128 else 0),Value.int .u8 (if i=0 then 191 else if i=1 then 191 else if i=2 then 159 else if i=3 then 191 else if i=4 then 143 else 0)]).toArray
 let h2:=put h1 1 (Pinned.utf8FirstZ.map fun(z:Nat)=>Value.int .u8 z).toArray
 {w0 with heap:=h2}
theorem qbp4 (os:Os)(args:Array Value):laidMetH Tryz.prog Rows.cachePlaysRow.laid ((qbgg os).forCall (fun _ _=>0) ⟨#[],args,[]⟩).memory:=
 laidMetH_of_parts3 (fuel:=8) (laidMet_of_run' 8 (by kernel_rfl) (by kernel_rfl)) (by kernel_rfl) (by kernel_rfl)
set_option maxRecDepth 100000 in
theorem lifted (os:Os)(started:os.Started)(H:Type)(enc:TypeId×Value->H):
 ReturnsInHanded {} Tryz.checked os 3 .any (fun w args=>(Rows.cachePlaysSpec.pre enc Tryz.prog Tryz.f3 [] false w args/\laidMetH Tryz.prog Rows.cachePlaysRow.laid w)/\sizedMet enc Tryz.prog Tryz.f3 (OpenSpec.ofChange Rows.cachePlaysSpec) false w args) (Rows.cachePlaysSpec.post enc Tryz.prog Tryz.f3 false true false false):=by
 refine returnsInHanded_of_change_and (C:=Tryz.checked) (X:=fun w _=>laidMetH Tryz.prog Rows.cachePlaysRow.laid w) (fun _ _ _ hh h=>h.of_heap hh) own started (by kernel_rfl) Tryz.func3
  (ChangeSpec.witness_at (enc:=enc) (C:=Tryz.checked) (os:=os) (X:=fun w _=>laidMetH Tryz.prog Rows.cachePlaysRow.laid w) false (qbgg os) #[.int .i64 0,.slice none 0 0] 8 rfl (by kernel_rfl) (by kernel_rfl) (by kernel_rfl) (by kernel_rfl) (by kernel_rfl) (qbp4 os _)) ?_
 intro W base args ds gs before hval0 hW _ hsz0 _ _
 have hval:∀(j:Nat) t v,Tryz.f3.params[j]?=some t->args[j]?=some v->Value.okWide Tryz.prog W .any base t v:=hval0
 have hW':=hW
 obtain⟨p,q,hA0,hV,rfl,hfz,hnd⟩:=hW
 have hA:DataW.TrodAll enc Tryz.prog W 0 (fun _=>true) true Tryz.f3.params.toList args.toList ds p:=hA0
 rw[Tryz.params3]at hA hval
 obtain⟨v0,vs0,d0,ds0,p0,q0,hargs,rfl,rfl,h0,r0⟩:=trodAll_cons hA
 obtain⟨v1,vs1,d1,ds1,p1,q1,rfl,rfl,rfl,h1,r1⟩:=trodAll_cons r0
 obtain⟨rfl,rfl,rfl⟩:=trodAll_nil r1
 obtain rfl:args=#[v0,v1]:=by cases args;simp_all
 obtain⟨rfl,rfl⟩:=trodVars_none hV
 have lt0:∀x∈p0,x.block<W.heap.size:=by obtain⟨m,hm⟩:=h0;exact DataW.trod_lt m _ _ _ hm
 obtain⟨y0,f0,c0⟩:=qbin has3 (hval 0 3 v0 rfl rfl) h0
 have lt1:∀x∈p1,x.block<W.heap.size:=by obtain⟨m,hm⟩:=h1;exact DataW.trod_lt m _ _ _ hm
 obtain⟨y1,f1,c1⟩:=qbin qbtr (hval 1 22 v1 rfl rfl) h1
 clear hA0 hval0 hsz0
 refine(qbna (asks y0 y1 f0 f1) rfl (qbfh c0 (qbfh c1 qbnb))).mono fun e W' ⟨he,bel⟩=> ?_
 subst he
 exact⟨_,rfl,_,_,_,[],_,[],hW',trodAll_mk1 (shut_bool Tryz.underlying4 _),(trodAll_cons_mk (Below.trod laidOut (by kernel_rfl) (of_decide_eq_true (by kernel_rfl)) h0 bel lt0) (trodAll_cons_mk (Below.trod laidOut (by kernel_rfl) (of_decide_eq_true (by kernel_rfl)) h1 bel lt1) trodAll_mk0)),rfl,bel.frame _,fun h=>by cases h⟩
theorem qbor:Rows.CachePlaysSaid:=
 OpenClaim.holds_of_wide 3 Tryz.f3 rfl rfl rfl rfl rfl rfl rfl ⟨rfl,rfl,rfl,rfl,rfl⟩ rfl rfl rfl rfl rfl (by kernel_rfl) Tryz.func3 (by kernel_rfl)
  (of_decide_eq_true (by kernel_rfl)) (by unfold Func.isWrapper;first|(rw[if_pos (by decide+kernel)];kernel_rfl)|(rw[if_neg (by decide+kernel)];exact⟨rfl,rfl⟩))
  (fun os started H enc _=>lifted os started H enc)
theorem over:Rows.CachePlaysCardSaid:=
 Claim7.holds_tied_plain_at .later [] [.data,.pinned] true (true, "7e042442cb42b6636eb7fba18fe622631df41b9ddfae988f927a0fb31f91fd72") false
  qbor (fun _ h=>by cases h) (by kernel_rfl) (fun _ h=>by cases h) cachePlays_row_tie rfl ⟨rfl,rfl⟩ (by kernel_rfl) rfl
  (fun f fn hf hfn=>by
   obtain rfl:f=3:=Option.some.inj ((show Tryz.prog.funcNamed "ddi/ddilaw29.CachePlays" =some 3 by kernel_rfl).symm.trans hf) |>.symm
   obtain rfl:fn=Tryz.f3:=(Option.some.inj (Tryz.func3.symm.trans hfn)).symm
   exact⟨by kernel_rfl,fun j t ht=>by
    rw[Tryz.params3]at ht
    have w3:Tryz.prog.wantsStandIn 3=false:=by kernel_rfl
    have w22:Tryz.prog.wantsStandIn 22=false:=by kernel_rfl
    rcases j with _|j
    · have:t=3:=by simpa using ht.symm
      subst this;exact w3
    rcases j with _|j
    · have:t=22:=by simpa using ht.symm
      subst this;exact w22
    · simp at ht⟩)
  (by kernel_rfl)
end Go.Proofs.YtmficjbenbhneaaGreatDoor.CachePlaysRow
