/- PROVES the statement ChangeRebases: for every input the law returns true, and the arguments read behind the call as_ before. No conditions. -/
import Derived.Test.YtoaaphlopbabeaaGreatDoorRows
import Derived.Test.YtoaaphlopbabeaaGreatDoorCXLibD
import Derived.Test.YtoaaphlopbabeaaGreatDoorTie
import Derived.Test.YtoaaphlopbabeaaGreatDoorCards
import Derived.Test.YtoaaphlopbabeaaGreatDoorCXLwB
import Derived.ProofKit
import Derived.SizedLaws
import Derived.OpenShut
import Derived.LaidMore
import Derived.Stop.Joined
import Derived.SevenTiedAt
set_option linter.all false
namespace Go.Proofs.YtoaaphlopbabeaaGreatDoor.ChangeRebasesRow
open Go Go.Pev Go.ChangeShapes Go.WideShapes Go.ChangeAt Go.RowKit
theorem own:ownKnob Tryz.prog.godebug=none:=by kernel_rfl
theorem laidOut:laidOutB Tryz.prog=true:=by kernel_rfl
def ty26:Ty:=(.st [(.sl 8 (.st [(.st [(.st [.bool,(.int .u64),(.int .u64)]),(.int .i64)]),(.int .i64),.str,.str,(.int .i64)])),(.sl 5 (.st [.str,(.st [.bool,(.int .u64),(.int .u64)]),(.int .i64)])),(.sl 1 .str)])
theorem qb41:tyOf Tryz.prog 12 26=some ty26:=by kernel_rfl
def ty48:Ty:=(.sl 17 (.st [(.int .i64),(.st [(.st [(.st [.bool,(.int .u64),(.int .u64)]),(.int .i64)]),(.int .i64),.str,.str,(.int .i64)]),(.int .i64),(.int .i64),(.st [.str,(.st [.bool,(.int .u64),(.int .u64)]),(.int .i64)]),.str]))
theorem qb8h:tyOf Tryz.prog 12 48=some ty48:=by kernel_rfl
theorem asks:∀(y0:AV) (y1:AV) (y2:AV),(ty26).fitv y0->(ty26).fitv y1->(ty48).fitv y2->q3y Tryz.prog 6 [y0,y1,y2] (· =.bool true):=by
 intro y0 y1 y2 f0 f1 f2
 obtain⟨a0,h0,g0⟩:=qb1p f0
 have k0:fitT Mem.none (.st [.l (.sl 8),.l (.sl 5),.l (.sl 1)]) y0=true:=qbyu a0 ((qbjb Mem.none [(.sl 8),(.sl 5),(.sl 1)] y0.cells).trans h0)
 obtain⟨a1,h1,g1⟩:=qb1p f1
 have k1:fitT Mem.none (.st [.l (.sl 8),.l (.sl 5),.l (.sl 1)]) y1=true:=qbyu a1 ((qbjb Mem.none [(.sl 8),(.sl 5),(.sl 1)] y1.cells).trans h1)
 obtain⟨h2,g2⟩:=qb5s rfl f2
 have k2:fitT Mem.none (.one (.l (.sl 17))) y2=true:=by
  have:=(qbjb Mem.none [(.sl 17)] [y2]).trans h2
  simp only[List.map_cons,List.map_nil,qp9]at this
  split at this
  · rename_i hk;exact hk
  · cases this
 have hfit:fitS Dn.S146_ (qbq [y0,y1,y2]) Mem.none=true:=by
  show(match qyo (qbq [y0,y1,y2]) Mem.none Dn.S146_.ts with|true=>true|false=>false)=true
  have:qyo (qbq [y0,y1,y2]) Mem.none Dn.S146_.ts=true:=by
   exact qbin (show fitT Mem.none _ ((qbq [y0,y1,y2]) 0)=true from k0) (qbin (show fitT Mem.none _ ((qbq [y0,y1,y2]) 1)=true from k1) (qbin (show fitT Mem.none _ ((qbq [y0,y1,y2]) 2)=true from k2) (rfl)))
  rw[this]
 have law:Dn.qiu (gL y0.cells 0) (gL y0.cells 1) (gL y0.cells 2) (gL y1.cells 0) (gL y1.cells 1) (gL y1.cells 2) (gL [y2] 0)=some true:=by
  exact Dn.law_ChangeRebases (s:=⟨_,_,_⟩) (t:=⟨_,_,_⟩) ⟨Dn.blksFit_of g0.1,Dn.hstsFit_of g0.2.1,Dn.zonsFit_of g0.2.2.1⟩ ⟨Dn.blksFit_of g1.1,Dn.hstsFit_of g1.2.1,Dn.zonsFit_of g1.2.2.1⟩ _ (Dn.chgsFit_of g2)
 refine qbx7 Dn.q42.h (fun K=> ?_)
 show chk (fitS Dn.S146_ (qbq [y0,y1,y2]) Mem.none) (oB (Dn.qiu (gL y0.cells 0) (gL y0.cells 1) (gL y0.cells 2) (gL y1.cells 0) (gL y1.cells 1) (gL y1.cells 2) (gL [y2] 0)) fun r=>K (.bool r))=K (.bool true)
 rw[hfit,law];rfl
noncomputable def qbt2 (os:Os):World:=
 let w0:=World.holding Tryz.prog os ⟨#[],#[],[]⟩
 let put (h:Array Obj) (g:Nat) (cs:Array Value):Array Obj:=h.modify g fun
  | .cells _ t frozen=>.cells cs t frozen
  |o=>o
 let h1:=put w0.heap 2 ((List.range 16).flatMap fun i=>[Value.int .u8 (if i=0 then 128 else if i=1 then 160 else if i=2 then 128 else if i=3 then 144 else if i=4 then 128 else 0),Value.int .u8 (if i=0 then 191 else if i=1 then 191 else if i=2 then 159 else if i=3 then 191 else if i=4 then 143 else 0)]).toArray
 let h2:=put h1 1 (Pinned.utf8FirstZ.map fun(z:Nat)=>Value.int .u8 z).toArray
 {w0 with heap:=h2}
theorem qb4i (os:Os)(args:Array Value):laidMetH Tryz.prog Rows.changeRebasesRow.laid ((qbt2 os).forCall (fun _ _=>0) ⟨#[],args,[]⟩).memory:=
 laidMetH_of_parts3 (fuel:=8) (laidMet_of_run' 8 (by kernel_rfl) (by kernel_rfl)) (by kernel_rfl) (by kernel_rfl)
set_option maxRecDepth 100000 in
theorem lifted (os:Os)(started:os.Started)(H:Type)(enc:TypeId×Value->H):
 ReturnsInHanded {} Tryz.checked os 6 .any (fun w args=>(Rows.changeRebasesSpec.pre enc Tryz.prog Tryz.f6 [] false w args/\laidMetH Tryz.prog Rows.changeRebasesRow.laid w)/\sizedMet enc Tryz.prog Tryz.f6 (OpenSpec.ofChange Rows.changeRebasesSpec) false w args) (Rows.changeRebasesSpec.post enc Tryz.prog Tryz.f6 false true false false):=by
 refine returnsInHanded_of_change_and (C:=Tryz.checked) (X:=fun w _=>laidMetH Tryz.prog Rows.changeRebasesRow.laid w) (fun _ _ _ hh h=>h.of_heap hh) own started (by kernel_rfl) Tryz.func6
  (ChangeSpec.witness_at (enc:=enc) (C:=Tryz.checked) (os:=os) (X:=fun w _=>laidMetH Tryz.prog Rows.changeRebasesRow.laid w) false (qbt2 os) #[.agg #[.slice none 0 0,.slice none 0 0,.slice none 0 0],.agg #[.slice none 0 0,.slice none 0 0,.slice none 0 0],.slice none 0 0] 8 rfl (by kernel_rfl) (by kernel_rfl) (by kernel_rfl) (by kernel_rfl) (by kernel_rfl) (qb4i os _)) ?_
 intro W base args ds gs before hval0 hW _ hsz0 _ _
 have hval:∀(j:Nat) t v,Tryz.f6.params[j]?=some t->args[j]?=some v->Value.okWide Tryz.prog W .any base t v:=hval0
 have hW':=hW
 obtain⟨p,q,hA0,hV,rfl,hfz,hnd⟩:=hW
 have hA:DataW.TrodAll enc Tryz.prog W 0 (fun _=>true) true Tryz.f6.params.toList args.toList ds p:=hA0
 rw[Tryz.params6]at hA hval
 obtain⟨v0,vs0,d0,ds0,p0,q0,hargs,rfl,rfl,h0,r0⟩:=trodAll_cons hA
 obtain⟨v1,vs1,d1,ds1,p1,q1,rfl,rfl,rfl,h1,r1⟩:=trodAll_cons r0
 obtain⟨v2,vs2,d2,ds2,p2,q2,rfl,rfl,rfl,h2,r2⟩:=trodAll_cons r1
 obtain⟨rfl,rfl,rfl⟩:=trodAll_nil r2
 obtain rfl:args=#[v0,v1,v2]:=by cases args;simp_all
 obtain⟨rfl,rfl⟩:=trodVars_none hV
 have lt0:∀x∈p0,x.block<W.heap.size:=by obtain⟨m,hm⟩:=h0;exact DataW.trod_lt m _ _ _ hm
 obtain⟨y0,f0,c0⟩:=qbnl qb41 (hval 0 26 v0 rfl rfl) h0
 have lt1:∀x∈p1,x.block<W.heap.size:=by obtain⟨m,hm⟩:=h1;exact DataW.trod_lt m _ _ _ hm
 obtain⟨y1,f1,c1⟩:=qbnl qb41 (hval 1 26 v1 rfl rfl) h1
 have lt2:∀x∈p2,x.block<W.heap.size:=by obtain⟨m,hm⟩:=h2;exact DataW.trod_lt m _ _ _ hm
 obtain⟨y2,f2,c2⟩:=qbnl qb8h (hval 2 48 v2 rfl rfl) h2
 clear hA0 hval0 hsz0
 refine(qb1b (asks y0 y1 y2 f0 f1 f2) rfl (qbh6 c0 (qbh6 c1 (qbh6 c2 qb1c)))).mono fun e W' ⟨he,bel⟩=> ?_
 subst he
 exact⟨_,rfl,_,_,_,[],_,[],hW',trodAll_mk1 (shut_bool Tryz.underlying4 _),(trodAll_cons_mk (Below.trod laidOut (by kernel_rfl) (of_decide_eq_true (by kernel_rfl)) h0 bel lt0) (trodAll_cons_mk (Below.trod laidOut (by kernel_rfl) (of_decide_eq_true (by kernel_rfl)) h1 bel lt1) (trodAll_cons_mk (Below.trod laidOut (by kernel_rfl) (of_decide_eq_true (by kernel_rfl)) h2 bel lt2) trodAll_mk0))),rfl,bel.frame _,fun h=>by cases h⟩
theorem qb2p:Rows.ChangeRebasesSaid:=
 OpenClaim.holds_of_wide 6 Tryz.f6 rfl rfl rfl rfl rfl rfl rfl ⟨rfl,rfl,rfl,rfl,rfl⟩ rfl rfl rfl rfl rfl (by kernel_rfl) Tryz.func6 (by kernel_rfl)
  (of_decide_eq_true (by kernel_rfl)) (by unfold Func.isWrapper;first|(rw[if_pos (by decide+kernel)];kernel_rfl)|(rw[if_neg (by decide+kernel)];exact⟨rfl,rfl⟩))
  (fun os started H enc _=>lifted os started H enc)
theorem over:Rows.ChangeRebasesCardSaid:=
 Claim7.holds_tied_plain_at .later [] [.data,.pinned] true (true, "87d6cce8978fe730db3ba867738b08c07e00c43514e660ec9fecb4e8c7b3ebda") false
  qb2p (fun _ h=>by cases h) (by kernel_rfl) (fun _ h=>by cases h) changeRebases_row_tie rfl ⟨rfl,rfl⟩ (by kernel_rfl) rfl
  (fun f fn hf hfn=>by
   obtain rfl:f=6:=Option.some.inj ((show Tryz.prog.funcNamed "ddi/ddilaw51.ChangeRebases" =some 6 by kernel_rfl).symm.trans hf) |>.symm
   obtain rfl:fn=Tryz.f6:=(Option.some.inj (Tryz.func6.symm.trans hfn)).symm
   exact⟨by kernel_rfl,fun j t ht=>by
    rw[Tryz.params6]at ht
    have w26:Tryz.prog.wantsStandIn 26=false:=by kernel_rfl
    have w48:Tryz.prog.wantsStandIn 48=false:=by kernel_rfl
    rcases j with _|j
    · have:t=26:=by simpa using ht.symm
      subst this;exact w26
    rcases j with _|j
    · have:t=26:=by simpa using ht.symm
      subst this;exact w26
    rcases j with _|j
    · have:t=48:=by simpa using ht.symm
      subst this;exact w48
    · simp at ht⟩)
  (by kernel_rfl)
end Go.Proofs.YtoaaphlopbabeaaGreatDoor.ChangeRebasesRow
