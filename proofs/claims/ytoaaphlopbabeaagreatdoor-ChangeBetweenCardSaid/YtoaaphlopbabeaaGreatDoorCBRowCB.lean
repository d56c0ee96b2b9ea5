/- PROVES the statement ChangeBetween: for every input the law returns true, and the arguments read behind the call as_ before. No conditions. -/
import Derived.Test.YtoaaphlopbabeaaGreatDoorRows
import Derived.Test.YtoaaphlopbabeaaGreatDoorCBLibD
import Derived.Test.YtoaaphlopbabeaaGreatDoorTie
import Derived.Test.YtoaaphlopbabeaaGreatDoorCards
import Derived.Test.YtoaaphlopbabeaaGreatDoorCBLwB
import Derived.ProofKit
import Derived.SizedLaws
import Derived.OpenShut
import Derived.LaidMore
import Derived.Stop.Joined
import Derived.SevenTiedAt
set_option linter.all false
namespace Go.Proofs.YtoaaphlopbabeaaGreatDoor.ChangeBetweenRow
open Go Go.Pev Go.ChangeShapes Go.WideShapes Go.ChangeAt Go.RowKit
theorem own:ownKnob Tryz.prog.godebug=none:=by kernel_rfl
theorem laidOut:laidOutB Tryz.prog=true:=by kernel_rfl
def ty26:Ty:=(.st [(.sl 8 (.st [(.st [(.st [.bool,(.int .u64),(.int .u64)]),(.int .i64)]),(.int .i64),.str,.str,(.int .i64)])),(.sl 5 (.st [.str,(.st [.bool,(.int .u64),(.int .u64)]),(.int .i64)])),(.sl 1 .str)])
theorem qb6i:tyOf Tryz.prog 12 26=some ty26:=by kernel_rfl
theorem asks:∀(y0:AV) (y1:AV),(ty26).fitv y0->(ty26).fitv y1->q5r Tryz.prog 10 [y0,y1] (· =.bool true):=by
 intro y0 y1 f0 f1
 obtain⟨a0,h0,g0⟩:=qb2t f0
 have k0:fitT Mem.none (.st [.l (.sl 8),.l (.sl 5),.l (.sl 1)]) y0=true:=qbzu a0 ((qbst Mem.none [(.sl 8),(.sl 5),(.sl 1)] y0.cells).trans h0)
 obtain⟨a1,h1,g1⟩:=qb2t f1
 have k1:fitT Mem.none (.st [.l (.sl 8),.l (.sl 5),.l (.sl 1)]) y1=true:=qbzu a1 ((qbst Mem.none [(.sl 8),(.sl 5),(.sl 1)] y1.cells).trans h1)
 have hfit:fitS Dn.S139_ (qc6 [y0,y1]) Mem.none=true:=by
  show(match q05 (qc6 [y0,y1]) Mem.none Dn.S139_.ts with|true=>true|false=>false)=true
  have:q05 (qc6 [y0,y1]) Mem.none Dn.S139_.ts=true:=by
   exact qbuf (show fitT Mem.none _ ((qc6 [y0,y1]) 0)=true from k0) (qbuf (show fitT Mem.none _ ((qc6 [y0,y1]) 1)=true from k1) (rfl))
  rw[this]
 have law:Dn.qk2 (gL y0.cells 0) (gL y0.cells 1) (gL y0.cells 2) (gL y1.cells 0) (gL y1.cells 1) (gL y1.cells 2)=some true:=by
  exact Dn.law_ChangeBetween (s:=⟨_,_,_⟩) (t:=⟨_,_,_⟩) ⟨Dn.blksFit_of g0.1,Dn.hstsFit_of g0.2.1,Dn.zonsFit_of g0.2.2.1⟩ ⟨Dn.blksFit_of g1.1,Dn.hstsFit_of g1.2.1,Dn.zonsFit_of g1.2.2.1⟩
 refine qby9 Dn.q6u.h (fun K=> ?_)
 show chk (fitS Dn.S139_ (qc6 [y0,y1]) Mem.none) (oB (Dn.qk2 (gL y0.cells 0) (gL y0.cells 1) (gL y0.cells 2) (gL y1.cells 0) (gL y1.cells 1) (gL y1.cells 2)) fun r=>K (.bool r))=K (.bool true)
 rw[hfit,law];rfl
noncomputable def qbu2 (os:Os):World:=
 let w0:=World.holding Tryz.prog os ⟨#[],#[],[]⟩
 let put (h:Array Obj) (g:Nat) (cs:Array Value):Array Obj:=h.modify g fun
  | .cells _ t frozen=>.cells cs t frozen
  |o=>o
 let h1:=put w0.heap 2 ((List.range 16).flatMap fun i=>[Value.int .u8 (if i=0 then 128 else if i=1 then 160 else if i=2 then 128 else if i=3 then 144 else if i=4 then 128 else 0),Value.int .u8 (if i=0 then 191 else if i=1 then 191 else if i=2 then 159 else if i=3 then 191 else if i=4 then 143 else 0)]).toArray
 let h2:=put h1 1 (Pinned.utf8FirstZ.map fun(z:Nat)=>Value.int .u8 z).toArray
 {w0 with heap:=h2}
theorem qb50 (os:Os)(args:Array Value):laidMetH Tryz.prog Rows.changeBetweenRow.laid ((qbu2 os).forCall (fun _ _=>0) ⟨#[],args,[]⟩).memory:=
 laidMetH_of_parts3 (fuel:=8) (laidMet_of_run' 8 (by kernel_rfl) (by kernel_rfl)) (by kernel_rfl) (by kernel_rfl)
set_option maxRecDepth 100000 in
theorem lifted (os:Os)(started:os.Started)(H:Type)(enc:TypeId×Value->H):
 ReturnsInHanded {} Tryz.checked os 10 .any (fun w args=>(Rows.changeBetweenSpec.pre enc Tryz.prog Tryz.f10 [] false w args/\laidMetH Tryz.prog Rows.changeBetweenRow.laid w)/\sizedMet enc Tryz.prog Tryz.f10 (OpenSpec.ofChange Rows.changeBetweenSpec) false w args) (Rows.changeBetweenSpec.post enc Tryz.prog Tryz.f10 false true false false):=by
 refine returnsInHanded_of_change_and (C:=Tryz.checked) (X:=fun w _=>laidMetH Tryz.prog Rows.changeBetweenRow.laid w) (fun _ _ _ hh h=>h.of_heap hh) own started (by kernel_rfl) Tryz.func10
  (ChangeSpec.witness_at (enc:=enc) (C:=Tryz.checked) (os:=os) (X:=fun w _=>laidMetH Tryz.prog Rows.changeBetweenRow.laid w) false (qbu2 os) #[.agg #[.slice none 0 0,.slice none 0 0,.slice none 0 0],.agg #[.slice none 0 0,.slice none 0 0,.slice none 0 0]] 8 rfl (by kernel_rfl) (by kernel_rfl) (by kernel_rfl) (by kernel_rfl) (by kernel_rfl) (qb50 os _)) ?_
 intro W base args ds gs before hval0 hW _ hsz0 _ _
 have hval:∀(j:Nat) t v,Tryz.f10.params[j]?=some t->args[j]?=some v->Value.okWide Tryz.prog W .any base t v:=hval0
 have hW':=hW
 obtain⟨p,q,hA0,hV,rfl,hfz,hnd⟩:=hW
 have hA:DataW.TrodAll enc Tryz.prog W 0 (fun _=>true) true Tryz.f10.params.toList args.toList ds p:=hA0
 rw[Tryz.params10]at hA hval
 obtain⟨v0,vs0,d0,ds0,p0,q0,hargs,rfl,rfl,h0,r0⟩:=trodAll_cons hA
 obtain⟨v1,vs1,d1,ds1,p1,q1,rfl,rfl,rfl,h1,r1⟩:=trodAll_cons r0
 obtain⟨rfl,rfl,rfl⟩:=trodAll_nil r1
 obtain rfl:args=#[v0,v1]:=by cases args;simp_all
 obtain⟨rfl,rfl⟩:=trodVars_none hV
 have lt0:∀x∈p0,x.block<W.heap.size:=by obtain⟨m,hm⟩:=h0;exact DataW.trod_lt m _ _ _ hm
 obtain⟨y0,f0,c0⟩:=qbw8 qb6i (hval 0 26 v0 rfl rfl) h0
 have lt1:∀x∈p1,x.block<W.heap.size:=by obtain⟨m,hm⟩:=h1;exact DataW.trod_lt m _ _ _ hm
 obtain⟨y1,f1,c1⟩:=qbw8 qb6i (hval 1 26 v1 rfl rfl) h1
 clear hA0 hval0 hsz0
 refine(qb2g (asks y0 y1 f0 f1) rfl (qbtx c0 (qbtx c1 qb2h))).mono fun e W' ⟨he,bel⟩=> ?_
 subst he
 exact⟨_,rfl,_,_,_,[],_,[],hW',trodAll_mk1 (shut_bool Tryz.underlying4 _),(trodAll_cons_mk (Below.trod laidOut (by kernel_rfl) (of_decide_eq_true (by kernel_rfl)) h0 bel lt0) (trodAll_cons_mk (Below.trod laidOut (by kernel_rfl) (of_decide_eq_true (by kernel_rfl)) h1 bel lt1) trodAll_mk0)),rfl,bel.frame _,fun h=>by cases h⟩
theorem qb38:Rows.ChangeBetweenSaid:=
 OpenClaim.holds_of_wide 10 Tryz.f10 rfl rfl rfl rfl rfl rfl rfl ⟨rfl,rfl,rfl,rfl,rfl⟩ rfl rfl rfl rfl rfl (by kernel_rfl) Tryz.func10 (by kernel_rfl)
  (of_decide_eq_true (by kernel_rfl)) (by unfold Func.isWrapper;first|(rw[if_pos (by decide+kernel)];kernel_rfl)|(rw[if_neg (by decide+kernel)];exact⟨rfl,rfl⟩))
  (fun os started H enc _=>lifted os started H enc)
theorem over:Rows.ChangeBetweenCardSaid:=
 Claim7.holds_tied_plain_at .later [] [.data,.pinned] true (true, "87d6cce8978fe730db3ba867738b08c07e00c43514e660ec9fecb4e8c7b3ebda") false
  qb38 (fun _ h=>by cases h) (by kernel_rfl) (fun _ h=>by cases h) changeBetween_row_tie rfl ⟨rfl,rfl⟩ (by kernel_rfl) rfl
  (fun f fn hf hfn=>by
   obtain rfl:f=10:=Option.some.inj ((show Tryz.prog.funcNamed "ddi/ddilaw51.ChangeBetween" =some 10 by kernel_rfl).symm.trans hf) |>.symm
   obtain rfl:fn=Tryz.f10:=(Option.some.inj (Tryz.func10.symm.trans hfn)).symm
   exact⟨by kernel_rfl,fun j t ht=>by
    rw[Tryz.params10]at ht
    have w26:Tryz.prog.wantsStandIn 26=false:=by kernel_rfl
    rcases j with _|j
    · have:t=26:=by simpa using ht.symm
      subst this;exact w26
    rcases j with _|j
    · have:t=26:=by simpa using ht.symm
      subst this;exact w26
    · simp at ht⟩)
  (by kernel_rfl)
end Go.Proofs.YtoaaphlopbabeaaGreatDoor.ChangeBetweenRow
