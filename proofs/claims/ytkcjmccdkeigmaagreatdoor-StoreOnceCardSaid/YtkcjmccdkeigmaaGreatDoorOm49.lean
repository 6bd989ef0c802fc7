/- Proved: the law StoreOnce answers true at every list of lines and every number, and leaves them as they were (the statement's tied card). Conditions: none of mine; the row's own (the package variables read as the program's text lays them; what is met fits in a process's addresses). Texts of this claim, merged: OnceCard. -/
import Derived.Deep.DeepWitnessRowRef
import Derived.LaidHandle
import Derived.Test.YtkcjmccdkeigmaaGreatDoorTie
import Derived.Test.YtkcjmccdkeigmaaGreatDoorOm48
set_option maxHeartbeats 16000000
set_option maxRecDepth 1000000
set_option linter.all false
namespace Go.Proofs.YtkcjmccdkeigmaaGreatDoor
open Go.ChangeShapes Go.ChangeMaps Go.WideShapes Go.ChangeAt Go.RowKit
namespace Once
theorem own:ownKnob Tryz.prog.godebug=none:=by kernel_rfl
theorem laidOut:laidOutB Tryz.prog=true:=by kernel_rfl
theorem qOX (H:Type) (enc:TypeId×Value→H) (W:World) (base:Nat) (args:Array Value) (ds gs:List (DataW H)) (before:List MemPlace)
  (hval:∀ (j:Nat) t v,Tryz.f3.params[j]?=some t→args[j]?=some v→Value.okWide Tryz.prog W .any base t v)
  (hW:DataW.Whole enc Tryz.prog Tryz.f3.params.toList Rows.storeOnceSpec.vars false W args.toList ds gs before)
  (hsz:(DataW.weightsEach Tryz.prog (Tryz.f3.params.toList++[]) (ds++gs)).all (·≤reachBytes)=true) (hL:laidMetH Tryz.prog Rows.storeOnceRow.laid W) (hS:W.ShapedOpen Tryz.prog) :
  Calls Tryz.prog 3 args W fun e W'=>∃ v,e=.returned v∧Rows.storeOnceSpec.post enc Tryz.prog Tryz.f3 false true false false W args v W':=by
 have hW':=hW
 obtain ⟨p,q,hA0,hV,rfl,hfz,hnd⟩:=hW
 have hA:DataW.TrodAll enc Tryz.prog W 0 (fun _=>true) true Tryz.f3.params.toList args.toList ds p:=hA0
 rw [Tryz.params3] at hA hval
 obtain ⟨v0,vs0,d0,ds0,p0,q0,hargs,rfl,rfl,h0,r0⟩:=trodAll_cons hA
 obtain ⟨v1,vs1,d1,ds1,p1,q1,rfl,rfl,rfl,h1,r1⟩:=trodAll_cons r0
 obtain ⟨rfl,rfl,rfl⟩:=trodAll_nil r1
 obtain rfl:args=#[v0,v1]:=by cases args;simp_all
 obtain ⟨rfl,rfl⟩:=trodVars_none hV
 obtain ⟨A2,len2,cap2,rfl⟩:=okWide_slice Tryz.underlying22 (hval 0 22 v0 rfl rfl)
 obtain ⟨at_,rfl,rfl,rfl,z1⟩:=open_int Tryz.underlying3 (hval 1 3 v1 rfl rfl) h1
 have hmin:IntKind.i64.min=-9223372036854775808:=rfl
 have hmax:IntKind.i64.max=9223372036854775807:=rfl
 have hz1:=z1
 simp only [Lit.wf,zC,decide_eq_true_eq] at hz1
 rw [hmin,hmax] at hz1
 have h0k:=h0
 have hlt0:∀ x∈p0,x.block<W.heap.size:=fun x hx=>hW'.lt x (by simp [hx])
 have fit:Fit (DataW.weightsEach Tryz.prog [22,3] [d0,.lit (.int .i64 at_)]):=fun x hx=>by
  have:=List.all_eq_true.1 hsz x (by rw [Tryz.params3];simpa using hx)
  simpa using this
 simp only [DataW.weightsEach,List.append_nil] at fit
 have fit:=fit.left
 obtain ⟨fuel0,t0⟩:=h0
 obtain ⟨An,cn,names,e2,hs⟩:=qHr t0 fit
 simp only [Value.cells,zD,and_true,zB1] at e2
 obtain ⟨rfl,rfl,rfl⟩:=e2
 clear hA0 fit hsz
 simp only [List.append_nil] at hW'
 obtain ⟨pe,hE,hVr⟩:=errs hL hS
 have walk:=qHU W pe hE hVr (.slice A2 names.length cap2) names (by have:=hs.2.2.1;have:=hs.2.2.2;omega) hs.1 at_ hz1.1 hz1.2
 refine walk.mono fun e W' ⟨he,hb⟩=>?_
 subst he
 exact ⟨_,rfl,_,_,_,[],_,[],hW',trodAll_mk1 (shut_bool Tryz.underlying4 _),trodAll_cons_mk (Below.trod laidOut (by kernel_rfl) (of_decide_eq_true (by kernel_rfl)) h0k hb hlt0) (trodAll_cons_mk (shut_int Tryz.underlying3 z1) trodAll_mk0),rfl,hb.frame _,fun h=>by cases h⟩
def qOB:Array Value:=#[.slice none 0 0,.int .i64 0]
noncomputable def qJ2 (os:Os):World :=
 let w0:=World.holding Tryz.prog os ⟨#[],#[],[]⟩
 { w0 with heap:=w0.heap.modify 13 fun
   | .cells _ t frozen=>.cells #[.iface 173 (.agg #[.pointer (some ⟨22,27,none⟩)])] t frozen
   | o=>o }
noncomputable def qCu (os:Os):World:=(qJ2 os).layVars Tryz.prog (Rows.storeOnceRow.laid.filter fun x=>x.2.handleName?.isNone)
theorem qH8 (os:Os):(qCu os).os=os:=World.layVars_os _ _ _
theorem qNs (os:Os):laidMet Tryz.prog (Rows.storeOnceRow.laid.filter fun x=>x.2.handleName?.isNone) (qCu os):=by
 generalize hd:(Rows.storeOnceRow.laid.filter fun x=>x.2.handleName?.isNone)=data
 have hw:qCu os=(qJ2 os).layVars Tryz.prog data:=by rw [← hd];rfl
 have e1:(data.filter fun x=>(data.map (·.1)).contains x.1)=data:=List.filter_eq_self.2 fun x hx=>List.contains_iff_mem.2 (zb.2 ⟨x,hx,rfl⟩)
 have e2:(data.filter fun x=>!(data.map (·.1)).contains x.1)=[]:=List.filter_eq_nil_iff.2 fun x hx=>by rw [List.contains_iff_mem.2 (zb.2 ⟨x,hx,rfl⟩)];simp
 exact laidMet_layVars (w0:=qJ2 os) (data.map (·.1)) [] (by rw [e1,hw]) (by rw [e1,← hd];kernel_rfl) (by rw [e1,← hd];kernel_rfl) (by rw [e2];exact LaidIn.none)
theorem qOh (os:Os):laidMetH Tryz.prog Rows.storeOnceRow.laid ((qCu os).forCall (fun _ _=>0) ⟨#[],qOB,[]⟩).memory :=
 laidMetH_of_parts ((qNs os).of_heap (by simp [World.memory,World.forCall,Input.heap])) (by kernel_rfl)
theorem reads (os:Os) {H:Type} (enc:TypeId×Value→H):∃ ds places,DataW.whole enc Tryz.prog ((qCu os).forCall (fun _ _=>0) ⟨#[],qOB,[]⟩).memory Tryz.f3.params.toList Rows.storeOnceSpec.vars false qOB.toList 8=some (ds,[],places) :=
 ⟨[.nil,.lit (.int .i64 0)],[],by kernel_rfl⟩
theorem lifted (os:Os) (started:os.Started) (H:Type) (enc:TypeId×Value→H) (F:Stop.Interp) :
  ReturnsInHanded {} Tryz.checked os 3 .any ((OpenSpec.ofChange Rows.storeOnceSpec).preRow enc Tryz.prog Tryz.f3 Rows.storeOnceRow.domain false Rows.storeOnceRow.laid) (((OpenSpec.ofChange Rows.storeOnceSpec).at F).post enc Tryz.prog Tryz.f3 false true false false):=by
 obtain ⟨ds,places,hx⟩:=reads os enc
 refine returnsInHanded_of_row (C:=Tryz.checked) (s:=OpenSpec.ofChange Rows.storeOnceSpec) own started (by kernel_rfl) Tryz.func3
  (witness_row_atRef (enc:=enc) (C:=Tryz.checked) false (qCu os) qOB (qH8 os) (by kernel_rfl) (by kernel_rfl) (by kernel_rfl)
   (OpenSpec.preRow_of_cond 8 hx (by rfl) (fun k hk=>by cases hk) (by kernel_rfl) (qOh os))) ?_
 intro W base args ds gs before hval hW _ _ hsz hL hS _
 exact qOX H enc W base args ds gs before hval hW hsz hL hS
theorem said:Rows.StoreOnceSaid :=
 OpenClaim.holds_of_cond 3 Tryz.f3 rfl rfl rfl rfl rfl rfl rfl ⟨rfl,rfl,rfl,rfl,rfl⟩ rfl rfl rfl rfl rfl s1 Tryz.func3 s2
  s3 s4
  (fun os started H enc _ F=>by rw [OpenClaim.pre_eq_preRow];exact lifted os started H enc F)
theorem plain (f:FuncId) (fn:Func) (hf:Tryz.pinned.checked.prog.funcNamed "stillroom/stillroomlaw4.StoreOnce"=some f) (hfn:Tryz.pinned.checked.prog.funcs[f]?=some fn) :
  true=Tryz.pinned.checked.prog.looks []∧∀ (j:Nat) t,fn.params[j]?=some t→Tryz.pinned.checked.prog.wantsStandIn t=false:=by
 obtain rfl:f=3:=Option.some.inj ((show Tryz.prog.funcNamed "stillroom/stillroomlaw4.StoreOnce"=some 3 by kernel_rfl).symm.trans hf) |>.symm
 obtain rfl:fn=Tryz.f3:=(Option.some.inj (Tryz.func3.symm.trans hfn)).symm
 refine ⟨by kernel_rfl,fun j t ht=>?_⟩
 rw [Tryz.params3] at ht
 have hm:t=22∨t=3:=by
  have:=Array.mem_of_getElem? ht
  simpa using this
 rcases hm with rfl | rfl
 ·exact (show Tryz.prog.wantsStandIn 22=false by kernel_rfl)
 ·exact (show Tryz.prog.wantsStandIn 3=false by kernel_rfl)
theorem card:Rows.StoreOnceCardSaid :=
 Claim7.holds_tied_plain_at .later [] _ _ _ _ said (fun _ h=>by cases h) (by kernel_rfl) (fun _ h=>by cases h) storeOnce_row_tie rfl ⟨rfl,rfl⟩ (by kernel_rfl) rfl plain (by kernel_rfl)
end Once
end Go.Proofs.YtkcjmccdkeigmaaGreatDoor
