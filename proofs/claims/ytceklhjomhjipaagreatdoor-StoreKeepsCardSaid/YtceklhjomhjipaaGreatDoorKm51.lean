/- Texts of this claim, merged: KeepsCard. -/
import Derived.Deep.DeepWitnessRowRef
import Derived.LaidHandle
import Derived.Test.YtceklhjomhjipaaGreatDoorTie
import Derived.Test.YtceklhjomhjipaaGreatDoorKm50
set_option maxHeartbeats 16000000
set_option maxRecDepth 1000000
set_option linter.all false
namespace Go.Proofs.YtceklhjomhjipaaGreatDoor
open Go.ChangeShapes Go.ChangeMaps Go.WideShapes Go.ChangeAt Go.RowKit
namespace Keeps
theorem own:ownKnob Tryz.prog.godebug=none:=by kernel_rfl
theorem laidOut:laidOutB Tryz.prog=true:=by kernel_rfl
theorem qOD (H:Type) (enc:TypeId×Value→H) (W:World) (base:Nat) (args:Array Value) (ds gs:List (DataW H)) (before:List MemPlace)
  (hval:∀ (j:Nat) t v,Tryz.f3.params[j]?=some t→args[j]?=some v→Value.okWide Tryz.prog W .any base t v)
  (hW:DataW.Whole enc Tryz.prog Tryz.f3.params.toList Rows.storeKeepsSpec.vars false W args.toList ds gs before)
  (hsz:(DataW.weightsEach Tryz.prog (Tryz.f3.params.toList++[]) (ds++gs)).all (·≤reachBytes)=true) (hL:laidMetH Tryz.prog Rows.storeKeepsRow.laid W) (hS:W.ShapedOpen Tryz.prog) :
  Calls Tryz.prog 3 args W fun e W'=>∃ v,e=.returned v∧Rows.storeKeepsSpec.post enc Tryz.prog Tryz.f3 false true false false W args v W':=by
 have hW':=hW
 obtain ⟨p,q,hA0,hV,rfl,hfz,hnd⟩:=hW
 have hA:DataW.TrodAll enc Tryz.prog W 0 (fun _=>true) true Tryz.f3.params.toList args.toList ds p:=hA0
 rw [Tryz.params3] at hA hval
 obtain ⟨v0,vs0,d0,ds0,p0,q0,hargs,rfl,rfl,h0,r0⟩:=trodAll_cons hA
 obtain ⟨v1,vs1,d1,ds1,p1,q1,rfl,rfl,rfl,h1,r1⟩:=trodAll_cons r0
 obtain ⟨v2,vs2,d2,ds2,p2,q2,rfl,rfl,rfl,h2,r2⟩:=trodAll_cons r1
 obtain ⟨rfl,rfl,rfl⟩:=trodAll_nil r2
 obtain rfl:args=#[v0,v1,v2]:=by cases args;simp_all
 obtain ⟨rfl,rfl⟩:=trodVars_none hV
 have hmin:IntKind.i64.min=-9223372036854775808:=rfl
 have hmax:IntKind.i64.max=9223372036854775807:=rfl
 obtain ⟨A0,len0,cap0,rfl⟩:=okWide_slice Tryz.underlying22 (hval 0 22 v0 rfl rfl)
 obtain ⟨n1,rfl,rfl,rfl,z1⟩:=open_int Tryz.underlying3 (hval 1 3 v1 rfl rfl) h1
 have hz1:=z1
 simp only [Lit.wf,zC,decide_eq_true_eq] at hz1
 rw [hmin,hmax] at hz1
 obtain ⟨A2,len2,cap2,rfl⟩:=okWide_slice Tryz.underlying22 (hval 2 22 v2 rfl rfl)
 have h0k:=h0
 have hlt0:∀ x∈p0,x.block<W.heap.size:=fun x hx=>hW'.lt x (by simp [hx])
 have h2k:=h2
 have hlt2:∀ x∈p2,x.block<W.heap.size:=fun x hx=>hW'.lt x (by simp [hx])
 have fit:Fit (DataW.weightsEach Tryz.prog [22,3,22] [d0,.lit (.int .i64 n1),d2]):=fun x hx=>by
  have:=List.all_eq_true.1 hsz x (by rw [Tryz.params3];simpa using hx)
  simpa using this
 simp only [DataW.weightsEach,List.append_nil] at fit
 have fit0:=fit.left
 obtain ⟨fuel0,t0⟩:=h0
 obtain ⟨An0,cn0,l0,e0,hs0⟩:=qEe t0 fit0
 simp only [Value.cells,zD,and_true,zC1] at e0
 obtain ⟨rfl,rfl,rfl⟩:=e0
 have fit2:=fit.right.right
 obtain ⟨fuel2,t2⟩:=h2
 obtain ⟨An2,cn2,l2,e2,hs2⟩:=qEe t2 fit2
 simp only [Value.cells,zD,and_true,zC1] at e2
 obtain ⟨rfl,rfl,rfl⟩:=e2
 clear hA0 fit hsz
 simp only [List.append_nil] at hW'
 obtain ⟨pe,hE,hVr⟩:=errs hL hS
 have walk:=qGE W pe hE hVr (.slice A0 l0.length cap0) (.slice A2 l2.length cap2) l0 l2 (by have:=hs0.2.2.1;have:=hs0.2.2.2;omega) (by have:=hs2.2.2.1;have:=hs2.2.2.2;omega) hs0.1 hs2.1 n1 hz1.1 hz1.2
 refine walk.mono fun e W' ⟨he,hb⟩=>?_
 subst he
 exact ⟨_,rfl,_,_,_,[],_,[],hW',trodAll_mk1 (shut_bool Tryz.underlying4 _),trodAll_cons_mk (Below.trod laidOut (by kernel_rfl) (of_decide_eq_true (by kernel_rfl)) h0k hb hlt0) (trodAll_cons_mk (shut_int Tryz.underlying3 z1) (trodAll_cons_mk (Below.trod laidOut (by kernel_rfl) (of_decide_eq_true (by kernel_rfl)) h2k hb hlt2) trodAll_mk0)),rfl,hb.frame _,fun h=>by cases h⟩
def qPo:Array Value:=#[.slice none 0 0,.int .i64 0,.slice none 0 0]
noncomputable def qJz (os:Os):World :=
 let w0:=World.holding Tryz.prog os ⟨#[],#[],[]⟩
 { w0 with heap:=w0.heap.modify 8 fun
   | .cells _ t frozen=>.cells #[.iface 242 (.agg #[.pointer (some ⟨21,27,none⟩)])] t frozen
   | o=>o }
noncomputable def qCw (os:Os):World:=(qJz os).layVars Tryz.prog (Rows.storeKeepsRow.laid.filter fun x=>x.2.handleName?.isNone)
theorem qIK (os:Os):(qCw os).os=os:=World.layVars_os _ _ _
theorem qNo (os:Os):laidMet Tryz.prog (Rows.storeKeepsRow.laid.filter fun x=>x.2.handleName?.isNone) (qCw os):=by
 generalize hd:(Rows.storeKeepsRow.laid.filter fun x=>x.2.handleName?.isNone)=data
 have hw:qCw os=(qJz os).layVars Tryz.prog data:=by rw [← hd];rfl
 have e1:(data.filter fun x=>(data.map (·.1)).contains x.1)=data:=List.filter_eq_self.2 fun x hx=>List.contains_iff_mem.2 (ze.2 ⟨x,hx,rfl⟩)
 have e2:(data.filter fun x=>!(data.map (·.1)).contains x.1)=[]:=List.filter_eq_nil_iff.2 fun x hx=>by rw [List.contains_iff_mem.2 (ze.2 ⟨x,hx,rfl⟩)];simp
 exact laidMet_layVars (w0:=qJz os) (data.map (·.1)) [] (by rw [e1,hw]) (by rw [e1,← hd];kernel_rfl) (by rw [e1,← hd];kernel_rfl) (by rw [e2];exact LaidIn.none)
theorem qOv (os:Os):laidMetH Tryz.prog Rows.storeKeepsRow.laid ((qCw os).forCall (fun _ _=>0) ⟨#[],qPo,[]⟩).memory :=
 laidMetH_of_parts ((qNo os).of_heap (by simp [World.memory,World.forCall,Input.heap])) (by kernel_rfl)
theorem reads (os:Os) {H:Type} (enc:TypeId×Value→H):∃ ds places,DataW.whole enc Tryz.prog ((qCw os).forCall (fun _ _=>0) ⟨#[],qPo,[]⟩).memory Tryz.f3.params.toList Rows.storeKeepsSpec.vars false qPo.toList 8=some (ds,[],places) :=
 ⟨[.nil,.lit (.int .i64 0),.nil],[],by kernel_rfl⟩
theorem lifted (os:Os) (started:os.Started) (H:Type) (enc:TypeId×Value→H) (F:Stop.Interp) :
  ReturnsInHanded {} Tryz.checked os 3 .any ((OpenSpec.ofChange Rows.storeKeepsSpec).preRow enc Tryz.prog Tryz.f3 Rows.storeKeepsRow.domain false Rows.storeKeepsRow.laid) (((OpenSpec.ofChange Rows.storeKeepsSpec).at F).post enc Tryz.prog Tryz.f3 false true false false):=by
 obtain ⟨ds,places,hx⟩:=reads os enc
 refine returnsInHanded_of_row (C:=Tryz.checked) (s:=OpenSpec.ofChange Rows.storeKeepsSpec) own started (by kernel_rfl) Tryz.func3
  (witness_row_atRef (enc:=enc) (C:=Tryz.checked) false (qCw os) qPo (qIK os) (by kernel_rfl) (by kernel_rfl) (by kernel_rfl)
   (OpenSpec.preRow_of_cond 8 hx (by rfl) (fun k hk=>by cases hk) (by kernel_rfl) (qOv os))) ?_
 intro W base args ds gs before hval hW _ _ hsz hL hS _
 exact qOD H enc W base args ds gs before hval hW hsz hL hS
theorem said:Rows.StoreKeepsSaid :=
 OpenClaim.holds_of_cond 3 Tryz.f3 rfl rfl rfl rfl rfl rfl rfl ⟨rfl,rfl,rfl,rfl,rfl⟩ rfl rfl rfl rfl rfl s1 Tryz.func3 s2
  s3 s4
  (fun os started H enc _ F=>by rw [OpenClaim.pre_eq_preRow];exact lifted os started H enc F)
theorem plain (f:FuncId) (fn:Func) (hf:Tryz.pinned.checked.prog.funcNamed "stillroom/stillroomlaw4.StoreKeeps"=some f) (hfn:Tryz.pinned.checked.prog.funcs[f]?=some fn) :
  true=Tryz.pinned.checked.prog.looks []∧∀ (j:Nat) t,fn.params[j]?=some t→Tryz.pinned.checked.prog.wantsStandIn t=false:=by
 obtain rfl:f=3:=Option.some.inj ((show Tryz.prog.funcNamed "stillroom/stillroomlaw4.StoreKeeps"=some 3 by kernel_rfl).symm.trans hf) |>.symm
 obtain rfl:fn=Tryz.f3:=(Option.some.inj (Tryz.func3.symm.trans hfn)).symm
 refine ⟨by kernel_rfl,fun j t ht=>?_⟩
 rw [Tryz.params3] at ht
 have hm:t=22∨t=3:=by
  have:=Array.mem_of_getElem? ht
  have hx:t=22∨t=3∨t=22:=by simpa using this
  rcases hx with h | h | h
  ·exact .inl h
  ·exact .inr h
  ·exact .inl h
 rcases hm with rfl | rfl
 ·exact (show Tryz.prog.wantsStandIn 22=false by kernel_rfl)
 ·exact (show Tryz.prog.wantsStandIn 3=false by kernel_rfl)
theorem card:Rows.StoreKeepsCardSaid :=
 Claim7.holds_tied_plain_at .later [] _ _ _ _ said (fun _ h=>by cases h) (by kernel_rfl) (fun _ h=>by cases h) storeKeeps_row_tie rfl ⟨rfl,rfl⟩ (by kernel_rfl) rfl plain (by kernel_rfl)
end Keeps
end Go.Proofs.YtceklhjomhjipaaGreatDoor
