/- Proved: the law StoreGone answers true at every list of lines, and leaves it as it was (the statement's tied card). Conditions: none of mine; the row's own (the package variables read as the program's text lays them; what is met fits in a process's addresses). Texts of this claim, merged: GoneFacts, GoneFact2, GoneCard. -/
import Derived.Carry
import Derived.Deep.DeepHandedRow
import Derived.Deep.DeepWitnessRowRef
import Derived.LaidHandle
import Derived.Lay
import Derived.ProofKit
import Derived.Test.YthogfjmnnaoldaaGreatDoorCards
import Derived.Test.YthogfjmnnaoldaaGreatDoorTie
import Derived.Test.YthogfjmnnaoldaaGreatDoorGm49
set_option maxHeartbeats 16000000
set_option maxRecDepth 1000000
set_option linter.all false
namespace Go.Proofs.YthogfjmnnaoldaaGreatDoor
namespace Gone
theorem s1:Tryz.pinned.checked.prog.funcNamed Rows.storeGoneRow.func=some 3:=by kernel_rfl
theorem s3:Tryz.f3.isInstance Tryz.pinned.checked.prog Rows.storeGoneRow.origin Rows.storeGoneRow.targs:=of_decide_eq_true (by kernel_rfl)
theorem s4:Tryz.f3.isWrapper Tryz.pinned.checked.prog Rows.storeGoneRow.wrapper Rows.storeGoneRow.mainSum:=by unfold Func.isWrapper;first | (rw [zN1 (by decide +kernel)];kernel_rfl) | (rw [zM1 (by decide +kernel)];exact ⟨rfl,rfl⟩)
theorem j0:(Rows.storeGoneRow.wf (OpenSpec.ofChange (OpenSpec.ofChange Rows.storeGoneSpec).bare))=true:=by kernel_rfl
theorem j1:(laidOutB Tryz.pinned.checked.prog)=true:=by kernel_rfl
theorem j2:(mapsRowed Tryz.pinned.checked.prog)=true:=by kernel_rfl
theorem j3:(Tryz.f3.params.all (Tryz.pinned.checked.prog.readableRec ·))=true:=by kernel_rfl
theorem j4:(namedTie Tryz.pinned.checked.prog Rows.storeGoneRow.named (OpenSpec.ofChange Rows.storeGoneSpec).bare.vars)=true:=by kernel_rfl
theorem j5:((Rows.storeGoneRow.stops==[]))=true:=by kernel_rfl
theorem j6:((Tryz.pinned.checked.prog.stops==[]))=true:=by kernel_rfl
theorem j7:((Rows.storeGoneRow.knobs==[]))=true:=by kernel_rfl
theorem j8:((Tryz.pinned.checked.prog.stopKnobs==[]))=true:=by kernel_rfl
theorem j9:((Rows.storeGoneRow.inPlace==Tryz.pinned.checked.prog.inPlace 3))=true:=by kernel_rfl
theorem j10:((Rows.storeGoneRow.unfollowed==Tryz.pinned.checked.prog.unfollowed 3))=true:=by kernel_rfl
theorem j11:((Rows.storeGoneRow.recurses==Tryz.pinned.checked.prog.recurses 3))=true:=by kernel_rfl
theorem j12:((Rows.storeGoneRow.named==Tryz.pinned.checked.prog.varsNamed 3))=true:=by kernel_rfl
theorem j13:((Rows.storeGoneRow.maps==(Tryz.f3.params.toList++(OpenSpec.ofChange Rows.storeGoneSpec).bare.plain.varTypes Tryz.pinned.checked.prog).any (Tryz.pinned.checked.prog.mapsRec ·)))=true:=by kernel_rfl
theorem j14:((Rows.storeGoneRow.ifaces==(Tryz.f3.params.toList++(OpenSpec.ofChange Rows.storeGoneSpec).bare.plain.varTypes Tryz.pinned.checked.prog).any (Tryz.pinned.checked.prog.ifacesRec ·)))=true:=by kernel_rfl
theorem j15:((Rows.storeGoneRow.mapsOut==Tryz.pinned.checked.prog.mapsAmong Tryz.f3.resultTypes.toList))=true:=by kernel_rfl
theorem j16:((Rows.storeGoneRow.loops==(Tryz.f3.params.toList++(OpenSpec.ofChange Rows.storeGoneSpec).bare.plain.varTypes Tryz.pinned.checked.prog).any (Tryz.pinned.checked.prog.loopsFrom ·)))=true:=by kernel_rfl
theorem j17:((Rows.storeGoneRow.wideKeys==(Tryz.f3.params.toList++(OpenSpec.ofChange Rows.storeGoneSpec).bare.plain.varTypes Tryz.pinned.checked.prog++Tryz.f3.resultTypes.toList).any (Tryz.pinned.checked.prog.wideKeysFrom ·)))=true:=by kernel_rfl
theorem j18:((OpenSpec.ofChange Rows.storeGoneSpec).bare.vars.all (Tryz.pinned.checked.prog.varReadable ·))=true:=by kernel_rfl
theorem j19:(Tryz.f3.resultTypes.all (fun t=>Tryz.pinned.checked.prog.readableRec t&&decide (t<Tryz.pinned.checked.prog.types.size)))=true:=by kernel_rfl
theorem j20:((Rows.storeGoneRow.ifacesOut==Tryz.f3.resultTypes.toList.any (Tryz.pinned.checked.prog.ifacesRec ·)))=true:=by kernel_rfl
theorem j21:((Rows.storeGoneRow.loopsOut==Tryz.f3.resultTypes.toList.any (Tryz.pinned.checked.prog.loopsFrom ·)))=true:=by kernel_rfl
theorem j22:((Rows.storeGoneRow.plainKeys==Tryz.pinned.checked.prog.plainKeys))=true:=by kernel_rfl
theorem j23:(Rows.storeGoneRow.shortTexts.isNone)=true:=by kernel_rfl
theorem j24:(Tryz.pinned.checked.prog.stopsHeard)=true:=by kernel_rfl
theorem j25:(Tryz.pinned.checked.prog.mayEnter)=true:=by kernel_rfl
theorem j26:((Rows.storeGoneRow.lifted==Tryz.pinned.checked.prog.liftsFinal))=true:=by kernel_rfl
theorem j27:((Tryz.pinned.checked.prog.make==some Rows.storeGoneRow.make))=true:=by kernel_rfl
theorem j28:((Rows.storeGoneRow.kinds==(if Rows.storeGoneRow.domain.isEmpty then [] else Tryz.f3.params.toList.map fun t=>match Tryz.pinned.checked.prog.underlying t with | some (.int k)=>some k | _=>none)))=true:=by kernel_rfl
theorem j29:((Rows.storeGoneRow.pinned==Rows.storeGoneRow.pinnedBy))=true:=by kernel_rfl
theorem j30:((Rows.storeGoneRow.veiled==(Tryz.f3.params.toList++(OpenSpec.ofChange Rows.storeGoneSpec).bare.plain.varTypes Tryz.pinned.checked.prog++Tryz.f3.resultTypes.toList).any (Tryz.pinned.checked.prog.veiledRec ·)))=true:=by kernel_rfl
theorem j31:(Rows.storeGoneRow.veiledFits Tryz.pinned.checked.prog Tryz.f3.params.toList (Tryz.f3.params.toList++(OpenSpec.ofChange Rows.storeGoneSpec).bare.plain.varTypes Tryz.pinned.checked.prog++Tryz.f3.resultTypes.toList))=true:=by kernel_rfl
end Gone
namespace Gone
theorem qAM {a b:Bool} (h1:a=true) (h2:b=true):(a&&b)=true:=by rw [h1,h2];rfl
theorem qL6 (P:Program) (f:FuncId) (fn:Func) (s:ChangeSpec) (c:OpenClaim) (h0:(c.wf (OpenSpec.ofChange s))=true) (h1:(laidOutB P)=true) (h2:(mapsRowed P)=true) (h3:(fn.params.all (P.readableRec ·))=true) (h4:(namedTie P c.named s.vars)=true) (h5:((c.stops==[]))=true) (h6:((P.stops==[]))=true) (h7:((c.knobs==[]))=true) (h8:((P.stopKnobs==[]))=true) (h9:((c.inPlace==P.inPlace f))=true) (h10:((c.unfollowed==P.unfollowed f))=true) (h11:((c.recurses==P.recurses f))=true) (h12:((c.named==P.varsNamed f))=true) (h13:((c.maps==(fn.params.toList++s.plain.varTypes P).any (P.mapsRec ·)))=true) (h14:((c.ifaces==(fn.params.toList++s.plain.varTypes P).any (P.ifacesRec ·)))=true) (h15:((c.mapsOut==P.mapsAmong fn.resultTypes.toList))=true) (h16:((c.loops==(fn.params.toList++s.plain.varTypes P).any (P.loopsFrom ·)))=true) (h17:((c.wideKeys==(fn.params.toList++s.plain.varTypes P++fn.resultTypes.toList).any (P.wideKeysFrom ·)))=true) (h18:(s.vars.all (P.varReadable ·))=true) (h19:(fn.resultTypes.all (fun t=>P.readableRec t&&decide (t<P.types.size)))=true) (h20:((c.ifacesOut==fn.resultTypes.toList.any (P.ifacesRec ·)))=true) (h21:((c.loopsOut==fn.resultTypes.toList.any (P.loopsFrom ·)))=true) (h22:((c.plainKeys==P.plainKeys))=true) (h23:(c.shortTexts.isNone)=true) (h24:(P.stopsHeard)=true) (h25:(P.mayEnter)=true) (h26:((c.lifted==P.liftsFinal))=true) (h27:((P.make==some c.make))=true) (h28:((c.kinds==(if c.domain.isEmpty then [] else fn.params.toList.map fun t=>match P.underlying t with | some (.int k)=>some k | _=>none)))=true) (h29:((c.pinned==c.pinnedBy))=true) (h30:((c.veiled==(fn.params.toList++s.plain.varTypes P++fn.resultTypes.toList).any (P.veiledRec ·)))=true) (h31:(c.veiledFits P fn.params.toList (fn.params.toList++s.plain.varTypes P++fn.resultTypes.toList))=true):joinedFacts P f fn s c=true:=by
 unfold joinedFacts
 exact (qAM (qAM (qAM (qAM (qAM (qAM (qAM (qAM (qAM (qAM (qAM (qAM (qAM (qAM (qAM (qAM (qAM (qAM (qAM (qAM (qAM (qAM (qAM (qAM (qAM (qAM (qAM (qAM (qAM (qAM (qAM h0 h1) h2) h3) h4) h5) h6) h7) h8) h9) h10) h11) h12) h13) h14) h15) h16) h17) h18) h19) h20) h21) h22) h23) h24) h25) h26) h27) h28) h29) h30) h31)
theorem s2:joinedFacts Tryz.pinned.checked.prog 3 Tryz.f3 (OpenSpec.ofChange Rows.storeGoneSpec).bare Rows.storeGoneRow=true :=
 qL6 Tryz.pinned.checked.prog 3 Tryz.f3 (OpenSpec.ofChange Rows.storeGoneSpec).bare Rows.storeGoneRow j0 j1 j2 j3 j4 j5 j6 j7 j8 j9 j10 j11 j12 j13 j14 j15 j16 j17 j18 j19 j20 j21 j22 j23 j24 j25 j26 j27 j28 j29 j30 j31
end Gone
end Go.Proofs.YthogfjmnnaoldaaGreatDoor
namespace Go.Proofs.YthogfjmnnaoldaaGreatDoor
open Go.ChangeShapes Go.ChangeMaps Go.WideShapes Go.ChangeAt Go.RowKit
namespace Gone
theorem own:ownKnob Tryz.prog.godebug=none:=by kernel_rfl
theorem laidOut:laidOutB Tryz.prog=true:=by kernel_rfl
theorem qOa (H:Type) (enc:TypeId×Value→H) (W:World) (base:Nat) (args:Array Value) (ds gs:List (DataW H)) (before:List MemPlace)
  (hval:∀ (j:Nat) t v,Tryz.f3.params[j]?=some t→args[j]?=some v→Value.okWide Tryz.prog W .any base t v)
  (hW:DataW.Whole enc Tryz.prog Tryz.f3.params.toList Rows.storeGoneSpec.vars false W args.toList ds gs before)
  (hsz:(DataW.weightsEach Tryz.prog (Tryz.f3.params.toList++[]) (ds++gs)).all (·≤reachBytes)=true) (hL:laidMetH Tryz.prog Rows.storeGoneRow.laid W) (hS:W.ShapedOpen Tryz.prog) :
  Calls Tryz.prog 3 args W fun e W'=>∃ v,e=.returned v∧Rows.storeGoneSpec.post enc Tryz.prog Tryz.f3 false true false false W args v W':=by
 have hW':=hW
 obtain ⟨p,q,hA0,hV,rfl,hfz,hnd⟩:=hW
 have hA:DataW.TrodAll enc Tryz.prog W 0 (fun _=>true) true Tryz.f3.params.toList args.toList ds p:=hA0
 rw [Tryz.params3] at hA hval
 obtain ⟨v0,vs0,d0,ds0,p0,q0,hargs,rfl,rfl,h0,r0⟩:=trodAll_cons hA
 obtain ⟨rfl,rfl,rfl⟩:=trodAll_nil r0
 obtain rfl:args=#[v0]:=by cases args;simp_all
 obtain ⟨rfl,rfl⟩:=trodVars_none hV
 obtain ⟨A2,len2,cap2,rfl⟩:=okWide_slice Tryz.underlying22 (hval 0 22 v0 rfl rfl)
 have h0k:=h0
 have hlt0:∀ x∈p0,x.block<W.heap.size:=fun x hx=>hW'.lt x (by simp [hx])
 have fit:Fit (DataW.weightsEach Tryz.prog [22] [d0]):=fun x hx=>by
  have:=List.all_eq_true.1 hsz x (by rw [Tryz.params3];simpa using hx)
  simpa using this
 simp only [DataW.weightsEach,List.append_nil] at fit
 obtain ⟨fuel0,t0⟩:=h0
 obtain ⟨An,cn,names,e2,hs⟩:=qHr t0 fit
 simp only [Value.cells,zE,and_true,zD1] at e2
 obtain ⟨rfl,rfl,rfl⟩:=e2
 clear hA0 fit hsz
 simp only [List.append_nil] at hW'
 obtain ⟨pe,hE,hVr⟩:=errs hL hS
 have walk:=qHz W pe hE hVr (.slice A2 names.length cap2) names (by have:=hs.2.2.1;have:=hs.2.2.2;omega) hs.1
 refine walk.mono fun e W' ⟨he,hb⟩=>?_
 subst he
 exact ⟨_,rfl,_,_,_,[],_,[],hW',trodAll_mk1 (shut_bool Tryz.underlying4 _),trodAll_cons_mk (Below.trod laidOut (by kernel_rfl) (of_decide_eq_true (by kernel_rfl)) h0k hb hlt0) trodAll_mk0,rfl,hb.frame _,fun h=>by cases h⟩
def qN9:Array Value:=#[.slice none 0 0]
noncomputable def qJ1 (os:Os):World :=
 let w0:=World.holding Tryz.prog os ⟨#[],#[],[]⟩
 { w0 with heap:=w0.heap.modify 8 fun
   | .cells _ t frozen=>.cells #[.iface 239 (.agg #[.pointer (some ⟨21,27,none⟩)])] t frozen
   | o=>o }
noncomputable def qCw (os:Os):World:=(qJ1 os).layVars Tryz.prog (Rows.storeGoneRow.laid.filter fun x=>x.2.handleName?.isNone)
theorem qH9 (os:Os):(qCw os).os=os:=World.layVars_os _ _ _
theorem qNA (os:Os):laidMet Tryz.prog (Rows.storeGoneRow.laid.filter fun x=>x.2.handleName?.isNone) (qCw os):=by
 generalize hd:(Rows.storeGoneRow.laid.filter fun x=>x.2.handleName?.isNone)=data
 have hw:qCw os=(qJ1 os).layVars Tryz.prog data:=by rw [← hd];rfl
 have e1:(data.filter fun x=>(data.map (·.1)).contains x.1)=data:=List.filter_eq_self.2 fun x hx=>List.contains_iff_mem.2 (zf.2 ⟨x,hx,rfl⟩)
 have e2:(data.filter fun x=>!(data.map (·.1)).contains x.1)=[]:=List.filter_eq_nil_iff.2 fun x hx=>by rw [List.contains_iff_mem.2 (zf.2 ⟨x,hx,rfl⟩)];simp
 exact laidMet_layVars (w0:=qJ1 os) (data.map (·.1)) [] (by rw [e1,hw]) (by rw [e1,← hd];kernel_rfl) (by rw [e1,← hd];kernel_rfl) (by rw [e2];exact LaidIn.none)
theorem qOo (os:Os):laidMetH Tryz.prog Rows.storeGoneRow.laid ((qCw os).forCall (fun _ _=>0) ⟨#[],qN9,[]⟩).memory :=
 laidMetH_of_parts ((qNA os).of_heap (by simp [World.memory,World.forCall,Input.heap])) (by kernel_rfl)
theorem reads (os:Os) {H:Type} (enc:TypeId×Value→H):∃ ds places,DataW.whole enc Tryz.prog ((qCw os).forCall (fun _ _=>0) ⟨#[],qN9,[]⟩).memory Tryz.f3.params.toList Rows.storeGoneSpec.vars false qN9.toList 8=some (ds,[],places) :=
 ⟨[.nil],[],by kernel_rfl⟩
theorem lifted (os:Os) (started:os.Started) (H:Type) (enc:TypeId×Value→H) (F:Stop.Interp) :
  ReturnsInHanded {} Tryz.checked os 3 .any ((OpenSpec.ofChange Rows.storeGoneSpec).preRow enc Tryz.prog Tryz.f3 Rows.storeGoneRow.domain false Rows.storeGoneRow.laid) (((OpenSpec.ofChange Rows.storeGoneSpec).at F).post enc Tryz.prog Tryz.f3 false true false false):=by
 obtain ⟨ds,places,hx⟩:=reads os enc
 refine returnsInHanded_of_row (C:=Tryz.checked) (s:=OpenSpec.ofChange Rows.storeGoneSpec) own started (by kernel_rfl) Tryz.func3
  (witness_row_atRef (enc:=enc) (C:=Tryz.checked) false (qCw os) qN9 (qH9 os) (by kernel_rfl) (by kernel_rfl) (by kernel_rfl)
   (OpenSpec.preRow_of_cond 8 hx (by rfl) (fun k hk=>by cases hk) (by kernel_rfl) (qOo os))) ?_
 intro W base args ds gs before hval hW _ _ hsz hL hS _
 exact qOa H enc W base args ds gs before hval hW hsz hL hS
theorem said:Rows.StoreGoneSaid :=
 OpenClaim.holds_of_cond 3 Tryz.f3 rfl rfl rfl rfl rfl rfl rfl ⟨rfl,rfl,rfl,rfl,rfl⟩ rfl rfl rfl rfl rfl s1 Tryz.func3 s2
  s3 s4
  (fun os started H enc _ F=>by rw [OpenClaim.pre_eq_preRow];exact lifted os started H enc F)
theorem plain (f:FuncId) (fn:Func) (hf:Tryz.pinned.checked.prog.funcNamed "stillroom/stillroomlaw4.StoreGone"=some f) (hfn:Tryz.pinned.checked.prog.funcs[f]?=some fn) :
  true=Tryz.pinned.checked.prog.looks []∧∀ (j:Nat) t,fn.params[j]?=some t→Tryz.pinned.checked.prog.wantsStandIn t=false:=by
 obtain rfl:f=3:=Option.some.inj ((show Tryz.prog.funcNamed "stillroom/stillroomlaw4.StoreGone"=some 3 by kernel_rfl).symm.trans hf) |>.symm
 obtain rfl:fn=Tryz.f3:=(Option.some.inj (Tryz.func3.symm.trans hfn)).symm
 refine ⟨by kernel_rfl,fun j t ht=>?_⟩
 rw [Tryz.params3] at ht
 have hm:t=22:=by
  have:=Array.mem_of_getElem? ht
  simpa using this
 subst hm
 exact (show Tryz.prog.wantsStandIn 22=false by kernel_rfl)
theorem card:Rows.StoreGoneCardSaid :=
 Claim7.holds_tied_plain_at .later [] _ _ _ _ said (fun _ h=>by cases h) (by kernel_rfl) (fun _ h=>by cases h) storeGone_row_tie rfl ⟨rfl,rfl⟩ (by kernel_rfl) rfl plain (by kernel_rfl)
end Gone
end Go.Proofs.YthogfjmnnaoldaaGreatDoor
