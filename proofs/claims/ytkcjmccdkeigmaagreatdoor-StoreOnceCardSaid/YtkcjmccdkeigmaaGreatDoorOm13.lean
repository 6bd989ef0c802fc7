/- Texts of this claim, merged: OnceErrs, ShelfB, Kept, PacksAt. -/
import Derived.Ground.SlmcProg
import Derived.Shelf.SlGeneric
import Derived.Shelf.SlIterI.Nil
import Derived.Shelf.SlMaps.Clone
import Derived.Shelf.SlicesQ.IndexFunc
import Derived.Test.YtkcjmccdkeigmaaGreatDoorOm12
set_option maxHeartbeats 16000000
set_option maxRecDepth 1000000
set_option linter.all false
namespace Go.Proofs.YtkcjmccdkeigmaaGreatDoor
open Go.ChangeShapes Go.ChangeMaps Go.WideShapes Go.ChangeAt Go.RowKit
namespace Once
theorem qQ7:Tryz.prog.cellsOf 368=1:=by kernel_rfl
theorem star: "*"++ "errors.errorString"= "*errors.errorString":=by decide
theorem rowE (u:TypeId) (h:Tryz.prog.typeName? 3 u=some "*errors.errorString"):u=366 :=
 typeName_ptr_named (nm:= "errors.errorString") (by rw [star];kernel_rfl) (by kernel_rfl) (by decide) u (by rw [star];exact h)
theorem qH1 {W:World} {n:String} {g:Nat} {p:Addr} (hg:Tryz.prog.globalNamed n=some g) (h:W.var? Tryz.prog n=some #[.iface 366 (.pointer (some p))]):errAt W g p:=by
 have hc:=World.var?_cell hg h 0
 refine ⟨by simpa using hc,?_⟩
 rcases zu g W.heap.size with h' | h'
 ·exact h'
 ·simp [World.cell?,Array.getElem?_eq_none h'] at hc
def sentinel (x:String×Nat×List UInt8):String×DataW Unit:=(x.1,.iface "*errors.errorString" (.ptr (.agg [.lit (.string x.2.2)])))
theorem qJk {W:World}:∀ (l:List (String×Nat×List UInt8)) (r:List (String×DataW Unit)) (ps:List MemPlace),DataW.LaidVars Tryz.prog W (l.map sentinel++r) ps→ps.Nodup →
  (∀ b off,MemPlace.cell b off∈ps→(∃ c t,W.heap[b]?=some (.cells c t (0,0)))∧∀ u v,W.cell? ⟨b,off,none⟩=some (.iface u v)→Value.okWide Tryz.prog W .any 0 u v) →
  (∀ x∈l,Tryz.prog.globalNamed x.1=some x.2.1∧(Tryz.prog.globals[x.2.1]?).map (·.type)=some 27) →
  ∃ qs:List Addr,qs.length=l.length∧(∀ (j:Nat) x a,l[j]?=some x→qs[j]?=some a→errAt W x.2.1 a)∧(∀ a∈qs,MemPlace.cell a.block a.off∈ps)∧(∀ a∈qs,∃ cs ts,W.heap[a.block]?=some (.cells cs ts (0,0)))∧qs.Pairwise (·≠·)
 | [],_,_,_,_,_,_=>⟨[],rfl,by simp,by simp,by simp,List.Pairwise.nil⟩
 | x::l,r,ps,h,hnd,hrows,hgs=>by
  obtain ⟨g0,t0,cs0,f0,p0,q0,hg0,ht0,hv0,hd0,hq,e0⟩:=h
  obtain ⟨hg,ht⟩:=hgs x (List.mem_cons_self ..)
  obtain rfl:=Option.some.inj (hg.symm.trans hg0)
  obtain rfl:=Option.some.inj (ht.symm.trans ht0)
  subst e0
  obtain ⟨qs,h1,h2,h3,h4,h5⟩:=qJk l r q0 hq (List.Nodup.sublist (List.sublist_append_right _ _) hnd) (fun b off hm=>hrows b off (List.mem_append_right _ hm)) (fun y hy=>hgs y (List.mem_cons_of_mem _ hy))
  obtain ⟨l0⟩:=cs0
  have ok0:∀ u v,l0=[.iface u v]→Value.okWide Tryz.prog W .any 0 u v:=fun u v e=>by
   subst e
   exact (hrows x.2.1 0 (by simp [MemPlace.row])).2 u v (by simpa using World.var?_cell hg0 hv0 0)
  obtain ⟨a0,s0,rfl,hc0,hs0,hz0,rfl⟩:=errorString_of_trod Tryz.underlying27 rowE Tryz.underlying366 Tryz.underlying368 rfl rfl Tryz.underlying9 qQ7 qKz hd0 ok0
  have hb0:=(hrows a0.block a0.off (by simp [MemPlace.row])).1
  refine ⟨a0::qs,by simp [h1],?_,?_,?_,?_⟩
  ·intro j y a hj ha
   cases j with
   | zero =>
    simp only [List.getElem?_cons_zero,zA1] at hj ha
    subst hj ha
    exact qH1 hg0 hv0
   | succ j=>exact h2 j y a (by simpa using hj) (by simpa using ha)
  ·intro a ha
   rcases zY.1 ha with rfl | ha
   ·exact List.mem_append_left _ (List.mem_append_right _ (by simp [MemPlace.row]))
   ·exact List.mem_append_right _ (h3 a ha)
  ·intro a ha
   rcases zY.1 ha with rfl | ha
   ·exact hb0
   ·exact h4 a ha
  ·refine zi.2 ⟨fun a ha e=>?_,h5⟩
   subst e
   have:=(List.nodup_append.1 hnd).2.2 (MemPlace.cell a0.block a0.off) (List.mem_append_right _ (by simp [MemPlace.row])) _ (h3 _ ha)
   exact this rfl
def listed:List (String×Nat×List UInt8):=[
 ("stillroom/api.ErrText",0,[115,116,105,108,108,114,111,111,109,58,32,116,101,120,116]),
 ("stillroom/api.ErrBound",1,[115,116,105,108,108,114,111,111,109,58,32,98,111,117,110,100]),
 ("stillroom/api.ErrShape",2,[115,116,105,108,108,114,111,111,109,58,32,115,104,97,112,101]),
 ("stillroom/api.ErrKind",3,[115,116,105,108,108,114,111,111,109,58,32,107,105,110,100]),
 ("stillroom/api.ErrName",4,[115,116,105,108,108,114,111,111,109,58,32,110,97,109,101]),
 ("stillroom/api.ErrNone",5,[115,116,105,108,108,114,111,111,109,58,32,110,111,110,101]),
 ("stillroom/api.ErrExist",6,[115,116,105,108,108,114,111,111,109,58,32,101,120,105,115,116]),
 ("stillroom/api.ErrFull",7,[115,116,105,108,108,114,111,111,109,58,32,102,117,108,108]),
 ("stillroom/api.ErrDeep",8,[115,116,105,108,108,114,111,111,109,58,32,100,101,101,112]),
 ("stillroom/api.ErrOrder",9,[115,116,105,108,108,114,111,111,109,58,32,111,114,100,101,114]),
 ("stillroom/api.ErrSum",10,[115,116,105,108,108,114,111,111,109,58,32,115,117,109]),
 ("stillroom/api.ErrInUse",11,[115,116,105,108,108,114,111,111,109,58,32,105,110,32,117,115,101]),
 ("stillroom/api.ErrOff",12,[115,116,105,108,108,114,111,111,109,58,32,111,102,102]),
 ("strconv.ErrRange",17,[118,97,108,117,101,32,111,117,116,32,111,102,32,114,97,110,103,101]),
 ("strconv.ErrSyntax",16,[105,110,118,97,108,105,100,32,115,121,110,116,97,120])]
theorem qJd:∀ x∈listed,Tryz.prog.globalNamed x.1=some x.2.1∧(Tryz.prog.globals[x.2.1]?).map (·.type)=some 27:=by
 have h:(listed.all fun x=>Tryz.prog.globalNamed x.1==some x.2.1&&((Tryz.prog.globals[x.2.1]?).map (·.type)==some 27))=true:=by kernel_rfl
 intro x hx
 have:=List.all_eq_true.1 h x hx
 simpa using this
def ix (c:Nat):Nat:=c-1
theorem qF1:∀ c,c<14→1≤c→(listed[ix c]?).map (·.2.1)=some (qCn c):=by decide
theorem qNA:Rows.storeOnceRow.laid.filter (fun x=>x.2.handleName?.isNone)=("math/bits.deBruijn32tab",Rows.laid_math_bits_deBruijn32tab)::("math/bits.deBruijn64tab",Rows.laid_math_bits_deBruijn64tab)::("internal/strconv.uint64pow10",Rows.laid_internal_strconv_uint64pow10)::("unicode/utf8.acceptRanges",Rows.laid_unicode_utf8_acceptRanges)::(listed.map sentinel++[("unicode/utf8.first",Rows.laid_unicode_utf8_first)]):=by kernel_rfl
theorem qJy:Rows.storeOnceRow.laid.filter (fun x=>x.2.handleName?.isSome)=[("errors.errorType",Rows.laid_errors_errorType)]:=by kernel_rfl
theorem et:Tryz.prog.globalNamed "errors.errorType"=some 13:=by kernel_rfl
theorem rt:(Tryz.prog.cutTypes.find? (·.1== "internal/reflectlite.rtype")).map (·.2)=some 173:=by kernel_rfl
theorem size:Tryz.prog.types.size=408:=by kernel_rfl
theorem qQT:((List.range 408).filter fun t=>Tryz.prog.rowNamed t [101,114,114,111,114])=[27]:=by kernel_rfl
theorem qGn {W:World} (h:handlesMet Tryz.prog [("errors.errorType",Rows.laid_errors_errorType)] W):W.cell? ⟨13,0,none⟩=some (.iface 173 (.agg #[.pointer (some ⟨22,27,none⟩)])):=by
 obtain ⟨name,u,ty,e1,e2,e3,e4,e5⟩:=h _ (zg.2 rfl)
 have en:name=[101,114,114,111,114]:=(Option.some.inj e1).symm
 subst en
 obtain rfl:=Option.some.inj (rt.symm.trans e2)
 have hm:ty∈(List.range 408).filter fun t=>Tryz.prog.rowNamed t [101,114,114,111,114]:=zZ.2 ⟨List.mem_range.2 (by rw [← size];exact e3),e4⟩
 rw [qQT] at hm
 obtain rfl:=zg.1 hm
 have hh:typeHandle Tryz.prog 27=.pointer (some ⟨22,27,none⟩):=by kernel_rfl
 rw [hh] at e5
 simpa using World.var?_cell et e5 0
theorem errs {W:World} (hL:laidMetH Tryz.prog Rows.storeOnceRow.laid W) (hS:W.ShapedOpen Tryz.prog):∃ p,Errs W p∧LibVars W:=by
 obtain ⟨hd,hh⟩:=laidMetH_iff.1 hL
 rw [qNA] at hd
 rw [qJy] at hh
 have hpow:=laidMet.tail (laidMet.tail hd)
 obtain ⟨ps,hv,hnd,hrows⟩:=laidMet.tail (laidMet.tail (laidMet.tail (laidMet.tail hd)))
 obtain ⟨qs,h1,h2,_,h4,h5⟩:=qJk listed _ ps hv hnd hrows qJd
 have hc:=qGn hh
 have hlen:qs.length=15:=h1
 have hixl:∀ c,1≤c→c≤13→ix c<15:=fun c _ _=>by unfold ix;omega
 have hget:∀ j,j<15→qs[j]?=some (qs.getD j default):=fun j hj=>by
  simp [List.getD,zL (show j<qs.length by omega)]
 refine ⟨fun c=>qs.getD (ix c) default,⟨fun c h1' h2'=>?_,fun c h1' h2'=>h4 _ (List.mem_of_getElem? (hget _ (hixl c h1' h2'))),fun c d c1 cd d1 e=>?_,hc,?_⟩,⟨?_,?_,?_,?_⟩⟩
 ·obtain ⟨x,hx,hg⟩:=Option.map_eq_some_iff.1 (qF1 c (by omega) h1')
  rw [← hg]
  exact h2 (ix c) x _ hx (hget _ (hixl c h1' h2'))
 ·have hne:ix c≠ix d:=fun e2=>by
   have a1:=qF1 c (by omega) c1
   have a2:=qF1 d (by omega) (by omega)
   rw [e2,a2] at a1
   exact e (Option.some.inj a1).symm
  have l1:ix c<qs.length:=by have:=hixl c c1 (by omega);omega
  have l2:ix d<qs.length:=by have:=hixl d (by omega) d1;omega
  have g1:=hget _ (hixl c c1 (by omega))
  have g2:=hget _ (hixl d (by omega) d1)
  rw [zL l1] at g1
  rw [zL l2] at g2
  rcases Nat.lt_or_gt_of_ne hne with h | h
  ·have h6:=List.pairwise_iff_getElem.1 h5 _ _ l1 l2 h
   rw [Option.some.inj g1,Option.some.inj g2] at h6
   exact h6
  ·have h6:=List.pairwise_iff_getElem.1 h5 _ _ l2 l1 h
   rw [Option.some.inj g1,Option.some.inj g2] at h6
   exact fun e3=>h6 e3.symm
 ·rcases zu 13 W.heap.size with h' | h'
  ·exact h'
  ·simp [World.cell?,Array.getElem?_eq_none h'] at hc
 ·exact Go.Proofs.cell_of_shapedOpen_int (zero:=#[.int .i64 0]) (t:=3) hS (of_decide_eq_true (by kernel_rfl)) (by kernel_rfl) rfl (by kernel_rfl) (by kernel_rfl) Tryz.underlying3
 ·exact ⟨_,(h2 14 _ _ rfl (hget 14 (by omega))).1,.inr ⟨_,_,rfl⟩⟩
 ·exact ⟨_,(h2 13 _ _ rfl (hget 13 (by omega))).1,.inr ⟨_,_,rfl⟩⟩
 ·exact Lib.tabIs_of_head (g:=15) (t:=336) (e:=194) (n:=20) (by kernel_rfl) (by kernel_rfl) Tryz.underlying336 Tryz.underlying194 (by kernel_rfl) (by kernel_rfl) hpow
end Once
end Go.Proofs.YtkcjmccdkeigmaaGreatDoor
namespace Go.Proofs
open Go.Shelf
def Tryz.cloneS_ren:Go.Shelf.Ren:=⟨fun | 41=>34 | n=>n,fun | 22=>22 | 23=>9 | 4=>4 | n=>n,fun | n=>n⟩
theorem Tryz.cloneS:Go.Proofs.SlLaysE0.n41 Tryz.prog Tryz.cloneS_ren:={
 mixed:=by kernel_rfl
 f41:=⟨Tryz.f34.name,by decide,Tryz.func34.trans (congrArg some (by kernel_rfl))⟩
 t4:=Tryz.underlying4
 a4:=Tryz.isAgg4
 z4:=Tryz.sizeOf4
 v4:=Tryz.zeroValue4
 t22:=Tryz.underlying22
 a22:=Tryz.isAgg22
 z22:=Tryz.sizeOf22
 v22:=Tryz.zeroValue22 }
def Tryz.cloneB_ren:Go.Shelf.Ren:=⟨fun | 41=>150 | n=>n,fun | 22=>138 | 23=>4 | 4=>4 | n=>n,fun | n=>n⟩
theorem Tryz.cloneB:Go.Proofs.SlLaysE0.n41 Tryz.prog Tryz.cloneB_ren:={
 mixed:=by kernel_rfl
 f41:=⟨Tryz.f150.name,by decide,Tryz.func150.trans (congrArg some (by kernel_rfl))⟩
 t4:=Tryz.underlying4
 a4:=Tryz.isAgg4
 z4:=Tryz.sizeOf4
 v4:=Tryz.zeroValue4
 t22:=Tryz.underlying138
 a22:=Tryz.isAgg138
 z22:=Tryz.sizeOf138
 v22:=Tryz.zeroValue138 }
def Tryz.cloneW_ren:Go.Shelf.Ren:=⟨fun | 41=>149 | n=>n,fun | 22=>82 | 23=>226 | 4=>4 | n=>n,fun | n=>n⟩
theorem Tryz.cloneW:Go.Proofs.SlLaysE0.n41 Tryz.prog Tryz.cloneW_ren:={
 mixed:=by kernel_rfl
 f41:=⟨Tryz.f149.name,by decide,Tryz.func149.trans (congrArg some (by kernel_rfl))⟩
 t4:=Tryz.underlying4
 a4:=Tryz.isAgg4
 z4:=Tryz.sizeOf4
 v4:=Tryz.zeroValue4
 t22:=Tryz.underlying82
 a22:=Tryz.isAgg82
 z22:=Tryz.sizeOf82
 v22:=Tryz.zeroValue82 }
def Tryz.cloneK_ren:Go.Shelf.Ren:=⟨fun | 41=>33 | n=>n,fun | 22=>58 | 23=>101 | 4=>4 | n=>n,fun | n=>n⟩
theorem Tryz.cloneK:Go.Proofs.SlLaysE0.n41 Tryz.prog Tryz.cloneK_ren:={
 mixed:=by kernel_rfl
 f41:=⟨Tryz.f33.name,by decide,Tryz.func33.trans (congrArg some (by kernel_rfl))⟩
 t4:=Tryz.underlying4
 a4:=Tryz.isAgg4
 z4:=Tryz.sizeOf4
 v4:=Tryz.zeroValue4
 t22:=Tryz.underlying58
 a22:=Tryz.isAgg58
 z22:=Tryz.sizeOf58
 v22:=Tryz.zeroValue58 }
def Tryz.cloneKid_ren:Go.Shelf.Ren:=⟨fun | 41=>146 | n=>n,fun | 22=>38 | 23=>78 | 4=>4 | n=>n,fun | n=>n⟩
theorem Tryz.cloneKid:Go.Proofs.SlLaysE0.n41 Tryz.prog Tryz.cloneKid_ren:={
 mixed:=by kernel_rfl
 f41:=⟨Tryz.f146.name,by decide,Tryz.func146.trans (congrArg some (by kernel_rfl))⟩
 t4:=Tryz.underlying4
 a4:=Tryz.isAgg4
 z4:=Tryz.sizeOf4
 v4:=Tryz.zeroValue4
 t22:=Tryz.underlying38
 a22:=Tryz.isAgg38
 z22:=Tryz.sizeOf38
 v22:=Tryz.zeroValue38 }
def Tryz.cfInt_ren:Go.Shelf.Ren:=⟨fun | 8=>201 | 6=>250 | n=>n,fun | 22=>166 | 23=>3 | 25=>224 | 4=>4 | 3=>3 | 0=>0 | n=>n,fun | n=>n⟩
theorem Tryz.cfInt:Go.Proofs.SlLaysH.n8 Tryz.prog Tryz.cfInt_ren:={
 mixed:=by kernel_rfl
 f6:=⟨Tryz.f250.name,by decide,Tryz.func250.trans (congrArg some (by kernel_rfl))⟩
 f8:=⟨Tryz.f201.name,by decide,Tryz.func201.trans (congrArg some (by kernel_rfl))⟩
 t0:=Tryz.underlying0
 a0:=Tryz.isAgg0
 z0:=Tryz.sizeOf0
 v0:=Tryz.zeroValue0
 t3:=Tryz.underlying3
 a3:=Tryz.isAgg3
 z3:=Tryz.sizeOf3
 v3:=Tryz.zeroValue3
 t4:=Tryz.underlying4
 a4:=Tryz.isAgg4
 z4:=Tryz.sizeOf4
 v4:=Tryz.zeroValue4
 t22:=Tryz.underlying166
 a22:=Tryz.isAgg166
 z22:=Tryz.sizeOf166
 v22:=Tryz.zeroValue166
 a23:=Tryz.isAgg3
 z23:=Tryz.sizeOf3
 t25:=Tryz.underlying224
 a25:=Tryz.isAgg224
 z25:=Tryz.sizeOf224
 v25:=Tryz.zeroValue224 }
def Tryz.cfStr_ren:Go.Shelf.Ren:=⟨fun | 8=>195 | 6=>247 | n=>n,fun | 22=>22 | 23=>9 | 25=>152 | 4=>4 | 3=>3 | 0=>0 | n=>n,fun | n=>n⟩
theorem Tryz.cfStr:Go.Proofs.SlLaysH.n8 Tryz.prog Tryz.cfStr_ren:={
 mixed:=by kernel_rfl
 f6:=⟨Tryz.f247.name,by decide,Tryz.func247.trans (congrArg some (by kernel_rfl))⟩
 f8:=⟨Tryz.f195.name,by decide,Tryz.func195.trans (congrArg some (by kernel_rfl))⟩
 t0:=Tryz.underlying0
 a0:=Tryz.isAgg0
 z0:=Tryz.sizeOf0
 v0:=Tryz.zeroValue0
 t3:=Tryz.underlying3
 a3:=Tryz.isAgg3
 z3:=Tryz.sizeOf3
 v3:=Tryz.zeroValue3
 t4:=Tryz.underlying4
 a4:=Tryz.isAgg4
 z4:=Tryz.sizeOf4
 v4:=Tryz.zeroValue4
 t22:=Tryz.underlying22
 a22:=Tryz.isAgg22
 z22:=Tryz.sizeOf22
 v22:=Tryz.zeroValue22
 a23:=Tryz.isAgg9
 z23:=Tryz.sizeOf9
 t25:=Tryz.underlying152
 a25:=Tryz.isAgg152
 z25:=Tryz.sizeOf152
 v25:=Tryz.zeroValue152 }
def Tryz.keysStat_ren:Go.Shelf.Ren:=⟨fun | 7=>192 | 10=>242 | n=>n,fun | 23=>89 | 26=>3 | 3=>199 | 28=>287 | 0=>0 | 27=>286 | 33=>224 | 4=>4 | n=>n,fun | n=>n⟩
theorem Tryz.keysStat:Go.Proofs.SlLaysZI.n7 Tryz.prog Tryz.keysStat_ren:={
 mixed:=by kernel_rfl
 f7:=⟨Tryz.f192.name,by decide,Tryz.func192.trans (congrArg some (by kernel_rfl))⟩
 f10:=⟨Tryz.f242.name,by decide,Tryz.func242.trans (congrArg some (by kernel_rfl))⟩
 t0:=Tryz.underlying0
 a0:=Tryz.isAgg0
 z0:=Tryz.sizeOf0
 v0:=Tryz.zeroValue0
 t4:=Tryz.underlying4
 a4:=Tryz.isAgg4
 z4:=Tryz.sizeOf4
 v4:=Tryz.zeroValue4
 t23:=Tryz.underlying89
 a23:=Tryz.isAgg89
 z23:=Tryz.sizeOf89
 v23:=Tryz.zeroValue89
 t26:=Tryz.underlying3
 a26:=Tryz.isAgg3
 z26:=Tryz.sizeOf3
 v26:=Tryz.zeroValue3
 t27:=Tryz.underlying286
 a27:=Tryz.isAgg286
 z27:=Tryz.sizeOf286
 v27:=Tryz.zeroValue286
 t28:=Tryz.underlying287
 a28:=Tryz.isAgg287
 z28:=Tryz.sizeOf287
 v28:=Tryz.zeroValue287
 t33:=Tryz.underlying224
 a33:=Tryz.isAgg224
 z33:=Tryz.sizeOf224
 v33:=Tryz.zeroValue224 }
def Tryz.keysEnt_ren:Go.Shelf.Ren:=⟨fun | 7=>208 | 10=>256 | n=>n,fun | 23=>92 | 26=>3 | 3=>144 | 28=>287 | 0=>0 | 27=>286 | 33=>224 | 4=>4 | n=>n,fun | n=>n⟩
theorem Tryz.keysEnt:Go.Proofs.SlLaysZI.n7 Tryz.prog Tryz.keysEnt_ren:={
 mixed:=by kernel_rfl
 f7:=⟨Tryz.f208.name,by decide,Tryz.func208.trans (congrArg some (by kernel_rfl))⟩
 f10:=⟨Tryz.f256.name,by decide,Tryz.func256.trans (congrArg some (by kernel_rfl))⟩
 t0:=Tryz.underlying0
 a0:=Tryz.isAgg0
 z0:=Tryz.sizeOf0
 v0:=Tryz.zeroValue0
 t4:=Tryz.underlying4
 a4:=Tryz.isAgg4
 z4:=Tryz.sizeOf4
 v4:=Tryz.zeroValue4
 t23:=Tryz.underlying92
 a23:=Tryz.isAgg92
 z23:=Tryz.sizeOf92
 v23:=Tryz.zeroValue92
 t26:=Tryz.underlying3
 a26:=Tryz.isAgg3
 z26:=Tryz.sizeOf3
 v26:=Tryz.zeroValue3
 t27:=Tryz.underlying286
 a27:=Tryz.isAgg286
 z27:=Tryz.sizeOf286
 v27:=Tryz.zeroValue286
 t28:=Tryz.underlying287
 a28:=Tryz.isAgg287
 z28:=Tryz.sizeOf287
 v28:=Tryz.zeroValue287
 t33:=Tryz.underlying224
 a33:=Tryz.isAgg224
 z33:=Tryz.sizeOf224
 v33:=Tryz.zeroValue224 }
def Tryz.sortedI_ren:Go.Shelf.Ren:=⟨fun | 6=>191 | 8=>240 | 9=>241 | 11=>274 | 13=>178 | 12=>275 | 23=>229 | 24=>230 | 14=>289 | 15=>290 | 16=>291 | 17=>292 | 18=>293 | 19=>294 | 20=>295 | 21=>296 | 22=>297 | 25=>302 | 26=>266 | 27=>267 | 28=>303 | 29=>304 | 30=>305 | 31=>307 | n=>n,fun | 26=>3 | 28=>287 | 24=>166 | 0=>0 | 3=>3 | 37=>127 | 48=>191 | 50=>194 | 4=>4 | 40=>312 | 39=>311 | 45=>156 | 5=>5 | 9=>9 | 51=>342 | 55=>346 | 57=>363 | 58=>33 | 33=>224 | n=>n,fun | n=>n⟩
theorem Tryz.sortedI:Go.Proofs.SlLaysZI.n6 Tryz.prog Tryz.sortedI_ren:={
 mixed:=by kernel_rfl
 f6:=⟨Tryz.f191.name,by decide,Tryz.func191.trans (congrArg some (by kernel_rfl))⟩
 f8:=⟨Tryz.f240.name,by decide,Tryz.func240.trans (congrArg some (by kernel_rfl))⟩
 f11:=⟨Tryz.f274.name,by decide,Tryz.func274.trans (congrArg some (by kernel_rfl))⟩
 t0:=Tryz.underlying0
 a0:=Tryz.isAgg0
 z0:=Tryz.sizeOf0
 v0:=Tryz.zeroValue0
 t24:=Tryz.underlying166
 a24:=Tryz.isAgg166
 z24:=Tryz.sizeOf166
 v24:=Tryz.zeroValue166
 t26:=Tryz.underlying3
 a26:=Tryz.isAgg3
 z26:=Tryz.sizeOf3
 v26:=Tryz.zeroValue3
 t28:=Tryz.underlying287
 a28:=Tryz.isAgg287
 z28:=Tryz.sizeOf287
 v28:=Tryz.zeroValue287
 i26:=by kernel_rfl }
def Tryz.sortI_ren:Go.Shelf.Ren:=⟨fun | 5=>241 | 8=>178 | 7=>275 | 19=>229 | 20=>230 | 10=>289 | 11=>290 | 12=>291 | 13=>292 | 14=>293 | 15=>294 | 16=>295 | 17=>296 | 18=>297 | 30=>302 | 31=>266 | 32=>267 | 33=>303 | 34=>304 | 35=>305 | 40=>307 | n=>n,fun | 23=>166 | 25=>3 | 3=>3 | 32=>127 | 22=>166 | 0=>0 | 44=>191 | 46=>194 | 4=>4 | 36=>312 | 35=>311 | 41=>156 | 5=>5 | 9=>9 | 53=>342 | 57=>346 | 63=>363 | 64=>33 | n=>n,fun | n=>n⟩
theorem Tryz.sortI:Go.Proofs.SlLaysM.n5 Tryz.prog Tryz.sortI_ren:={
 mixed:=by kernel_rfl
 f5:=⟨Tryz.f241.name,by decide,Tryz.func241.trans (congrArg some (by kernel_rfl))⟩
 f7:=⟨Tryz.f275.name,by decide,Tryz.func275.trans (congrArg some (by kernel_rfl))⟩
 f8:=Tryz.func178.trans (congrArg some (by kernel_rfl))
 f10:=⟨Tryz.f289.name,by decide,Tryz.func289.trans (congrArg some (by kernel_rfl))⟩
 f11:=⟨Tryz.f290.name,by decide,Tryz.func290.trans (congrArg some (by kernel_rfl))⟩
 f12:=⟨Tryz.f291.name,by decide,Tryz.func291.trans (congrArg some (by kernel_rfl))⟩
 f13:=⟨Tryz.f292.name,by decide,Tryz.func292.trans (congrArg some (by kernel_rfl))⟩
 f14:=⟨Tryz.f293.name,by decide,Tryz.func293.trans (congrArg some (by kernel_rfl))⟩
 f15:=⟨Tryz.f294.name,by decide,Tryz.func294.trans (congrArg some (by kernel_rfl))⟩
 f16:=⟨Tryz.f295.name,by decide,Tryz.func295.trans (congrArg some (by kernel_rfl))⟩
 f17:=⟨Tryz.f296.name,by decide,Tryz.func296.trans (congrArg some (by kernel_rfl))⟩
 f18:=⟨Tryz.f297.name,by decide,Tryz.func297.trans (congrArg some (by kernel_rfl))⟩
 f19:=Tryz.func229.trans (congrArg some (by kernel_rfl))
 f20:=Tryz.func230.trans (congrArg some (by kernel_rfl))
 f30:=⟨Tryz.f302.name,by decide,Tryz.func302.trans (congrArg some (by kernel_rfl))⟩
 f31:=Tryz.func266.trans (congrArg some (by kernel_rfl))
 f32:=Tryz.func267.trans (congrArg some (by kernel_rfl))
 f33:=⟨Tryz.f303.name,by decide,Tryz.func303.trans (congrArg some (by kernel_rfl))⟩
 f34:=⟨Tryz.f304.name,by decide,Tryz.func304.trans (congrArg some (by kernel_rfl))⟩
 f35:=⟨Tryz.f305.name,by decide,Tryz.func305.trans (congrArg some (by kernel_rfl))⟩
 f40:=⟨Tryz.f307.name,by decide,Tryz.func307.trans (congrArg some (by kernel_rfl))⟩
 t0:=Tryz.underlying0
 a0:=Tryz.isAgg0
 z0:=Tryz.sizeOf0
 v0:=Tryz.zeroValue0
 t3:=Tryz.underlying3
 a3:=Tryz.isAgg3
 z3:=Tryz.sizeOf3
 v3:=Tryz.zeroValue3
 t4:=Tryz.underlying4
 a4:=Tryz.isAgg4
 z4:=Tryz.sizeOf4
 v4:=Tryz.zeroValue4
 t5:=Tryz.underlying5
 a5:=Tryz.isAgg5
 z5:=Tryz.sizeOf5
 v5:=Tryz.zeroValue5
 t9:=Tryz.underlying9
 a9:=Tryz.isAgg9
 z9:=Tryz.sizeOf9
 v9:=Tryz.zeroValue9
 t22:=Tryz.underlying166
 a22:=Tryz.isAgg166
 z22:=Tryz.sizeOf166
 v22:=Tryz.zeroValue166
 t23:=Tryz.underlying166
 a23:=Tryz.isAgg166
 z23:=Tryz.sizeOf166
 v23:=Tryz.zeroValue166
 t25:=Tryz.underlying3
 a25:=Tryz.isAgg3
 z25:=Tryz.sizeOf3
 v25:=Tryz.zeroValue3
 t32:=Tryz.underlying127
 a32:=Tryz.isAgg127
 z32:=Tryz.sizeOf127
 v32:=Tryz.zeroValue127
 t35:=Tryz.underlying311
 a35:=Tryz.isAgg311
 z35:=Tryz.sizeOf311
 v35:=Tryz.zeroValue311
 t36:=Tryz.underlying312
 a36:=Tryz.isAgg312
 z36:=Tryz.sizeOf312
 v36:=Tryz.zeroValue312
 t41:=Tryz.underlying156
 a41:=Tryz.isAgg156
 z41:=Tryz.sizeOf156
 v41:=Tryz.zeroValue156
 t44:=Tryz.underlying191
 a44:=Tryz.isAgg191
 z44:=Tryz.sizeOf191
 v44:=Tryz.zeroValue191
 t46:=Tryz.underlying194
 a46:=Tryz.isAgg194
 z46:=Tryz.sizeOf194
 v46:=Tryz.zeroValue194
 t53:=Tryz.underlying342
 a53:=Tryz.isAgg342
 z53:=Tryz.sizeOf342
 v53:=Tryz.zeroValue342
 t57:=Tryz.underlying346
 a57:=Tryz.isAgg346
 z57:=Tryz.sizeOf346
 v57:=Tryz.zeroValue346
 t63:=Tryz.underlying363
 a63:=Tryz.isAgg363
 z63:=Tryz.sizeOf363
 v63:=Tryz.zeroValue363
 t64:=Tryz.underlying33
 a64:=Tryz.isAgg33
 z64:=Tryz.sizeOf33
 v64:=Tryz.zeroValue33 }
def Tryz.mclone_ren:Go.Shelf.Ren:=⟨fun | 5=>64 | 7=>105 | n=>n,fun | 23=>142 | 25=>9 | 3=>3 | 4=>4 | 20=>20 | n=>n,fun | n=>n⟩
theorem Tryz.mclone:Go.Proofs.SlLaysW.n5 Tryz.prog Tryz.mclone_ren:={
 mixed:=by kernel_rfl
 f5:=⟨Tryz.f64.name,by decide,Tryz.func64.trans (congrArg some (by kernel_rfl))⟩
 f7:=Tryz.func105.trans (congrArg some (by kernel_rfl))
 t4:=Tryz.underlying4
 a4:=Tryz.isAgg4
 z4:=Tryz.sizeOf4
 v4:=Tryz.zeroValue4
 t20:=Tryz.underlying20
 a20:=Tryz.isAgg20
 z20:=Tryz.sizeOf20
 v20:=Tryz.zeroValue20
 t23:=Tryz.underlying142
 a23:=Tryz.isAgg142
 z23:=Tryz.sizeOf142
 v23:=Tryz.zeroValue142 }
end Go.Proofs
namespace Go.Proofs.YtkcjmccdkeigmaaGreatDoor
open Go.RowKit Go.Sort Go.Shelf Stl
structure PkX where
 p:Pk
 a:Option Addr
 cap:Nat
instance:Inhabited PkX:=⟨⟨⟨[],[],0⟩,none,0⟩⟩
def qBa (x:PkX):List Value:=[.string ⟨x.p.name.toArray⟩,.slice x.a x.p.refs.length x.cap,.int .i64 x.p.k]
theorem qBs:∀ zs:List PkX,(zs.flatMap qBa).length=zs.length*3
 | []=>rfl
 | x::r=>by
  have:=qBs r
  simp only [List.flatMap_cons,zP,zQ,this]
  show 3+_=_
  omega
theorem qFx:∀ (zs:List PkX) (j:Nat) (h:j<zs.length) (i:Nat),i<3→(zs.flatMap qBa)[j*3+i]?=(qBa zs[j])[i]?
 | [],_,h,_,_=>by simp at h
 | x::r,0,_,i,hi=>by
  rw [List.flatMap_cons,List.getElem?_append_left (show 0*3+i<(qBa x).length by show _<3;omega)]
  simp
 | x::r,j+1,h,i,hi=>by
  have:=qFx r j (by simpa using h) i hi
  rw [List.flatMap_cons,List.getElem?_append_right (show (qBa x).length≤(j+1)*3+i by show 3≤_;omega)]
  rw [show (j+1)*3+i-(qBa x).length=j*3+i by show (j+1)*3+i-3=_;omega,this]
  simp
section
variable {w w2:World} {c c2:Nat→Col} {S:Col→Bool}
theorem PksCells.opened:∀ {l:List Pk} {vs:List Value},PksCells w c l vs→∃ zs:List PkX,zs.map (·.p)=l∧vs=zs.flatMap qBa∧∀ x∈zs,x.p.refs.length≤x.cap∧RoStrs w c x.a x.p.refs
 | [],vs,h=>⟨[],rfl,h,by simp⟩
 | p::r,vs,h=>by
  obtain ⟨A,cap,rest,h1,h2,h3,h4⟩:=h
  obtain ⟨zs,e1,e2,e3⟩:=PksCells.opened h4
  refine ⟨⟨p,A,cap⟩::zs,by simp [e1],by rw [h1,e2];rfl,?_⟩
  intro x hx
  rcases zY.1 hx with rfl | hx
  ·exact ⟨h2,h3⟩
  ·exact e3 x hx
theorem PksCells.shut:∀ {zs:List PkX},(∀ x∈zs,x.p.refs.length≤x.cap∧RoStrs w c x.a x.p.refs)→PksCells w c (zs.map (·.p)) (zs.flatMap qBa)
 | [],_=>rfl
 | x::r,h=>⟨x.a,x.cap,r.flatMap qBa,rfl,(h x (by simp)).1,(h x (by simp)).2,PksCells.shut fun y hy=>h y (by simp [hy])⟩
theorem StoIn.kept {b:Nat} {s:Sto} {bd:Nat} {vl vr:Value} {tp:Nat} {cs:List Value} (h:StoIn w c b s bd vl vr tp cs):∃ (A:Option Addr) (cap:Nat) (zs:List PkX),vl=.slice A zs.length cap∧zs.map (·.p)=s.l∧zs.length=s.l.length∧cs=zs.flatMap qBa∧(∀ x∈zs,x.p.refs.length≤x.cap∧RoStrs w c x.a x.p.refs):=by
 obtain ⟨zs,e1,e2,e3⟩:=h.pcells.opened
 obtain ⟨A,cap,e4⟩:=h.packs.slice
 have e5:zs.length=s.l.length:=by rw [← e1,zT]
 exact ⟨A,cap,zs,by rw [e4,e5],e1,e5,e2,e3⟩
end
structure PX where
 p:Pk
 a:Option Addr
 cap:Nat
 t0:ByteArray
 t1:ByteArray
 t2:Bool
 t3:Option Addr
 t4:Nat
 t5:Nat
instance:Inhabited PX:=⟨⟨⟨[],[],0⟩,none,0,⟨#[]⟩,⟨#[]⟩,false,none,0,0⟩⟩
def qCQ (x:PX):List Value:=[.string ⟨x.p.name.toArray⟩,.slice x.a x.p.refs.length x.cap,.string x.t0,.string x.t1,.bool x.t2,.slice x.t3 x.t4 x.t5]
theorem qC7:∀ zs:List PX,(zs.flatMap qCQ).length=zs.length*6
 | []=>rfl
 | x::r=>by
  have:=qC7 r
  simp only [List.flatMap_cons,zP,zQ,this]
  show 6+_=_
  omega
theorem qBr:∀ (zs:List PX) (j:Nat) (h:j<zs.length) (i:Nat),i<6→(zs.flatMap qCQ)[j*6+i]?=(qCQ zs[j])[i]?
 | [],_,h,_,_=>by simp at h
 | x::r,0,_,i,hi=>by
  rw [List.flatMap_cons,List.getElem?_append_left (show 0*6+i<(qCQ x).length by show _<6;omega)]
  simp
 | x::r,j+1,h,i,hi=>by
  have:=qBr r j (by simpa using h) i hi
  rw [List.flatMap_cons,List.getElem?_append_right (show (qCQ x).length≤(j+1)*6+i by show 6≤_;omega)]
  rw [show (j+1)*6+i-(qCQ x).length=j*6+i by show (j+1)*6+i-6=_;omega,this]
  simp
structure PacksAt (w:World) (A:Option Addr) (zs:List PX):Prop where
 row:zs≠[]→∃ b off,A=some ⟨b,off,none⟩∧b<w.heap.size∧∀ (j:Nat) u,(zs.flatMap qCQ)[j]?=some u→w.cell? ⟨b,off+j,none⟩=some u
 refs:∀ x∈zs,x.p.refs.length≤x.cap∧Strs w (.slice x.a x.p.refs.length x.cap) x.p.refs
section
variable {w w2:World} {A:Option Addr} {zs:List PX}
theorem PacksAt.later (h:PacksAt w A zs) (hb:Below w.heap.size w w2):PacksAt w2 A zs :=
 ⟨fun hn=>by
  obtain ⟨b,off,h1,h2,h3⟩:=h.row hn
  exact ⟨b,off,h1,zt h2 hb.size,fun j u hu=>(hb.cell (p:=⟨b,off+j,none⟩) h2).trans (h3 j u hu)⟩,
  fun x hx=>⟨(h.refs x hx).1,(h.refs x hx).2.later hb⟩⟩
theorem PacksAt.at (h:PacksAt w A zs) {j:Nat} (hj:j<zs.length):∃ b off,A=some ⟨b,off,none⟩∧b<w.heap.size ∧
  w.cell? ⟨b,off+j*6,none⟩=some (.string ⟨zs[j].p.name.toArray⟩)∧w.cell? ⟨b,off+j*6+1,none⟩=some (.slice zs[j].a zs[j].p.refs.length zs[j].cap)∧w.cell? ⟨b,off+j*6+2,none⟩=some (.string zs[j].t0)∧w.cell? ⟨b,off+j*6+3,none⟩=some (.string zs[j].t1)∧w.cell? ⟨b,off+j*6+4,none⟩=some (.bool zs[j].t2)∧w.cell? ⟨b,off+j*6+5,none⟩=some (.slice zs[j].t3 zs[j].t4 zs[j].t5):=by
 obtain ⟨b,off,h1,h2,h3⟩:=h.row (fun e=>by rw [e] at hj;simp at hj)
 refine ⟨b,off,h1,h2,?_,?_,?_,?_,?_,?_⟩
 ·have:=h3 (j*6+0) _ (qBr zs j hj 0 (by omega));simpa using this
 ·have:=h3 (j*6+1) _ (qBr zs j hj 1 (by omega));rw [Nat.add_assoc];exact this
 ·have:=h3 (j*6+2) _ (qBr zs j hj 2 (by omega));rw [Nat.add_assoc];exact this
 ·have:=h3 (j*6+3) _ (qBr zs j hj 3 (by omega));rw [Nat.add_assoc];exact this
 ·have:=h3 (j*6+4) _ (qBr zs j hj 4 (by omega));rw [Nat.add_assoc];exact this
 ·have:=h3 (j*6+5) _ (qBr zs j hj 5 (by omega));rw [Nat.add_assoc];exact this
end
end Go.Proofs.YtkcjmccdkeigmaaGreatDoor
