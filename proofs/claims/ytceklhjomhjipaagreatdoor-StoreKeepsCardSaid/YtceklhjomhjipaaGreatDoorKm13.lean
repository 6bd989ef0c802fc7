/- Texts of this claim, merged: KeepsErrs, ShelfB, Kept, PacksAt. -/
import Derived.Ground.SlmcProg
import Derived.Shelf.SlGeneric
import Derived.Shelf.SlIterI.Nil
import Derived.Shelf.SlMaps.Clone
import Derived.Shelf.SlicesQ.IndexFunc
import Derived.Test.YtceklhjomhjipaaGreatDoorKm12
set_option maxHeartbeats 16000000
set_option maxRecDepth 1000000
set_option linter.all false
namespace Go.Proofs.YtceklhjomhjipaaGreatDoor
open Go.ChangeShapes Go.ChangeMaps Go.WideShapes Go.ChangeAt Go.RowKit
namespace Keeps
theorem qQN:Tryz.prog.cellsOf 379=1:=by kernel_rfl
theorem star: "*"++ "errors.errorString"= "*errors.errorString":=by decide
theorem rowE (u:TypeId) (h:Tryz.prog.typeName? 3 u=some "*errors.errorString"):u=377 :=
 typeName_ptr_named (nm:= "errors.errorString") (by rw [star];kernel_rfl) (by kernel_rfl) (by decide) u (by rw [star];exact h)
theorem qIh {W:World} {n:String} {g:Nat} {p:Addr} (hg:Tryz.prog.globalNamed n=some g) (h:W.var? Tryz.prog n=some #[.iface 377 (.pointer (some p))]):errAt W g p:=by
 have hc:=World.var?_cell hg h 0
 refine ⟨by simpa using hc,?_⟩
 rcases zv g W.heap.size with h' | h'
 ·exact h'
 ·simp [World.cell?,Array.getElem?_eq_none h'] at hc
def sentinel (x:String×Nat×List UInt8):String×DataW Unit:=(x.1,.iface "*errors.errorString" (.ptr (.agg [.lit (.string x.2.2)])))
theorem qI7 {W:World}:∀ (l:List (String×Nat×List UInt8)) (r:List (String×DataW Unit)) (ps:List MemPlace),DataW.LaidVars Tryz.prog W (l.map sentinel++r) ps→ps.Nodup →
  (∀ b off,MemPlace.cell b off∈ps→(∃ c t,W.heap[b]?=some (.cells c t (0,0)))∧∀ u v,W.cell? ⟨b,off,none⟩=some (.iface u v)→Value.okWide Tryz.prog W .any 0 u v) →
  (∀ x∈l,Tryz.prog.globalNamed x.1=some x.2.1∧(Tryz.prog.globals[x.2.1]?).map (·.type)=some 27) →
  ∃ qs:List Addr,qs.length=l.length∧(∀ (j:Nat) x a,l[j]?=some x→qs[j]?=some a→errAt W x.2.1 a)∧(∀ a∈qs,MemPlace.cell a.block a.off∈ps)∧(∀ a∈qs,∃ cs ts,W.heap[a.block]?=some (.cells cs ts (0,0)))∧qs.Pairwise (·≠·)
 | [],_,_,_,_,_,_=>⟨[],rfl,by simp,by simp,by simp,List.Pairwise.nil⟩
 | x::l,r,ps,h,hnd,hrows,hgs=>by
  obtain ⟨g0,t0,cs0,f0,p0,q0,hg0,ht0,hv0,hd0,hq,e0⟩:=h
  obtain ⟨hg,ht⟩:=hgs x (List.mem_cons_self ..)
  obtain rfl:=Option.some.inj (hg.symm.trans hg0)
  obtain rfl:=Option.some.inj (ht.symm.trans ht0)
  subst e0
  obtain ⟨qs,h1,h2,h3,h4,h5⟩:=qI7 l r q0 hq (List.Nodup.sublist (List.sublist_append_right _ _) hnd) (fun b off hm=>hrows b off (List.mem_append_right _ hm)) (fun y hy=>hgs y (List.mem_cons_of_mem _ hy))
  obtain ⟨l0⟩:=cs0
  have ok0:∀ u v,l0=[.iface u v]→Value.okWide Tryz.prog W .any 0 u v:=fun u v e=>by
   subst e
   exact (hrows x.2.1 0 (by simp [MemPlace.row])).2 u v (by simpa using World.var?_cell hg0 hv0 0)
  obtain ⟨a0,s0,rfl,hc0,hs0,hz0,rfl⟩:=errorString_of_trod Tryz.underlying27 rowE Tryz.underlying377 Tryz.underlying379 rfl rfl Tryz.underlying9 qQN qKX hd0 ok0
  have hb0:=(hrows a0.block a0.off (by simp [MemPlace.row])).1
  refine ⟨a0::qs,by simp [h1],?_,?_,?_,?_⟩
  ·intro j y a hj ha
   cases j with
   | zero =>
    simp only [List.getElem?_cons_zero,zB1] at hj ha
    subst hj ha
    exact qIh hg0 hv0
   | succ j=>exact h2 j y a (by simpa using hj) (by simpa using ha)
  ·intro a ha
   rcases zY.1 ha with rfl | ha
   ·exact List.mem_append_left _ (List.mem_append_right _ (by simp [MemPlace.row]))
   ·exact List.mem_append_right _ (h3 a ha)
  ·intro a ha
   rcases zY.1 ha with rfl | ha
   ·exact hb0
   ·exact h4 a ha
  ·refine zj.2 ⟨fun a ha e=>?_,h5⟩
   subst e
   have:=(List.nodup_append.1 hnd).2.2 (MemPlace.cell a0.block a0.off) (List.mem_append_right _ (by simp [MemPlace.row])) _ (h3 _ ha)
   exact this rfl
def listed:List (String×Nat×List UInt8):=[
 ("stillroom/api.ErrText",3,[115,116,105,108,108,114,111,111,109,58,32,116,101,120,116]),
 ("stillroom/api.ErrBound",0,[115,116,105,108,108,114,111,111,109,58,32,98,111,117,110,100]),
 ("stillroom/api.ErrShape",2,[115,116,105,108,108,114,111,111,109,58,32,115,104,97,112,101]),
 ("stillroom/api.ErrKind",14,[115,116,105,108,108,114,111,111,109,58,32,107,105,110,100]),
 ("stillroom/api.ErrName",5,[115,116,105,108,108,114,111,111,109,58,32,110,97,109,101]),
 ("stillroom/api.ErrNone",7,[115,116,105,108,108,114,111,111,109,58,32,110,111,110,101]),
 ("stillroom/api.ErrExist",6,[115,116,105,108,108,114,111,111,109,58,32,101,120,105,115,116]),
 ("stillroom/api.ErrFull",4,[115,116,105,108,108,114,111,111,109,58,32,102,117,108,108]),
 ("stillroom/api.ErrDeep",11,[115,116,105,108,108,114,111,111,109,58,32,100,101,101,112]),
 ("stillroom/api.ErrOrder",12,[115,116,105,108,108,114,111,111,109,58,32,111,114,100,101,114]),
 ("stillroom/api.ErrSum",9,[115,116,105,108,108,114,111,111,109,58,32,115,117,109]),
 ("stillroom/api.ErrOff",1,[115,116,105,108,108,114,111,111,109,58,32,111,102,102]),
 ("strconv.ErrRange",16,[118,97,108,117,101,32,111,117,116,32,111,102,32,114,97,110,103,101]),
 ("strconv.ErrSyntax",15,[105,110,118,97,108,105,100,32,115,121,110,116,97,120])]
theorem qIS:∀ x∈listed,Tryz.prog.globalNamed x.1=some x.2.1∧(Tryz.prog.globals[x.2.1]?).map (·.type)=some 27:=by
 have h:(listed.all fun x=>Tryz.prog.globalNamed x.1==some x.2.1&&((Tryz.prog.globals[x.2.1]?).map (·.type)==some 27))=true:=by kernel_rfl
 intro x hx
 have:=List.all_eq_true.1 h x hx
 simpa using this
def ix (c:Nat):Nat:=if c≤11 then c-1 else 11
theorem qGr:∀ c,c<14→1≤c→(listed[ix c]?).map (·.2.1)=some (qCq c):=by decide
theorem qND:Rows.storeKeepsRow.laid.filter (fun x=>x.2.handleName?.isNone)=("math/bits.deBruijn32tab",Rows.laid_math_bits_deBruijn32tab)::("math/bits.deBruijn64tab",Rows.laid_math_bits_deBruijn64tab)::("internal/strconv.uint64pow10",Rows.laid_internal_strconv_uint64pow10)::("unicode/utf8.acceptRanges",Rows.laid_unicode_utf8_acceptRanges)::(listed.map sentinel++[("unicode/utf8.first",Rows.laid_unicode_utf8_first)]):=by kernel_rfl
theorem qJw:Rows.storeKeepsRow.laid.filter (fun x=>x.2.handleName?.isSome)=[("errors.errorType",Rows.laid_errors_errorType)]:=by kernel_rfl
theorem et:Tryz.prog.globalNamed "errors.errorType"=some 8:=by kernel_rfl
theorem rt:(Tryz.prog.cutTypes.find? (·.1== "internal/reflectlite.rtype")).map (·.2)=some 242:=by kernel_rfl
theorem size:Tryz.prog.types.size=411:=by kernel_rfl
theorem qQ5:((List.range 411).filter fun t=>Tryz.prog.rowNamed t [101,114,114,111,114])=[27]:=by kernel_rfl
theorem qGI {W:World} (h:handlesMet Tryz.prog [("errors.errorType",Rows.laid_errors_errorType)] W):W.cell? ⟨8,0,none⟩=some (.iface 242 (.agg #[.pointer (some ⟨21,27,none⟩)])):=by
 obtain ⟨name,u,ty,e1,e2,e3,e4,e5⟩:=h _ (zh.2 rfl)
 have en:name=[101,114,114,111,114]:=(Option.some.inj e1).symm
 subst en
 obtain rfl:=Option.some.inj (rt.symm.trans e2)
 have hm:ty∈(List.range 411).filter fun t=>Tryz.prog.rowNamed t [101,114,114,111,114]:=zZ.2 ⟨List.mem_range.2 (by rw [← size];exact e3),e4⟩
 rw [qQ5] at hm
 obtain rfl:=zh.1 hm
 have hh:typeHandle Tryz.prog 27=.pointer (some ⟨21,27,none⟩):=by kernel_rfl
 rw [hh] at e5
 simpa using World.var?_cell et e5 0
theorem errs {W:World} (hL:laidMetH Tryz.prog Rows.storeKeepsRow.laid W) (hS:W.ShapedOpen Tryz.prog):∃ p,Errs W p∧LibVars W:=by
 obtain ⟨hd,hh⟩:=laidMetH_iff.1 hL
 rw [qND] at hd
 rw [qJw] at hh
 have hpow:=laidMet.tail (laidMet.tail hd)
 obtain ⟨ps,hv,hnd,hrows⟩:=laidMet.tail (laidMet.tail (laidMet.tail (laidMet.tail hd)))
 obtain ⟨qs,h1,h2,_,h4,h5⟩:=qI7 listed _ ps hv hnd hrows qIS
 have hc:=qGI hh
 have hlen:qs.length=14:=h1
 have hixl:∀ c,1≤c→c≤13→ix c<14:=fun c _ _=>by unfold ix;split<;>omega
 have hget:∀ j,j<14→qs[j]?=some (qs.getD j default):=fun j hj=>by
  simp [List.getD,zL (show j<qs.length by omega)]
 refine ⟨fun c=>qs.getD (ix c) default,⟨fun c h1' h2'=>?_,fun c h1' h2'=>h4 _ (List.mem_of_getElem? (hget _ (hixl c h1' h2'))),fun c d c1 cd d1 e=>?_,hc,?_⟩,⟨?_,?_,?_,?_⟩⟩
 ·obtain ⟨x,hx,hg⟩:=Option.map_eq_some_iff.1 (qGr c (by omega) h1')
  rw [← hg]
  exact h2 (ix c) x _ hx (hget _ (hixl c h1' h2'))
 ·have hne:ix c≠ix d:=fun e2=>by
   have a1:=qGr c (by omega) c1
   have a2:=qGr d (by omega) (by omega)
   rw [e2,a2] at a1
   exact e (Option.some.inj a1).symm
  have l1:ix c<qs.length:=by have:=hixl c c1 (by omega);omega
  have l2:ix d<qs.length:=by have:=hixl d (by omega) d1;omega
  have g1:=hget _ (hixl c c1 (by omega))
  have g2:=hget _ (hixl d (by omega) d1)
  rw [zL l1] at g1
  rw [zL l2] at g2
  rcases Nat.lt_or_gt_of_ne hne with h | h
  ·have h6:=List.pairwise_iff_getElem.1 h5 _ _ l1 l2 h
   rw [Option.some.inj g1,Option.some.inj g2] at h6
   exact h6
  ·have h6:=List.pairwise_iff_getElem.1 h5 _ _ l2 l1 h
   rw [Option.some.inj g1,Option.some.inj g2] at h6
   exact fun e3=>h6 e3.symm
 ·rcases zv 8 W.heap.size with h' | h'
  ·exact h'
  ·simp [World.cell?,Array.getElem?_eq_none h'] at hc
 ·exact Go.Proofs.cell_of_shapedOpen_int (zero:=#[.int .i64 0]) (t:=3) hS (of_decide_eq_true (by kernel_rfl)) (by kernel_rfl) rfl (by kernel_rfl) (by kernel_rfl) Tryz.underlying3
 ·exact ⟨_,(h2 13 _ _ rfl (hget 13 (by omega))).1,.inr ⟨_,_,rfl⟩⟩
 ·exact ⟨_,(h2 12 _ _ rfl (hget 12 (by omega))).1,.inr ⟨_,_,rfl⟩⟩
 ·exact Lib.tabIs_of_head (g:=13) (t:=346) (e:=190) (n:=20) (by kernel_rfl) (by kernel_rfl) Tryz.underlying346 Tryz.underlying190 (by kernel_rfl) (by kernel_rfl) hpow
end Keeps
end Go.Proofs.YtceklhjomhjipaaGreatDoor
namespace Go.Proofs
open Go.Shelf
def Tryz.cloneS_ren:Go.Shelf.Ren:=⟨fun | 41=>34 | n=>n,fun | 22=>22 | 23=>9 | 4=>4 | n=>n,fun | n=>n⟩
theorem Tryz.cloneS:Go.Proofs.SlLaysE0.n41 Tryz.prog Tryz.cloneS_ren:={
 mixed:=by kernel_rfl
 f41:=⟨Tryz.f34.name,by decide,Tryz.func34.trans (congrArg some (by kernel_rfl))⟩
 t4:=Tryz.underlying4
 a4:=Tryz.isAgg4
 z4:=Tryz.sizeOf4
 v4:=Tryz.zeroValue4
 t22:=Tryz.underlying22
 a22:=Tryz.isAgg22
 z22:=Tryz.sizeOf22
 v22:=Tryz.zeroValue22 }
def Tryz.cloneB_ren:Go.Shelf.Ren:=⟨fun | 41=>165 | n=>n,fun | 22=>129 | 23=>4 | 4=>4 | n=>n,fun | n=>n⟩
theorem Tryz.cloneB:Go.Proofs.SlLaysE0.n41 Tryz.prog Tryz.cloneB_ren:={
 mixed:=by kernel_rfl
 f41:=⟨Tryz.f165.name,by decide,Tryz.func165.trans (congrArg some (by kernel_rfl))⟩
 t4:=Tryz.underlying4
 a4:=Tryz.isAgg4
 z4:=Tryz.sizeOf4
 v4:=Tryz.zeroValue4
 t22:=Tryz.underlying129
 a22:=Tryz.isAgg129
 z22:=Tryz.sizeOf129
 v22:=Tryz.zeroValue129 }
def Tryz.cloneW_ren:Go.Shelf.Ren:=⟨fun | 41=>164 | n=>n,fun | 22=>77 | 23=>223 | 4=>4 | n=>n,fun | n=>n⟩
theorem Tryz.cloneW:Go.Proofs.SlLaysE0.n41 Tryz.prog Tryz.cloneW_ren:={
 mixed:=by kernel_rfl
 f41:=⟨Tryz.f164.name,by decide,Tryz.func164.trans (congrArg some (by kernel_rfl))⟩
 t4:=Tryz.underlying4
 a4:=Tryz.isAgg4
 z4:=Tryz.sizeOf4
 v4:=Tryz.zeroValue4
 t22:=Tryz.underlying77
 a22:=Tryz.isAgg77
 z22:=Tryz.sizeOf77
 v22:=Tryz.zeroValue77 }
def Tryz.cloneK_ren:Go.Shelf.Ren:=⟨fun | 41=>33 | n=>n,fun | 22=>49 | 23=>93 | 4=>4 | n=>n,fun | n=>n⟩
theorem Tryz.cloneK:Go.Proofs.SlLaysE0.n41 Tryz.prog Tryz.cloneK_ren:={
 mixed:=by kernel_rfl
 f41:=⟨Tryz.f33.name,by decide,Tryz.func33.trans (congrArg some (by kernel_rfl))⟩
 t4:=Tryz.underlying4
 a4:=Tryz.isAgg4
 z4:=Tryz.sizeOf4
 v4:=Tryz.zeroValue4
 t22:=Tryz.underlying49
 a22:=Tryz.isAgg49
 z22:=Tryz.sizeOf49
 v22:=Tryz.zeroValue49 }
def Tryz.cloneKid_ren:Go.Shelf.Ren:=⟨fun | 41=>161 | n=>n,fun | 22=>112 | 23=>161 | 4=>4 | n=>n,fun | n=>n⟩
theorem Tryz.cloneKid:Go.Proofs.SlLaysE0.n41 Tryz.prog Tryz.cloneKid_ren:={
 mixed:=by kernel_rfl
 f41:=⟨Tryz.f161.name,by decide,Tryz.func161.trans (congrArg some (by kernel_rfl))⟩
 t4:=Tryz.underlying4
 a4:=Tryz.isAgg4
 z4:=Tryz.sizeOf4
 v4:=Tryz.zeroValue4
 t22:=Tryz.underlying112
 a22:=Tryz.isAgg112
 z22:=Tryz.sizeOf112
 v22:=Tryz.zeroValue112 }
def Tryz.cfInt_ren:Go.Shelf.Ren:=⟨fun | 8=>215 | 6=>270 | n=>n,fun | 22=>68 | 23=>3 | 25=>221 | 4=>4 | 3=>3 | 0=>0 | n=>n,fun | n=>n⟩
theorem Tryz.cfInt:Go.Proofs.SlLaysH.n8 Tryz.prog Tryz.cfInt_ren:={
 mixed:=by kernel_rfl
 f6:=⟨Tryz.f270.name,by decide,Tryz.func270.trans (congrArg some (by kernel_rfl))⟩
 f8:=⟨Tryz.f215.name,by decide,Tryz.func215.trans (congrArg some (by kernel_rfl))⟩
 t0:=Tryz.underlying0
 a0:=Tryz.isAgg0
 z0:=Tryz.sizeOf0
 v0:=Tryz.zeroValue0
 t3:=Tryz.underlying3
 a3:=Tryz.isAgg3
 z3:=Tryz.sizeOf3
 v3:=Tryz.zeroValue3
 t4:=Tryz.underlying4
 a4:=Tryz.isAgg4
 z4:=Tryz.sizeOf4
 v4:=Tryz.zeroValue4
 t22:=Tryz.underlying68
 a22:=Tryz.isAgg68
 z22:=Tryz.sizeOf68
 v22:=Tryz.zeroValue68
 a23:=Tryz.isAgg3
 z23:=Tryz.sizeOf3
 t25:=Tryz.underlying221
 a25:=Tryz.isAgg221
 z25:=Tryz.sizeOf221
 v25:=Tryz.zeroValue221 }
def Tryz.cfStr_ren:Go.Shelf.Ren:=⟨fun | 8=>207 | 6=>258 | n=>n,fun | 22=>22 | 23=>9 | 25=>143 | 4=>4 | 3=>3 | 0=>0 | n=>n,fun | n=>n⟩
theorem Tryz.cfStr:Go.Proofs.SlLaysH.n8 Tryz.prog Tryz.cfStr_ren:={
 mixed:=by kernel_rfl
 f6:=⟨Tryz.f258.name,by decide,Tryz.func258.trans (congrArg some (by kernel_rfl))⟩
 f8:=⟨Tryz.f207.name,by decide,Tryz.func207.trans (congrArg some (by kernel_rfl))⟩
 t0:=Tryz.underlying0
 a0:=Tryz.isAgg0
 z0:=Tryz.sizeOf0
 v0:=Tryz.zeroValue0
 t3:=Tryz.underlying3
 a3:=Tryz.isAgg3
 z3:=Tryz.sizeOf3
 v3:=Tryz.zeroValue3
 t4:=Tryz.underlying4
 a4:=Tryz.isAgg4
 z4:=Tryz.sizeOf4
 v4:=Tryz.zeroValue4
 t22:=Tryz.underlying22
 a22:=Tryz.isAgg22
 z22:=Tryz.sizeOf22
 v22:=Tryz.zeroValue22
 a23:=Tryz.isAgg9
 z23:=Tryz.sizeOf9
 t25:=Tryz.underlying143
 a25:=Tryz.isAgg143
 z25:=Tryz.sizeOf143
 v25:=Tryz.zeroValue143 }
def Tryz.keysStat_ren:Go.Shelf.Ren:=⟨fun | 7=>102 | 10=>160 | n=>n,fun | 23=>84 | 26=>3 | 3=>181 | 28=>179 | 0=>0 | 27=>178 | 33=>221 | 4=>4 | n=>n,fun | n=>n⟩
theorem Tryz.keysStat:Go.Proofs.SlLaysZI.n7 Tryz.prog Tryz.keysStat_ren:={
 mixed:=by kernel_rfl
 f7:=⟨Tryz.f102.name,by decide,Tryz.func102.trans (congrArg some (by kernel_rfl))⟩
 f10:=⟨Tryz.f160.name,by decide,Tryz.func160.trans (congrArg some (by kernel_rfl))⟩
 t0:=Tryz.underlying0
 a0:=Tryz.isAgg0
 z0:=Tryz.sizeOf0
 v0:=Tryz.zeroValue0
 t4:=Tryz.underlying4
 a4:=Tryz.isAgg4
 z4:=Tryz.sizeOf4
 v4:=Tryz.zeroValue4
 t23:=Tryz.underlying84
 a23:=Tryz.isAgg84
 z23:=Tryz.sizeOf84
 v23:=Tryz.zeroValue84
 t26:=Tryz.underlying3
 a26:=Tryz.isAgg3
 z26:=Tryz.sizeOf3
 v26:=Tryz.zeroValue3
 t27:=Tryz.underlying178
 a27:=Tryz.isAgg178
 z27:=Tryz.sizeOf178
 v27:=Tryz.zeroValue178
 t28:=Tryz.underlying179
 a28:=Tryz.isAgg179
 z28:=Tryz.sizeOf179
 v28:=Tryz.zeroValue179
 t33:=Tryz.underlying221
 a33:=Tryz.isAgg221
 z33:=Tryz.sizeOf221
 v33:=Tryz.zeroValue221 }
def Tryz.keysEnt_ren:Go.Shelf.Ren:=⟨fun | 7=>222 | 10=>276 | n=>n,fun | 23=>87 | 26=>3 | 3=>134 | 28=>179 | 0=>0 | 27=>178 | 33=>221 | 4=>4 | n=>n,fun | n=>n⟩
theorem Tryz.keysEnt:Go.Proofs.SlLaysZI.n7 Tryz.prog Tryz.keysEnt_ren:={
 mixed:=by kernel_rfl
 f7:=⟨Tryz.f222.name,by decide,Tryz.func222.trans (congrArg some (by kernel_rfl))⟩
 f10:=⟨Tryz.f276.name,by decide,Tryz.func276.trans (congrArg some (by kernel_rfl))⟩
 t0:=Tryz.underlying0
 a0:=Tryz.isAgg0
 z0:=Tryz.sizeOf0
 v0:=Tryz.zeroValue0
 t4:=Tryz.underlying4
 a4:=Tryz.isAgg4
 z4:=Tryz.sizeOf4
 v4:=Tryz.zeroValue4
 t23:=Tryz.underlying87
 a23:=Tryz.isAgg87
 z23:=Tryz.sizeOf87
 v23:=Tryz.zeroValue87
 t26:=Tryz.underlying3
 a26:=Tryz.isAgg3
 z26:=Tryz.sizeOf3
 v26:=Tryz.zeroValue3
 t27:=Tryz.underlying178
 a27:=Tryz.isAgg178
 z27:=Tryz.sizeOf178
 v27:=Tryz.zeroValue178
 t28:=Tryz.underlying179
 a28:=Tryz.isAgg179
 z28:=Tryz.sizeOf179
 v28:=Tryz.zeroValue179
 t33:=Tryz.underlying221
 a33:=Tryz.isAgg221
 z33:=Tryz.sizeOf221
 v33:=Tryz.zeroValue221 }
def Tryz.sortedI_ren:Go.Shelf.Ren:=⟨fun | 6=>101 | 8=>158 | 9=>159 | 11=>213 | 13=>193 | 12=>214 | 23=>243 | 24=>244 | 14=>261 | 15=>262 | 16=>263 | 17=>264 | 18=>265 | 19=>266 | 20=>267 | 21=>268 | 22=>269 | 25=>297 | 26=>286 | 27=>287 | 28=>298 | 29=>299 | 30=>300 | 31=>314 | n=>n,fun | 26=>3 | 28=>179 | 24=>68 | 0=>0 | 3=>3 | 37=>118 | 48=>69 | 50=>190 | 4=>4 | 40=>317 | 39=>316 | 45=>148 | 5=>5 | 9=>9 | 51=>352 | 55=>356 | 57=>373 | 58=>374 | 33=>221 | n=>n,fun | n=>n⟩
theorem Tryz.sortedI:Go.Proofs.SlLaysZI.n6 Tryz.prog Tryz.sortedI_ren:={
 mixed:=by kernel_rfl
 f6:=⟨Tryz.f101.name,by decide,Tryz.func101.trans (congrArg some (by kernel_rfl))⟩
 f8:=⟨Tryz.f158.name,by decide,Tryz.func158.trans (congrArg some (by kernel_rfl))⟩
 f11:=⟨Tryz.f213.name,by decide,Tryz.func213.trans (congrArg some (by kernel_rfl))⟩
 t0:=Tryz.underlying0
 a0:=Tryz.isAgg0
 z0:=Tryz.sizeOf0
 v0:=Tryz.zeroValue0
 t24:=Tryz.underlying68
 a24:=Tryz.isAgg68
 z24:=Tryz.sizeOf68
 v24:=Tryz.zeroValue68
 t26:=Tryz.underlying3
 a26:=Tryz.isAgg3
 z26:=Tryz.sizeOf3
 v26:=Tryz.zeroValue3
 t28:=Tryz.underlying179
 a28:=Tryz.isAgg179
 z28:=Tryz.sizeOf179
 v28:=Tryz.zeroValue179
 i26:=by kernel_rfl }
def Tryz.sortI_ren:Go.Shelf.Ren:=⟨fun | 5=>159 | 8=>193 | 7=>214 | 19=>243 | 20=>244 | 10=>261 | 11=>262 | 12=>263 | 13=>264 | 14=>265 | 15=>266 | 16=>267 | 17=>268 | 18=>269 | 30=>297 | 31=>286 | 32=>287 | 33=>298 | 34=>299 | 35=>300 | 40=>314 | n=>n,fun | 23=>68 | 25=>3 | 3=>3 | 32=>118 | 22=>68 | 0=>0 | 44=>69 | 46=>190 | 4=>4 | 36=>317 | 35=>316 | 41=>148 | 5=>5 | 9=>9 | 53=>352 | 57=>356 | 63=>373 | 64=>374 | n=>n,fun | n=>n⟩
theorem Tryz.sortI:Go.Proofs.SlLaysM.n5 Tryz.prog Tryz.sortI_ren:={
 mixed:=by kernel_rfl
 f5:=⟨Tryz.f159.name,by decide,Tryz.func159.trans (congrArg some (by kernel_rfl))⟩
 f7:=⟨Tryz.f214.name,by decide,Tryz.func214.trans (congrArg some (by kernel_rfl))⟩
 f8:=Tryz.func193.trans (congrArg some (by kernel_rfl))
 f10:=⟨Tryz.f261.name,by decide,Tryz.func261.trans (congrArg some (by kernel_rfl))⟩
 f11:=⟨Tryz.f262.name,by decide,Tryz.func262.trans (congrArg some (by kernel_rfl))⟩
 f12:=⟨Tryz.f263.name,by decide,Tryz.func263.trans (congrArg some (by kernel_rfl))⟩
 f13:=⟨Tryz.f264.name,by decide,Tryz.func264.trans (congrArg some (by kernel_rfl))⟩
 f14:=⟨Tryz.f265.name,by decide,Tryz.func265.trans (congrArg some (by kernel_rfl))⟩
 f15:=⟨Tryz.f266.name,by decide,Tryz.func266.trans (congrArg some (by kernel_rfl))⟩
 f16:=⟨Tryz.f267.name,by decide,Tryz.func267.trans (congrArg some (by kernel_rfl))⟩
 f17:=⟨Tryz.f268.name,by decide,Tryz.func268.trans (congrArg some (by kernel_rfl))⟩
 f18:=⟨Tryz.f269.name,by decide,Tryz.func269.trans (congrArg some (by kernel_rfl))⟩
 f19:=Tryz.func243.trans (congrArg some (by kernel_rfl))
 f20:=Tryz.func244.trans (congrArg some (by kernel_rfl))
 f30:=⟨Tryz.f297.name,by decide,Tryz.func297.trans (congrArg some (by kernel_rfl))⟩
 f31:=Tryz.func286.trans (congrArg some (by kernel_rfl))
 f32:=Tryz.func287.trans (congrArg some (by kernel_rfl))
 f33:=⟨Tryz.f298.name,by decide,Tryz.func298.trans (congrArg some (by kernel_rfl))⟩
 f34:=⟨Tryz.f299.name,by decide,Tryz.func299.trans (congrArg some (by kernel_rfl))⟩
 f35:=⟨Tryz.f300.name,by decide,Tryz.func300.trans (congrArg some (by kernel_rfl))⟩
 f40:=⟨Tryz.f314.name,by decide,Tryz.func314.trans (congrArg some (by kernel_rfl))⟩
 t0:=Tryz.underlying0
 a0:=Tryz.isAgg0
 z0:=Tryz.sizeOf0
 v0:=Tryz.zeroValue0
 t3:=Tryz.underlying3
 a3:=Tryz.isAgg3
 z3:=Tryz.sizeOf3
 v3:=Tryz.zeroValue3
 t4:=Tryz.underlying4
 a4:=Tryz.isAgg4
 z4:=Tryz.sizeOf4
 v4:=Tryz.zeroValue4
 t5:=Tryz.underlying5
 a5:=Tryz.isAgg5
 z5:=Tryz.sizeOf5
 v5:=Tryz.zeroValue5
 t9:=Tryz.underlying9
 a9:=Tryz.isAgg9
 z9:=Tryz.sizeOf9
 v9:=Tryz.zeroValue9
 t22:=Tryz.underlying68
 a22:=Tryz.isAgg68
 z22:=Tryz.sizeOf68
 v22:=Tryz.zeroValue68
 t23:=Tryz.underlying68
 a23:=Tryz.isAgg68
 z23:=Tryz.sizeOf68
 v23:=Tryz.zeroValue68
 t25:=Tryz.underlying3
 a25:=Tryz.isAgg3
 z25:=Tryz.sizeOf3
 v25:=Tryz.zeroValue3
 t32:=Tryz.underlying118
 a32:=Tryz.isAgg118
 z32:=Tryz.sizeOf118
 v32:=Tryz.zeroValue118
 t35:=Tryz.underlying316
 a35:=Tryz.isAgg316
 z35:=Tryz.sizeOf316
 v35:=Tryz.zeroValue316
 t36:=Tryz.underlying317
 a36:=Tryz.isAgg317
 z36:=Tryz.sizeOf317
 v36:=Tryz.zeroValue317
 t41:=Tryz.underlying148
 a41:=Tryz.isAgg148
 z41:=Tryz.sizeOf148
 v41:=Tryz.zeroValue148
 t44:=Tryz.underlying69
 a44:=Tryz.isAgg69
 z44:=Tryz.sizeOf69
 v44:=Tryz.zeroValue69
 t46:=Tryz.underlying190
 a46:=Tryz.isAgg190
 z46:=Tryz.sizeOf190
 v46:=Tryz.zeroValue190
 t53:=Tryz.underlying352
 a53:=Tryz.isAgg352
 z53:=Tryz.sizeOf352
 v53:=Tryz.zeroValue352
 t57:=Tryz.underlying356
 a57:=Tryz.isAgg356
 z57:=Tryz.sizeOf356
 v57:=Tryz.zeroValue356
 t63:=Tryz.underlying373
 a63:=Tryz.isAgg373
 z63:=Tryz.sizeOf373
 v63:=Tryz.zeroValue373
 t64:=Tryz.underlying374
 a64:=Tryz.isAgg374
 z64:=Tryz.sizeOf374
 v64:=Tryz.zeroValue374 }
def Tryz.mclone_ren:Go.Shelf.Ren:=⟨fun | 5=>65 | 7=>114 | n=>n,fun | 23=>132 | 25=>9 | 3=>3 | 4=>4 | 20=>20 | n=>n,fun | n=>n⟩
theorem Tryz.mclone:Go.Proofs.SlLaysW.n5 Tryz.prog Tryz.mclone_ren:={
 mixed:=by kernel_rfl
 f5:=⟨Tryz.f65.name,by decide,Tryz.func65.trans (congrArg some (by kernel_rfl))⟩
 f7:=Tryz.func114.trans (congrArg some (by kernel_rfl))
 t4:=Tryz.underlying4
 a4:=Tryz.isAgg4
 z4:=Tryz.sizeOf4
 v4:=Tryz.zeroValue4
 t20:=Tryz.underlying20
 a20:=Tryz.isAgg20
 z20:=Tryz.sizeOf20
 v20:=Tryz.zeroValue20
 t23:=Tryz.underlying132
 a23:=Tryz.isAgg132
 z23:=Tryz.sizeOf132
 v23:=Tryz.zeroValue132 }
end Go.Proofs
namespace Go.Proofs.YtceklhjomhjipaaGreatDoor
open Go.RowKit Go.Sort Go.Shelf Stl
structure PkX where
 p:Pk
 a:Option Addr
 cap:Nat
instance:Inhabited PkX:=⟨⟨⟨[],[],0⟩,none,0⟩⟩
def qA6 (x:PkX):List Value:=[.string ⟨x.p.name.toArray⟩,.slice x.a x.p.refs.length x.cap,.int .i64 x.p.k]
theorem qBs:∀ zs:List PkX,(zs.flatMap qA6).length=zs.length*3
 | []=>rfl
 | x::r=>by
  have:=qBs r
  simp only [List.flatMap_cons,zP,zQ,this]
  show 3+_=_
  omega
theorem qFA:∀ (zs:List PkX) (j:Nat) (h:j<zs.length) (i:Nat),i<3→(zs.flatMap qA6)[j*3+i]?=(qA6 zs[j])[i]?
 | [],_,h,_,_=>by simp at h
 | x::r,0,_,i,hi=>by
  rw [List.flatMap_cons,List.getElem?_append_left (show 0*3+i<(qA6 x).length by show _<3;omega)]
  simp
 | x::r,j+1,h,i,hi=>by
  have:=qFA r j (by simpa using h) i hi
  rw [List.flatMap_cons,List.getElem?_append_right (show (qA6 x).length≤(j+1)*3+i by show 3≤_;omega)]
  rw [show (j+1)*3+i-(qA6 x).length=j*3+i by show (j+1)*3+i-3=_;omega,this]
  simp
section
variable {w w2:World} {c c2:Nat→Col} {S:Col→Bool}
theorem PksCells.opened:∀ {l:List Pk} {vs:List Value},PksCells w c l vs→∃ zs:List PkX,zs.map (·.p)=l∧vs=zs.flatMap qA6∧∀ x∈zs,x.p.refs.length≤x.cap∧RoStrs w c x.a x.p.refs
 | [],vs,h=>⟨[],rfl,h,by simp⟩
 | p::r,vs,h=>by
  obtain ⟨A,cap,rest,h1,h2,h3,h4⟩:=h
  obtain ⟨zs,e1,e2,e3⟩:=PksCells.opened h4
  refine ⟨⟨p,A,cap⟩::zs,by simp [e1],by rw [h1,e2];rfl,?_⟩
  intro x hx
  rcases zY.1 hx with rfl | hx
  ·exact ⟨h2,h3⟩
  ·exact e3 x hx
theorem PksCells.shut:∀ {zs:List PkX},(∀ x∈zs,x.p.refs.length≤x.cap∧RoStrs w c x.a x.p.refs)→PksCells w c (zs.map (·.p)) (zs.flatMap qA6)
 | [],_=>rfl
 | x::r,h=>⟨x.a,x.cap,r.flatMap qA6,rfl,(h x (by simp)).1,(h x (by simp)).2,PksCells.shut fun y hy=>h y (by simp [hy])⟩
theorem StoIn.kept {b:Nat} {s:Sto} {bd:Nat} {vl vr:Value} {tp:Nat} {cs:List Value} (h:StoIn w c b s bd vl vr tp cs):∃ (A:Option Addr) (cap:Nat) (zs:List PkX),vl=.slice A zs.length cap∧zs.map (·.p)=s.l∧zs.length=s.l.length∧cs=zs.flatMap qA6∧(∀ x∈zs,x.p.refs.length≤x.cap∧RoStrs w c x.a x.p.refs):=by
 obtain ⟨zs,e1,e2,e3⟩:=h.pcells.opened
 obtain ⟨A,cap,e4⟩:=h.packs.slice
 have e5:zs.length=s.l.length:=by rw [← e1,zT]
 exact ⟨A,cap,zs,by rw [e4,e5],e1,e5,e2,e3⟩
end
structure PX where
 p:Pk
 a:Option Addr
 cap:Nat
 t0:ByteArray
 t1:ByteArray
 t2:Bool
 t3:Option Addr
 t4:Nat
 t5:Nat
instance:Inhabited PX:=⟨⟨⟨[],[],0⟩,none,0,⟨#[]⟩,⟨#[]⟩,false,none,0,0⟩⟩
def qF8 (x:PX):List Value:=[.string ⟨x.p.name.toArray⟩,.slice x.a x.p.refs.length x.cap,.string x.t0,.string x.t1,.bool x.t2,.slice x.t3 x.t4 x.t5]
theorem qE9:∀ zs:List PX,(zs.flatMap qF8).length=zs.length*6
 | []=>rfl
 | x::r=>by
  have:=qE9 r
  simp only [List.flatMap_cons,zP,zQ,this]
  show 6+_=_
  omega
theorem qCB:∀ (zs:List PX) (j:Nat) (h:j<zs.length) (i:Nat),i<6→(zs.flatMap qF8)[j*6+i]?=(qF8 zs[j])[i]?
 | [],_,h,_,_=>by simp at h
 | x::r,0,_,i,hi=>by
  rw [List.flatMap_cons,List.getElem?_append_left (show 0*6+i<(qF8 x).length by show _<6;omega)]
  simp
 | x::r,j+1,h,i,hi=>by
  have:=qCB r j (by simpa using h) i hi
  rw [List.flatMap_cons,List.getElem?_append_right (show (qF8 x).length≤(j+1)*6+i by show 6≤_;omega)]
  rw [show (j+1)*6+i-(qF8 x).length=j*6+i by show (j+1)*6+i-6=_;omega,this]
  simp
structure PacksAt (w:World) (A:Option Addr) (zs:List PX):Prop where
 row:zs≠[]→∃ b off,A=some ⟨b,off,none⟩∧b<w.heap.size∧∀ (j:Nat) u,(zs.flatMap qF8)[j]?=some u→w.cell? ⟨b,off+j,none⟩=some u
 refs:∀ x∈zs,x.p.refs.length≤x.cap∧Strs w (.slice x.a x.p.refs.length x.cap) x.p.refs
section
variable {w w2:World} {A:Option Addr} {zs:List PX}
theorem PacksAt.later (h:PacksAt w A zs) (hb:Below w.heap.size w w2):PacksAt w2 A zs :=
 ⟨fun hn=>by
  obtain ⟨b,off,h1,h2,h3⟩:=h.row hn
  exact ⟨b,off,h1,zu h2 hb.size,fun j u hu=>(hb.cell (p:=⟨b,off+j,none⟩) h2).trans (h3 j u hu)⟩,
  fun x hx=>⟨(h.refs x hx).1,(h.refs x hx).2.later hb⟩⟩
theorem PacksAt.at (h:PacksAt w A zs) {j:Nat} (hj:j<zs.length):∃ b off,A=some ⟨b,off,none⟩∧b<w.heap.size ∧
  w.cell? ⟨b,off+j*6,none⟩=some (.string ⟨zs[j].p.name.toArray⟩)∧w.cell? ⟨b,off+j*6+1,none⟩=some (.slice zs[j].a zs[j].p.refs.length zs[j].cap)∧w.cell? ⟨b,off+j*6+2,none⟩=some (.string zs[j].t0)∧w.cell? ⟨b,off+j*6+3,none⟩=some (.string zs[j].t1)∧w.cell? ⟨b,off+j*6+4,none⟩=some (.bool zs[j].t2)∧w.cell? ⟨b,off+j*6+5,none⟩=some (.slice zs[j].t3 zs[j].t4 zs[j].t5):=by
 obtain ⟨b,off,h1,h2,h3⟩:=h.row (fun e=>by rw [e] at hj;simp at hj)
 refine ⟨b,off,h1,h2,?_,?_,?_,?_,?_,?_⟩
 ·have:=h3 (j*6+0) _ (qCB zs j hj 0 (by omega));simpa using this
 ·have:=h3 (j*6+1) _ (qCB zs j hj 1 (by omega));rw [Nat.add_assoc];exact this
 ·have:=h3 (j*6+2) _ (qCB zs j hj 2 (by omega));rw [Nat.add_assoc];exact this
 ·have:=h3 (j*6+3) _ (qCB zs j hj 3 (by omega));rw [Nat.add_assoc];exact this
 ·have:=h3 (j*6+4) _ (qCB zs j hj 4 (by omega));rw [Nat.add_assoc];exact this
 ·have:=h3 (j*6+5) _ (qCB zs j hj 5 (by omega));rw [Nat.add_assoc];exact this
end
end Go.Proofs.YtceklhjomhjipaaGreatDoor
