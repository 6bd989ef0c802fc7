/- Lemmas. -/
import Derived.Laws.AppendOwnNone
import Derived.Test.YtbmkaekimccdgaaGreatDoorBm46
set_option maxHeartbeats 16000000
set_option maxRecDepth 1000000
set_option linter.all false
namespace Go.Proofs.YtbmkaekimccdgaaGreatDoor
open Go.RowKit Go.Sort Go.Shelf Stl
def TextsAt (w:World)(p:Nat→Addr)(T:Nat→List UInt8):Prop:=∀ cd,cd≠0→cd≤13→w.cell? (p cd)=some (.string ⟨(T cd).toArray⟩)
theorem TextsAt.later {w w':World}{p:Nat→Addr}{T:Nat→List UInt8}(h:TextsAt w p T)(hb:Below w.heap.size w w'):TextsAt w' p T :=
 fun cd h0 h1=>(hb.cell (lt_of_cell (h cd h0 h1))).trans (h cd h0 h1)
theorem qKX {p:Nat→Addr}(e:Addr)(w:World)(hE:Errs w p) :
  Calls Tryz.prog 13 #[.iface 376 (.pointer (some e))] w fun ev w'=>ev=.returned (.iface 376 (.pointer (some e)))∧Below w.heap.size w w':=by
 have hb1:=(zB w.heap.size w).alloc (zo _) (.cells #[.pointer none] 67);have HB1:=Hh hb1;have HAS:=Hh (qNK e ⟨w.heap.size,0,none⟩ (w.alloc (.cells #[.pointer none] 67)) (hE.later hb1).ety.1);clear hE hb1;go_enter Tryz.func13,Tryz.ntmps13;go_wp2_with (go_at_call 22;refine HAS.o.mono ?_;rintro ev w2 ⟨rfl,hb2⟩;have HB2:=Hh (HB1.o.trans (hb2.mono HB1.o.size));clear hb2);go_ret;exact⟨rfl,HB2.o⟩
theorem qK8 {w:World}{a:Addr}{x:ByteArray}(h:w.cell? a=some (.string x)) :
  Calls Tryz.prog 383 #[.pointer (some a)] w fun ev w'=>ev=.returned (.string x)∧w'=w:=by
 go_enter Tryz.func383,Tryz.ntmps383;go_wp2;go_ret;exact⟨rfl,rfl⟩
structure RnSt (w wr:World)(cr:Nat→Col)(pb b tp:Nat)(p:Nat→Addr)(T:Nat→List UInt8)(l:List (List UInt8))(j:Nat)(s:Sto)(t:Stl.Tape)(A:Option Addr)(c:Nat):Prop where
 base:Below w.heap.size w wr
 low:∀ k,k<w.heap.size→cr k=.ro
 pbn:w.heap.size≤pb
 pl:PlAt wr cr pb b tp p s t
 row:wr.ownsRow w.heap.size 9 1 (.slice A j c) j ((qY T dU mM (l.take j)).map encStr)
 col:∀ k,(Value.slice A j c).ownBlock=some k→cr k=.dead∧k≠pb
 run:RunAt l j s t
section
variable {w wr w1 w4 w7:World}{cr c1:Nat→Col}{pb b b' tp:Nat}{p:Nat→Addr}{T:Nat→List UInt8}{l:List (List UInt8)}{j:Nat}{s:Sto}{t:Stl.Tape}{A:Option Addr}{c:Nat}
theorem RnSt.mid (h:RnSt w wr cr pb b tp p T l j s t A c)(hf:oW wr w1 cr c1 pb) :
  Below w.heap.size w w1∧(∀ k,k<w.heap.size→c1 k=.ro)∧w1.ownsRow w.heap.size 9 1 (.slice A j c) j ((qY T dU mM (l.take j)).map encStr)∧∀ k,(Value.slice A j c).ownBlock=some k→c1 k=.dead∧k≠pb:=by
 have hlow:∀ k,k<w.heap.size→jC cr pb .sto k=.ro:=fun k hk=>by
  have:=h.pbn;rw[kK (by omega)];exact h.low k hk
 have hb:Below w.heap.size wr w1:=Ext.below hf h.base.size (fun k hk=>by rw[hlow k hk];rfl);obtain⟨h1,h2⟩:=Ext.row hf h.row (fun k hk=>(kK (h.col k hk).2).trans (h.col k hk).1) rfl;exact⟨h.base.trans hb,fun k hk=>(hf.keep k (zt hk h.base.size) (by rw[hlow k hk];rfl)).2.trans (hlow k hk),h1,fun k hk=>⟨h2 k hk,(h.col k hk).2⟩⟩
theorem RnSt.next {res:Except Nat (List UInt8)}{s1:Sto}{t1:Stl.Tape}(h:RnSt w wr cr pb b tp p T l j s t A c){x:List UInt8}(hx:l[j]?=some x)(hi:j≤300)(hl:x.length≤250)(hq:qL s t x=(res,s1,t1))(hf:oW wr w1 cr c1 pb)(hp:PlAt w1 c1 pb b' tp p s1 t1)(hb:Below w1.heap.size w1 w4){A7:Option Addr}{c7:Nat}(hg:w4.grownBy w7 (Value.slice A j c).ownBlock)
  (hown:w7.ownsRow w.heap.size 9 1 (.slice A7 (j+1) c7) (j+1) (((qY T dU mM (l.take j)).map encStr)++[encStr (nL T res)])) (hat:(Value.slice A7 (j+1) c7).ownBlock=(Value.slice A j c).ownBlock∨(Value.slice A7 (j+1) c7).ownBlock=some w4.heap.size) :
  ∃ c2,RnSt w w7 c2 pb b' tp p T l (j+1) s1 t1 A7 c7:=by
 obtain⟨m1,m2,m3,m4⟩:=h.mid hf;have hpl:pb<w1.heap.size:=qA hp.own;have hlt:∀ k,(Value.slice A j c).ownBlock=some k→w.heap.size≤k∧k<w1.heap.size:=m3.lt;have e4:Ext w1 w4 c1 (jU w1 c1) S0:=(Ext.of_below hb c1 S0).recolor fun k hk _=>zM1 hk
 have hp4:=hp.ext e4;have e7:Ext w4 w7 (jU w1 c1) (jU w1 c1) oG:=(Ext.refl w4 _ oG).grown hg fun k hk _=>by
  show decide (jU w1 c1 k=.dead)=true;rw[show jU w1 c1 k=c1 k from zM1 (hlt k hk).2,(m4 k hk).1];rfl
 refine⟨jU w1 c1,?_,fun k hk=>?_,h.pbn,⟨?_,hp4.col,hp4.st.dead e7⟩,?_,fun k hk=>?_,?_⟩
 ·exact(m1.trans (hb.mono m1.size)).grown hg (zq m1.size hb.size) (fun k hk=>(hlt k hk).1)
 ·rw[show jU w1 c1 k=c1 k from zM1 (zt hk m1.size)];exact m2 k hk
 ·exact(hg.block _ (qA hp4.own) (fun e=>(m4 pb e.symm).2 rfl)).trans hp4.own
 ·rw[(qCA T hx h.run.1).1,zU,hq];exact hown
 ·rcases hat with e | e
  ·rw[e] at hk;exact⟨by rw[show jU w1 c1 k=c1 k from zM1 (hlt k hk).2];exact(m4 k hk).1,(m4 k hk).2⟩
  ·rw[e] at hk;injection hk with hk
   have:=hb.size;exact⟨zL1 (by omega),by omega⟩
 ·have:=h.run.more hx hi hl;rw[hq] at this;exact this
def dX (r:Except Nat (List UInt8)):Bool:=match r with | .ok _=>false | .error _=>true
theorem qOF {r:Except Nat (List UInt8)}{er:Value}{a:ByteArray}(h:match r with | .error cd=>er=jK p cd∧cd≠0 | .ok x=>er=.nilIface∧a=⟨x.toArray⟩)(W:World) :
  (eqGuard .neq 27 (.tmp 38) (.const .nilIface) er .nilIface).run Tryz.prog W=.ok () W∧(binOp .neq 27 er .nilIface).run Tryz.prog W=.ok (.bool (dX r)) W:=by
 cases r with
 | ok y =>
  rw[h.1];exact⟨by simp[go_sem],by simp[go_sem,dX]⟩
 | error cd =>
  rw[h.1,qD p h.2];exact⟨by simp[go_sem],by simp[go_sem,dX]⟩
theorem qKV (a:Addr)(w:World):(nilAhead 543 376 (.pointer (some a)) "Error").run Tryz.prog w=.ok (some false) w:=by kernel_rfl
theorem qEF (a:Addr)(w:World):(method 543 376 (.pointer (some a)) "Error").run Tryz.prog w=.ok (383,.pointer (some a)) w:=by kernel_rfl
def qKe (w:World)(T:Nat→List UInt8)(l:List (List UInt8))(ev:Ending)(w':World):Prop :=
 ∃ (A:Option Addr) (c:Nat),ev=.returned (.tuple #[.slice A l.length c,.nilIface])∧Below w.heap.size w w'∧w'.ownsRow w.heap.size 9 1 (.slice A l.length c) l.length ((qY T dU mM l).map encStr)
theorem qGj (w:World)(hE:Env w (fun _=>.ro) p)(hT:TextsAt w p T)(hn:l.length≤80)(hsh:∀ x∈l,x.length≤250)(A:Option Addr)(cl:Nat)(hs:Strs w (.slice A l.length cl) l) :
  Calls Tryz.prog 8 #[.slice A l.length cl] w (qKe w T l):=by
 have HNW:=Hh (qFi 64 (by decide) (by decide) w (fun _=>.ro));have HE:=Hh hE;have HT:=Hh hT;have HSH:=Hh hsh;have HS0:=Hh hs;have i1:¬ (80:Int)<(l.length:Int):=by omega
 clear hE hT hsh hs;go_enter Tryz.func8,Tryz.ntmps8;go_upto_region 6 with (go_at_call 11;refine HNW.o.mono ?_;rintro ev w2 ⟨b,tp,c2,rfl,_,he2,hs2,ht2⟩;have HE2:=Hh he2;have HS2:=Hh hs2;have HT2:=Hh ht2;clear he2 hs2 ht2);have hsz:=HE2.o.size;have HR0:=Hh (show RnSt w (w2.alloc (.cells #[.pointer (some ⟨b,0,none⟩)] 38)) (jC c2 w2.heap.size .dead) w2.heap.size b tp p T l 0 dU mM none 0 from by
  have hb2:Below w.heap.size w w2:=HE2.o.below (zo _) (fun _ _=>rfl)
  refine⟨hb2.alloc hb2.size _,fun k hk=>?_,hsz,⟨zK1 _ _,qM _ _ _,?_⟩,zF1 _ _ _ _,fun k hk=>(by cases hk),qNu l⟩
  ·rw[kK (by omega),(HE2.o.keep k hk rfl).2]
  ·exact(show StAt w2 c2 b tp p dU mM from ⟨HS2.o,HT2.o,HE.o.ext HE2.o rfl⟩).ext (Ext.made w2 c2 S0 _ .dead))
 obtain⟨i0,hi,hz0,hz1,hz2⟩:=pO;have Hi:=Hh hi;have Hz0:=Hh hz0;have Hz1:=Hh hz1;have Hz2:=Hh hz2;clear hi hz0 hz1 hz2 HNW HE2 HS2 HT2;go_upto_region 8 with fail;generalize w2.alloc (.cells #[.pointer (some ⟨b,0,none⟩)] 38)=w3 at *;go_wp2_with fail
 go_loopw [7,28] (fun a a2 wr=>∃ (j:Nat) (A7:Option Addr) (c7 b1:Nat) (cr:Nat→Col) (s:Sto) (t:Stl.Tape),a=.slice A7 j c7∧a2=.int .i64 j∧j≤l.length∧Hg (RnSt w wr cr w2.heap.size b1 tp p T l j s t A7 c7)) (fun _ a _=>l.length-(intOf a).toNat)
 case atStart=>exact⟨0,none,0,b,_,dU,mM,rfl,rfl,zw _,HR0⟩
 case round =>
  obtain⟨j,A7,c7,b1,cr,s,t,rfl,rfl,hj,HR⟩:=hrel;by_cases hlt:j<l.length
  ·have i2:(j:Int)<(l.length:Int):=by omega
   have i3:(0:Int)≤(j:Int):=by omega
   obtain⟨g,off,hA,hgl,q00⟩:=HS0.o.cellAt hlt;subst hA;have q0:=(HR.o.base.cell (p:=⟨g,off+j,none⟩) hgl).trans q00;have hx:l[j]?=some l[j]:=zL hlt;have hlen:=HSH.o _ (zO hlt);generalize l[j]=line at *;have HX:=Hh hx;have HLE:=Hh hlen;obtain⟨rs,y,ho⟩:=HR.o.run.2;have HPY:=Hh (qLJ HR.o.pl (by omega) ho line hlen);have HFW:=Hh (HR.o.run.few line);obtain⟨q,hq⟩:∃ q,qL s t line=q:=⟨_,rfl⟩;rw[hq] at HPY HFW;obtain⟨res,s1,t1⟩:=q;have HQ:=Hh hq;clear q00 hx ho hlen hq;go_upto_region 12 with (go_at_call 12;refine HPY.o.mono ?_;rintro ev w1 ⟨a,er,b',c1,rfl,hf,hp,hm⟩;have HF:=Hh hf;have HP:=Hh hp;have HM:=Hh hm;clear hf hp hm);clear q0;have HMD:=Hh (HR.o.mid HF.o);obtain⟨bb,hbb⟩:∃ bb,dX res=bb:=⟨_,rfl⟩;have hg1:=fun W=>(qOF HM.o W).1
   have hg2:=fun W=>(qOF HM.o W).2
   rw[hbb] at hg2;have HBB:=Hh hbb;clear hbb
   go_upto_if 39 with fail
   go_cut [10] (fun v wx=>v=.string ⟨(nL T res).toArray⟩∧Hg (Below w1.heap.size w1 wx))
   case first =>
    cases res with
    | ok y =>
     obtain rfl:bb=false:=HBB.o.symm;obtain⟨rfl,rfl⟩:=HM.o;go_wp2_with fail;go_meet
     case rel=>exact⟨rfl,Hh (zB _ _)⟩
    | error cd =>
     obtain rfl:bb=true:=HBB.o.symm;obtain⟨he,hcd⟩:=HM.o;have he2:=he.trans (qD p hcd);have HC:=Hh hcd;subst he2;have hna:=fun a W=>qKV a W
     have hme:=fun a W=>qEF a W
     have HBA:=Hh (qKX (p cd) w1 HP.o.st.env.errs);clear he hcd;go_wp2_with (first
      | (go_at_call 13;(with_reducible refine HBA.o.mono ?_);rintro ev w2 ⟨rfl,hb2⟩;have HB2:=Hh hb2;have HEA:=Hh (qK8 (HT.o.later (HMD.o.1.trans (hb2.mono HMD.o.1.size)) cd HC.o (HFW.o cd rfl)));clear hb2)
      | (go_at_call 383;(with_reducible refine HEA.o.mono ?_);rintro ev wz ⟨rfl,hwz⟩;have hwz:=hwz.symm;subst hwz))
     go_meet
     case rel=>exact⟨rfl,HB2⟩
   case rest =>
    obtain⟨rfl,HBX⟩:=hcut;clear HM HFW HPY;generalize hy:nL T res=y at *;have HY:=Hh hy;have HO4:=Hh ((Ext.of_below HBX.o c1 S0).row HMD.o.2.2.1 (fun k hk=>(HMD.o.2.2.2 k hk).1) rfl).1;have HO5:=Hh (HO4.o.alloc (.cells #[.string ⟨y.toArray⟩] 9));have HB5:=Hh (HBX.o.alloc HBX.o.size (.cells #[.string ⟨y.toArray⟩] 9));have HLC:=Hh (show ∀ ad,(some ⟨wc.heap.size,0,none⟩:Option Addr)=some ad→∀ (q:Nat) u,[Value.string ⟨y.toArray⟩][q]?=some u→(wc.alloc (.cells #[.string ⟨y.toArray⟩] 9)).cell? (ad.add q)=some u from jD _ _ _);have HSZ:=Hh (zq HMD.o.1.size HB5.o.size);clear hy;go_wp2_with (at_builtin;refine Stl.wpList_app _ rfl _ _ 22 rfl w.heap.size 9 i0 (.string ByteArray.empty) 1 16 Tryz.underlying22 Hi.o Hz0.o Hz1.o Hz2.o rfl (by decide) (.slice A7 j c7) j _ rfl HO5.o (some ⟨wc.heap.size,0,none⟩) 1 1 [.string ⟨y.toArray⟩] rfl rfl (fun h=>by cases h) HLC.o (by simp[Value.oneCell']) (by unfold maxLen;omega) (by omega) HSZ.o ?_;intro A8 c8 w7 hown7 hgr7 hat7;have HO7:=Hh hown7;have HG7:=Hh hgr7;have HA7:=Hh hat7;clear hown7 hgr7 hat7);obtain⟨c2,h2⟩:=HR.o.next HX.o (by omega) HLE.o HQ.o HF.o HP.o HB5.o HG7.o (by rw[HY.o];exact HO7.o) HA7.o;have H2:=Hh h2;clear h2;go_roundw
    case rel=>exact⟨j+1,A8,c8,b',c2,s1,t1,rfl,by go_num,by omega,H2⟩
    case measure=>simp[intOf];omega
  ·have i2:¬ (j:Int)<(l.length:Int):=by omega
   obtain rfl:j=l.length:=by omega
   go_wp2;go_ret2;have hrow:=HR.o.row;rw[zk] at hrow;exact⟨_,_,rfl,HR.o.base,hrow⟩
end
end Go.Proofs.YtbmkaekimccdgaaGreatDoor
namespace Go.Proofs.YtbmkaekimccdgaaGreatDoor
open Go.ChangeShapes Go.ChangeMaps Go.WideShapes Go.ChangeAt Go.RowKit
namespace Anew
theorem qOu:Tryz.prog.cellsOf 378=1:=by kernel_rfl
theorem star: "*"++ "errors.errorString"= "*errors.errorString":=by decide
theorem rowE (u:TypeId)(h:Tryz.prog.typeName? 3 u=some "*errors.errorString"):u=376 :=
 typeName_ptr_named (nm:= "errors.errorString") (by rw[star];kernel_rfl) (by kernel_rfl) (by decide) u (by rw[star];exact h)
theorem qFn {W:World}{n:String}{g:Nat}{p:Addr}(hg:Tryz.prog.globalNamed n=some g)(h:W.var? Tryz.prog n=some #[.iface 376 (.pointer (some p))]):errAt W g p:=by
 have hc:=World.var?_cell hg h 0;refine⟨by simpa using hc,?_⟩
 rcases zu g W.heap.size with h' | h'
 ·exact h'
 ·simp[World.cell?,Array.getElem?_eq_none h'] at hc
def qHx (x:String×Nat×List UInt8):String×DataW Unit:=(x.1,.iface "*errors.errorString" (.ptr (.agg [.lit (.string x.2.2)])))
theorem qFL {W:World}:∀ (l:List (String×Nat×List UInt8)) (r:List (String×DataW Unit)) (ps:List MemPlace),DataW.LaidVars Tryz.prog W (l.map qHx++r) ps→ps.Nodup →
  (∀ b off,MemPlace.cell b off∈ps→(∃ c t,W.heap[b]?=some (.cells c t (0,0)))∧∀ u v,W.cell? ⟨b,off,none⟩=some (.iface u v)→Value.okWide Tryz.prog W .any 0 u v) →
  (∀ x∈l,Tryz.prog.globalNamed x.1=some x.2.1∧(Tryz.prog.globals[x.2.1]?).map (·.type)=some 27) →
  ∃ qs:List Addr,qs.length=l.length∧(∀ (j:Nat) x a,l[j]?=some x→qs[j]?=some a→errAt W x.2.1 a∧W.cell? a=some (.string ⟨x.2.2.toArray⟩))∧(∀ a∈qs,MemPlace.cell a.block a.off∈ps)∧(∀ a∈qs,∃ cs ts,W.heap[a.block]?=some (.cells cs ts (0,0)))∧qs.Pairwise (·≠·)
 | [],_,_,_,_,_,_=>⟨[],rfl,by simp,by simp,by simp,List.Pairwise.nil⟩
 | x::l,r,ps,h,hnd,hrows,hgs=>by
  obtain⟨g0,t0,cs0,f0,p0,q0,hg0,ht0,hv0,hd0,hq,e0⟩:=h;obtain⟨hg,ht⟩:=hgs x (List.mem_cons_self ..);obtain rfl:=Option.some.inj (hg.symm.trans hg0);obtain rfl:=Option.some.inj (ht.symm.trans ht0);subst e0;obtain⟨qs,h1,h2,h3,h4,h5⟩:=qFL l r q0 hq (List.Nodup.sublist (List.sublist_append_right _ _) hnd) (fun b off hm=>hrows b off (List.mem_append_right _ hm)) (fun y hy=>hgs y (List.mem_cons_of_mem _ hy));obtain⟨l0⟩:=cs0;have ok0:∀ u v,l0=[.iface u v]→Value.okWide Tryz.prog W .any 0 u v:=fun u v e=>by
   subst e;exact(hrows x.2.1 0 (by simp[MemPlace.row])).2 u v (by simpa using World.var?_cell hg0 hv0 0)
  obtain⟨a0,s0,rfl,hc0,hs0,hz0,rfl⟩:=errorString_of_trod Tryz.underlying27 rowE Tryz.underlying376 Tryz.underlying378 rfl rfl Tryz.underlying9 qOu qHE hd0 ok0;have hb0:=(hrows a0.block a0.off (by simp[MemPlace.row])).1;refine⟨a0::qs,by simp[h1],?_,?_,?_,?_⟩
  ·intro j y a hj ha
   cases j with
   | zero =>
    simp only[List.getElem?_cons_zero,zB1] at hj ha;subst hj ha;exact⟨qFn hg0 hv0,hc0.trans (by rw[← hs0])⟩
   | succ j=>exact h2 j y a (by simpa using hj) (by simpa using ha)
  ·intro a ha
   rcases zY.1 ha with rfl | ha
   ·exact List.mem_append_left _ (List.mem_append_right _ (by simp[MemPlace.row]))
   ·exact List.mem_append_right _ (h3 a ha)
  ·intro a ha
   rcases zY.1 ha with rfl | ha
   ·exact hb0
   ·exact h4 a ha
  ·refine zi.2 ⟨fun a ha e=>?_,h5⟩;subst e;have:=(List.nodup_append.1 hnd).2.2 (MemPlace.cell a0.block a0.off) (List.mem_append_right _ (by simp[MemPlace.row])) _ (h3 _ ha);exact this rfl
def uH:List (String×Nat×List UInt8):=[
 ("stillroom/api.ErrText",1,[115,116,105,108,108,114,111,111,109,58,32,116,101,120,116]),
 ("stillroom/api.ErrBound",0,[115,116,105,108,108,114,111,111,109,58,32,98,111,117,110,100]),
 ("stillroom/api.ErrShape",2,[115,116,105,108,108,114,111,111,109,58,32,115,104,97,112,101]),
 ("stillroom/api.ErrKind",3,[115,116,105,108,108,114,111,111,109,58,32,107,105,110,100]),
 ("stillroom/api.ErrName",4,[115,116,105,108,108,114,111,111,109,58,32,110,97,109,101]),
 ("stillroom/api.ErrNone",5,[115,116,105,108,108,114,111,111,109,58,32,110,111,110,101]),
 ("stillroom/api.ErrExist",6,[115,116,105,108,108,114,111,111,109,58,32,101,120,105,115,116]),
 ("stillroom/api.ErrFull",7,[115,116,105,108,108,114,111,111,109,58,32,102,117,108,108]),
 ("stillroom/api.ErrDeep",8,[115,116,105,108,108,114,111,111,109,58,32,100,101,101,112]),
 ("stillroom/api.ErrOrder",9,[115,116,105,108,108,114,111,111,109,58,32,111,114,100,101,114]),
 ("stillroom/api.ErrSum",10,[115,116,105,108,108,114,111,111,109,58,32,115,117,109]),
 ("stillroom/api.ErrOff",12,[115,116,105,108,108,114,111,111,109,58,32,111,102,102]),
 ("strconv.ErrRange",18,[118,97,108,117,101,32,111,117,116,32,111,102,32,114,97,110,103,101]),
 ("strconv.ErrSyntax",17,[105,110,118,97,108,105,100,32,115,121,110,116,97,120])]
theorem qFC:∀ x∈uH,Tryz.prog.globalNamed x.1=some x.2.1∧(Tryz.prog.globals[x.2.1]?).map (·.type)=some 27:=by
 have h:(uH.all fun x=>Tryz.prog.globalNamed x.1==some x.2.1&&((Tryz.prog.globals[x.2.1]?).map (·.type)==some 27))=true:=by kernel_rfl
 intro x hx;have:=List.all_eq_true.1 h x hx;simpa using this
def ix (c:Nat):Nat:=if c≤11 then c-1 else 11
theorem nG:∀ c,c<14→1≤c→(uH[ix c]?).map (·.2.1)=some (wA c):=by decide
theorem qKS:Rows.scriptAnewRow.laid.filter (fun x=>x.2.handleName?.isNone)=("math/bits.deBruijn32tab",Rows.laid_math_bits_deBruijn32tab)::("math/bits.deBruijn64tab",Rows.laid_math_bits_deBruijn64tab)::("internal/strconv.uint64pow10",Rows.laid_internal_strconv_uint64pow10)::("unicode/utf8.acceptRanges",Rows.laid_unicode_utf8_acceptRanges)::(uH.map qHx++[("unicode/utf8.first",Rows.laid_unicode_utf8_first)]):=by kernel_rfl
theorem qGz:Rows.scriptAnewRow.laid.filter (fun x=>x.2.handleName?.isSome)=[("errors.errorType",Rows.laid_errors_errorType)]:=by kernel_rfl
theorem et:Tryz.prog.globalNamed "errors.errorType"=some 13:=by kernel_rfl
theorem rt:(Tryz.prog.cutTypes.find? (·.1== "internal/reflectlite.rtype")).map (·.2)=some 161:=by kernel_rfl
theorem size:Tryz.prog.types.size=443:=by kernel_rfl
theorem qOg:((List.range 443).filter fun t=>Tryz.prog.rowNamed t [101,114,114,111,114])=[27]:=by kernel_rfl
theorem qDk {W:World}(h:handlesMet Tryz.prog [("errors.errorType",Rows.laid_errors_errorType)] W):W.cell? ⟨13,0,none⟩=some (.iface 161 (.agg #[.pointer (some ⟨27,27,none⟩)])):=by
 obtain⟨name,u,ty,e1,e2,e3,e4,e5⟩:=h _ (zg.2 rfl);have en:name=[101,114,114,111,114]:=(Option.some.inj e1).symm;subst en;obtain rfl:=Option.some.inj (rt.symm.trans e2);have hm:ty∈(List.range 443).filter fun t=>Tryz.prog.rowNamed t [101,114,114,111,114]:=zZ.2 ⟨List.mem_range.2 (by rw[← size];exact e3),e4⟩
 rw[qOg] at hm;obtain rfl:=zg.1 hm;have hh:typeHandle Tryz.prog 27=.pointer (some ⟨27,27,none⟩):=by kernel_rfl
 rw[hh] at e5;simpa using World.var?_cell et e5 0
theorem errs {W:World}(hL:laidMetH Tryz.prog Rows.scriptAnewRow.laid W)(hS:W.ShapedOpen Tryz.prog):∃ p T,Errs W p∧LibVars W∧TextsAt W p T:=by
 obtain⟨hd,hh⟩:=laidMetH_iff.1 hL;rw[qKS] at hd;rw[qGz] at hh;have hpow:=laidMet.tail (laidMet.tail hd);obtain⟨ps,hv,hnd,hrows⟩:=laidMet.tail (laidMet.tail (laidMet.tail (laidMet.tail hd)));obtain⟨qs,h1,h2,_,h4,h5⟩:=qFL uH _ ps hv hnd hrows qFC;have hc:=qDk hh;have hlen:qs.length=14:=h1;have hixl:∀ c,1≤c→c≤13→ix c<14:=fun c _ _=>by unfold ix;split<;>omega
 have hget:∀ j,j<14→qs[j]?=some (qs.getD j default):=fun j hj=>by
  simp[List.getD,zL (show j<qs.length by omega)]
 refine⟨fun c=>qs.getD (ix c) default,fun c=>((uH[ix c]?).map (·.2.2)).getD [],⟨fun c h1' h2'=>?_,fun c h1' h2'=>h4 _ (List.mem_of_getElem? (hget _ (hixl c h1' h2'))),fun c d c1 cd d1 e=>?_,hc,?_⟩,⟨?_,?_,?_,?_⟩,?_⟩
 ·obtain⟨x,hx,hg⟩:=Option.map_eq_some_iff.1 (nG c (by omega) h1');rw[← hg];exact(h2 (ix c) x _ hx (hget _ (hixl c h1' h2'))).1
 ·have hne:ix c≠ix d:=fun e2=>by
   have a1:=nG c (by omega) c1;have a2:=nG d (by omega) (by omega);rw[e2,a2] at a1;exact e (Option.some.inj a1).symm
  have l1:ix c<qs.length:=by have:=hixl c c1 (by omega);omega
  have l2:ix d<qs.length:=by have:=hixl d (by omega) d1;omega
  have g1:=hget _ (hixl c c1 (by omega));have g2:=hget _ (hixl d (by omega) d1);rw[zL l1] at g1;rw[zL l2] at g2
  rcases Nat.lt_or_gt_of_ne hne with h | h
  ·have h6:=List.pairwise_iff_getElem.1 h5 _ _ l1 l2 h;rw[Option.some.inj g1,Option.some.inj g2] at h6;exact h6
  ·have h6:=List.pairwise_iff_getElem.1 h5 _ _ l2 l1 h;rw[Option.some.inj g1,Option.some.inj g2] at h6;exact fun e3=>h6 e3.symm
 ·rcases zu 13 W.heap.size with h' | h'
  ·exact h'
  ·simp[World.cell?,Array.getElem?_eq_none h'] at hc
 ·exact Go.Proofs.cell_of_shapedOpen_int (zero:=#[.int .i64 0]) (t:=3) hS (of_decide_eq_true (by kernel_rfl)) (by kernel_rfl) rfl (by kernel_rfl) (by kernel_rfl) Tryz.underlying3
 ·exact⟨_,(h2 13 _ _ rfl (hget 13 (by omega))).1.1,.inr ⟨_,_,rfl⟩⟩
 ·exact⟨_,(h2 12 _ _ rfl (hget 12 (by omega))).1.1,.inr ⟨_,_,rfl⟩⟩
 ·exact Lib.tabIs_of_head (g:=19) (t:=353) (e:=178) (n:=20) (by kernel_rfl) (by kernel_rfl) Tryz.underlying353 Tryz.underlying178 (by kernel_rfl) (by kernel_rfl) hpow
 ·intro cd h0 h13;obtain⟨x,hx,_⟩:=Option.map_eq_some_iff.1 (nG cd (by omega) (by omega));show W.cell? (qs.getD (ix cd) default)=some (.string ⟨(((uH[ix cd]?).map (·.2.2)).getD []).toArray⟩);rw[hx];exact(h2 (ix cd) x _ hx (hget _ (hixl cd (by omega) h13))).2
end Anew
end Go.Proofs.YtbmkaekimccdgaaGreatDoor
namespace Go.Proofs.YtbmkaekimccdgaaGreatDoor
open Go.RowKit Go.Maps Go.Sort Go.Shelf
theorem qBc (v v2:Value)(l m:List (List UInt8))(hl:l.length≤1000000)(hm:m.length≤1000000)(w:World)(hs:Strs w v l)(hs2:Strs w v2 m) :
  Calls Tryz.prog 10 #[v,v2] w fun e w'=>e=.returned (.bool (decide (l=m)))∧Below w.heap.size w w':=by
 obtain⟨A,c,rfl,h1⟩:=id hs;obtain⟨A2,c2,rfl,h2⟩:=id hs2;clear h1 h2;go_enter Tryz.func10,Tryz.ntmps10;generalize hr:decide (l=m)=r;have HE:=Hh hr;clear hr;have HS:=Hh hs;have HS2:=Hh hs2;clear hs hs2;by_cases hlm:l.length=m.length
 ·have hlm2:(l.length:Int)=(m.length:Int):=by omega
  go_wp2_with fail
  go_loopw [5] (fun a wr=>Below w.heap.size w wr∧∃ k:Nat,k≤l.length∧a=.int .i64 k∧Hg (l.take k=m.take k)) (fun a _=>l.length-(intOf a).toNat)
  case atStart=>exact⟨zB _ _,0,zw _,rfl,Hh rfl⟩
  case round =>
   obtain⟨hbl,k,hk,rfl,HP⟩:=hrel;have HB:=Hh hbl;by_cases hkl:k<l.length
   ·have hkm:k<m.length:=by omega
    obtain⟨b,off,rfl,hb,hc⟩:=(HS.o.later hbl).cellAt hkl;obtain⟨b2,off2,rfl,hb2,hc2⟩:=(HS2.o.later hbl).cellAt hkm;clear hbl;have i1:(k:Int)<(l.length:Int):=by omega
    have i2:(0:Int)≤(k:Int):=by omega
    have i3:(k:Int)<(m.length:Int):=by omega
    by_cases hx:l[k]=m[k]
    ·rw[hx] at hc;have HX:=Hh hx;clear hx;go_wp2_with fail;go_quiet (fail);go_wp2;go_roundw
     case rel =>
      refine⟨Below.drewN HB.o _,k+1,hkl,rfl,Hh ?_⟩;rw[zn hkl,zn hkm,HP.o,HX.o]
     case measure=>simp[intOf];omega
    ·have HX:=Hh hx;have hne:(l[k]==m[k])=false:=by rw[zG1];exact hx
     clear hx;go_wp2;go_quiet (fail);go_wp2;go_ret;refine⟨?_,Below.drewN HB.o _⟩;have:l≠m:=fun e=>HX.o (by subst e;rfl)
     rw[← HE.o];simp[this]
   ·have i1:¬ (k:Int)<(l.length:Int):=by omega
    go_wp2;go_ret;refine⟨?_,HB.o⟩;have hk2:k=l.length:=by omega
    have:=HP.o;rw[hk2,zk,hlm,zk] at this;rw[← HE.o];simp[this]
 ·have hlm2:¬ (l.length:Int)=(m.length:Int):=by omega
  go_wp2;go_ret;refine⟨?_,zB _ _⟩;have:l≠m:=fun e=>hlm (by rw[e])
  rw[← HE.o];simp[this]
end Go.Proofs.YtbmkaekimccdgaaGreatDoor
namespace Go.Proofs.YtbmkaekimccdgaaGreatDoor
open Go.RowKit Go.Sort Go.Shelf Stl
theorem qKD (w:World)(p:Nat→Addr)(T:Nat→List UInt8)(hE:Env w (fun _=>.ro) p)(hT:TextsAt w p T) :
  Calls Tryz.prog 5 #[] w fun e w'=>e=.returned (.bool true)∧Below w.heap.size w w':=by
 have hb1:Below w.heap.size w (w.alloc (.cells #[.string ⟨#[97,100,100,32,97,32,100,49,58,49,58,120,102,50,58,104,105]⟩,.string ⟨#[102,105,108,101,115,32,97]⟩,.string ⟨#[115,105,122,101,32,97]⟩,.string ⟨#[114,111,111,116,32,97]⟩,.string ⟨#[103,99]⟩,.string ⟨#[108,105,115,116]⟩] 9)):=(zB _ _).alloc (zo _) _;have h1:=World.ownsRow_lit (e:=9) (size:=1) (base:=w.heap.size) w #[.string ⟨#[97,100,100,32,97,32,100,49,58,49,58,120,102,50,58,104,105]⟩,.string ⟨#[102,105,108,101,115,32,97]⟩,.string ⟨#[115,105,122,101,32,97]⟩,.string ⟨#[114,111,111,116,32,97]⟩,.string ⟨#[103,99]⟩,.string ⟨#[108,105,115,116]⟩] 6 (zo _) (by unfold maxLen;omega) (by simp);have HB1:=Hh hb1;have HRN:=Hh (show Calls Tryz.prog 8 #[.slice (some ⟨w.heap.size,0,none⟩) 6 6] (w.alloc (.cells #[.string ⟨#[97,100,100,32,97,32,100,49,58,49,58,120,102,50,58,104,105]⟩,.string ⟨#[102,105,108,101,115,32,97]⟩,.string ⟨#[115,105,122,101,32,97]⟩,.string ⟨#[114,111,111,116,32,97]⟩,.string ⟨#[103,99]⟩,.string ⟨#[108,105,115,116]⟩] 9)) (qKe (w.alloc (.cells #[.string ⟨#[97,100,100,32,97,32,100,49,58,49,58,120,102,50,58,104,105]⟩,.string ⟨#[102,105,108,101,115,32,97]⟩,.string ⟨#[115,105,122,101,32,97]⟩,.string ⟨#[114,111,111,116,32,97]⟩,.string ⟨#[103,99]⟩,.string ⟨#[108,105,115,116]⟩] 9)) T uF) from
  qGj (l:=uF) _ (hE.below hb1) (hT.later hb1) (by decide) (by decide) _ _ (jS (l:=uF) h1))
 clear hE hT hb1 h1;go_enter Tryz.func5,Tryz.ntmps5;go_upto_region 2 with (go_at_call 8;refine HRN.o.mono ?_;rintro ev w2 ⟨A2,c2,rfl,hb2,hr2⟩;rw[show qY T dU mM uF=uL from qJ0 T] at hr2;have HB2:=Hh (HB1.o.trans (hb2.mono HB1.o.size));have HR2:=Hh (jS (l:=uL) hr2);clear hb2 hr2);have hb3:Below w2.heap.size w2 (w2.alloc (.cells #[.string ⟨#[111,107]⟩,.string ⟨#[47,120]⟩,.string ⟨#[50,32,50]⟩,.string ⟨#[111,107]⟩,.string ⟨#[48]⟩,.string ⟨#[97]⟩] 9)):=(zB _ _).alloc (zo _) _;have HB3:=Hh (HB2.o.trans (hb3.mono HB2.o.size));have HST:=Hh (show Calls Tryz.prog 10 #[.slice A2 uF.length c2,.slice (some ⟨w2.heap.size,0,none⟩) 6 6] (w2.alloc (.cells #[.string ⟨#[111,107]⟩,.string ⟨#[47,120]⟩,.string ⟨#[50,32,50]⟩,.string ⟨#[111,107]⟩,.string ⟨#[48]⟩,.string ⟨#[97]⟩] 9)) (fun e w'=>e=.returned (.bool true)∧Below (w2.alloc (.cells #[.string ⟨#[111,107]⟩,.string ⟨#[47,120]⟩,.string ⟨#[50,32,50]⟩,.string ⟨#[111,107]⟩,.string ⟨#[48]⟩,.string ⟨#[97]⟩] 9)).heap.size (w2.alloc (.cells #[.string ⟨#[111,107]⟩,.string ⟨#[47,120]⟩,.string ⟨#[50,32,50]⟩,.string ⟨#[111,107]⟩,.string ⟨#[48]⟩,.string ⟨#[97]⟩] 9)) w') from
  (qBc _ _ uL uL (by decide) (by decide) _ (HR2.o.later hb3) (jS (l:=uL) (World.ownsRow_lit (e:=9) (size:=1) (base:=w2.heap.size) w2 #[.string ⟨#[111,107]⟩,.string ⟨#[47,120]⟩,.string ⟨#[50,32,50]⟩,.string ⟨#[111,107]⟩,.string ⟨#[48]⟩,.string ⟨#[97]⟩] 6 (zo _) (by unfold maxLen;omega) (by simp)))).mono fun ev w' h=>⟨h.1.trans (by rw[decide_eq_true rfl]),h.2⟩)
 clear hb3;go_wp2_with (go_at_call 10;refine HST.o.mono ?_;rintro ev w4 ⟨rfl,hb4⟩;have HB4:=Hh (HB3.o.trans (hb4.mono HB3.o.size));clear hb4);go_ret;exact⟨rfl,HB4.o⟩
def qHw (l:List (List UInt8))(m:Nat):Bool:=decide (m<l.length)||l.any fun x=>decide (250<x.length)
def oH (l:List (List UInt8))(m:Nat):Int:=if qHw l m then 1 else 0
theorem qEB (v:Value)(l:List (List UInt8))(m:Nat)(hm:m≤1000000)(hl:l.length≤9223372036854775806)(w:World)(hs:Strs w v l) :
  Calls Tryz.prog 6 #[v,.int .i64 m] w fun e w'=>e=.returned (.int .i64 (oH l m))∧w'=w:=by
 obtain⟨A,c,rfl,h1⟩:=id hs;clear h1;go_enter Tryz.func6,Tryz.ntmps6;have HS:=Hh hs;clear hs;have HE:Hg (oH l m=if (decide (m<l.length)||l.any fun x=>decide (250<x.length))=true then 1 else 0):=Hh rfl;generalize oH l m=r at HE;by_cases hb:m<l.length
 ·have i0:(m:Int)<(l.length:Int):=by omega
  have HF:=Hh (show r=1 by rw[HE.o];exact zM1 (by simp[hb]));go_wp2;go_ret;exact⟨by first | rfl | (rw[HF.o];rfl),rfl⟩
 have i0:(l.length:Int)≤(m:Int):=by omega
 go_wp2_with fail
 go_loopw [5] (fun a wr=>wr=w∧∃ k:Nat,k≤l.length∧a=.int .i64 k∧Hg ((l.take k).any (fun x=>decide (250<x.length))=false)) (fun a _=>l.length-(intOf a).toNat)
 case atStart=>exact⟨rfl,0,zw _,rfl,Hh rfl⟩
 case round =>
  obtain⟨rfl,k,hk,rfl,HP⟩:=hrel;by_cases hkl:k<l.length
  ·obtain⟨b,off,rfl,hb,hc⟩:=HS.o.cellAt hkl;have i1:(k:Int)<(l.length:Int):=by omega
   have i2:(0:Int)≤(k:Int):=by omega
   by_cases hx:250<(l[k]).length
   ·have HF:=Hh (show r=1 by
     rw[HE.o]
     refine zM1 ?_
     rw[Bool.or_eq_true]
     exact .inr (List.any_eq_true.2 ⟨l[k],zO _,by simpa using hx⟩))
    have i3:(250:Int)<((l[k]).length:Int):=by omega
    clear hx;go_wp2;go_ret;exact⟨by first | rfl | (rw[HF.o];rfl),rfl⟩
   ·have HX:=Hh hx;have i3:((l[k]).length:Int)≤250:=by omega
    clear hx;go_wp2;go_roundw
    case rel =>
     refine⟨trivial,k+1,hkl,rfl,Hh ?_⟩;rw[zn hkl,List.any_append,HP.o];simpa using HX.o
    case measure=>simp[intOf];omega
  ·have i1:¬ (k:Int)<(l.length:Int):=by omega
   have HF:=Hh (show r=0 by
    have h:=HP.o
    rw[zm (by omega)] at h
    rw[HE.o,h]
    simp[hb])
   go_wp2;go_ret;exact⟨by first | rfl | (rw[HF.o];rfl),rfl⟩
def qPm (s:List UInt8)(by_:UInt8)(w:World)(e:Ending)(w':World):Prop :=
 ∃ (A:Option Addr) (cp:Nat) (l:List (List UInt8)),e=.returned (.slice A l.length cp)∧1≤l.length∧l.length≤s.length+1∧l[0]?=some (s.takeWhile fun c=>c != by_)∧w'.ownsRow w.heap.size 9 1 (.slice A l.length cp) l.length (l.map encStr)∧Below w.heap.size w w'
structure qPo (w wr:World)(s:List UInt8)(by_:UInt8)(i from_:Nat)(v:Value)(acc:List (List UInt8)):Prop where
 below:Below w.heap.size w wr
 row:wr.ownsRow w.heap.size 9 1 v acc.length (acc.map encStr)
 few:acc.length≤i
 low:from_≤i
 first:(acc=[]∧from_=0∧∀ c∈s.take i,(c != by_)=true)∨acc[0]?=some (s.takeWhile fun c=>c != by_)
theorem qO4 {p:UInt8→Bool}:∀ {l:List UInt8},(∀ c∈l,p c=true)→l.takeWhile p=l
 | [],_=>rfl
 | x::r,h=>by
  rw[List.takeWhile_cons,zM1 (h x List.mem_cons_self),qO4 (fun c hc=>h c (List.mem_cons_of_mem _ hc))]
theorem qPa {p:UInt8→Bool}{l:List UInt8}{i:Nat}(hi:i<l.length)(h:∀ c∈l.take i,p c=true)(hn:p l[i]=false):l.takeWhile p=l.take i:=by
 conv=>lhs;rw[← List.take_append_drop i l]
 rw[List.takeWhile_append_of_pos h,zF hi,List.takeWhile_cons,zL1 (by rw[hn];decide),List.append_nil]
theorem qPg (s:List UInt8)(by_:UInt8)(hl:s.length≤1000000)(w:World) :
  Calls Tryz.prog 7 #[.string ⟨s.toArray⟩,.int .u8 by_.toNat] w (qPm s by_ w):=by
 obtain⟨i0,hi,hz0,hz1,hz2⟩:=pO;have Hi:=Hh hi;have Hz0:=Hh hz0;have Hz1:=Hh hz1;have Hz2:=Hh hz2;clear hi hz0 hz1 hz2;go_enter Tryz.func7,Tryz.ntmps7;go_upto_region 4 with fail
 go_loopw [5,6,7] (fun v f a wr=>∃ (i from_:Nat) (acc:List (List UInt8)),a=.int .i64 i∧f=.int .i64 from_∧i≤s.length∧Hg (qPo w wr s by_ i from_ v acc)) (fun _ _ a _=>s.length-(intOf a).toNat)
 case atStart=>exact⟨0,0,[],rfl,rfl,zw _,Hh ⟨zB _ _,zF1 _ _ _ _,zo _,zo _,.inl ⟨rfl,rfl,by simp⟩⟩⟩
 case round =>
  obtain⟨i,from_,acc,rfl,rfl,hi,HS⟩:=hrel;have hlow:=HS.o.low;have hfew:=HS.o.few;by_cases hil:i<s.length
  ·have i1:(i:Int)<(s.length:Int):=by omega
   have i2:(0:Int)≤(i:Int):=by omega
   have HSE:=Hh (show s.take (i+1)=s.take i++[s[i]] from zn hil)
   cases hc:s[i]==by_ with
   | false =>
    have hb:¬ (((⟨s.toArray⟩:ByteArray)[i]'hil).toNat:Int)=(by_.toNat:Int):=by
     intro e;have e:(s[i].toNat:Int)=(by_.toNat:Int):=e;have:s[i]=by_:=UInt8.toNat_inj.1 (by omega);rw[this] at hc;simp at hc
    have HN:=Hh (show qPo w wr s by_ (i+1) from_ u5 acc from ⟨HS.o.below,HS.o.row,by omega,by omega,by
     rcases HS.o.first with ⟨h1,h2,h3⟩ | h1
     ·refine .inl ⟨h1,h2,fun c hcm=>?_⟩
      rw[HSE.o] at hcm
      rcases zX.1 hcm with h | h
      ·exact h3 c h
      ·rw[zg.1 h];simp[bne,hc]
     ·exact .inr h1⟩)
    clear hc;go_wp2;go_roundw
    case rel=>exact⟨i+1,from_,acc,by go_num,rfl,hil,HN⟩
    case measure=>simp[intOf];omega
   | true =>
    have hb:(((⟨s.toArray⟩:ByteArray)[i]'hil).toNat:Int)=(by_.toNat:Int):=by show (s[i].toNat:Int)=_;rw[eq_of_beq hc]
    have HFS:=Hh (show acc=[]→from_=0∧(s.take i).drop from_=s.takeWhile (fun c=>c != by_) from fun ha=>by
     rcases HS.o.first with ⟨_,h2,h3⟩ | h1
     ·rw[h2,List.drop_zero,qPa hil h3 (by simp[bne,hc])]
      exact⟨rfl,rfl⟩
     ·rw[ha] at h1;simp at h1)
    clear hc;have i3:(0:Int)≤(from_:Int):=by omega
    have i4:(from_:Int)≤(i:Int):=by omega
    have i5:(i:Int)≤(s.length:Int):=by omega
    go_upto_region 7 with fail;have HO2:=Hh (HS.o.row.alloc (.cells #[.string ((⟨s.toArray⟩:ByteArray).extract from_ i)] 9));have HB2:=Hh (HS.o.below.alloc HS.o.below.size (.cells #[.string ((⟨s.toArray⟩:ByteArray).extract from_ i)] 9));go_wp2_with (at_builtin;refine Stl.wpList_app _ rfl _ _ 22 rfl w.heap.size 9 i0 (.string ByteArray.empty) 1 16 Tryz.underlying22 Hi.o Hz0.o Hz1.o Hz2.o rfl (by decide) u5 acc.length _ rfl HO2.o (some ⟨wr.heap.size,0,none⟩) 1 1 [.string ((⟨s.toArray⟩:ByteArray).extract from_ i)] rfl rfl (fun h=>by cases h) (jD _ _ _) (by simp[Value.oneCell']) (by unfold maxLen;omega) (by omega) (zq HS.o.below.size (by simp)) ?_;intro A7 c7 w7 hown7 hgr7 hat7;have HO3:=Hh hown7;have HB3:=Hh (HB2.o.grown hgr7 HB2.o.size (fun k hk=>(HO2.o.lt k hk).1));clear hown7 hgr7 hat7);have HN:=Hh (show qPo w w7 s by_ (i+1) (i+1) (.slice A7 (acc.length+1) c7) (acc++[(s.take i).drop from_]) from ⟨HB3.o,by have:=HO3.o;rw[qEH] at this;simpa[encStr] using this,by simp;omega,zo _,.inr (by
     cases acc with
     | nil=>simpa using (HFS.o rfl).2
     | cons x r =>
      rcases HS.o.first with ⟨h1,_⟩ | h1
      ·cases h1
      ·simpa using h1)⟩)
    go_roundw
    case rel=>exact⟨i+1,i+1,_,by go_num,by go_num,hil,HN⟩
    case measure=>simp[intOf];omega
  ·have i1:¬ (i:Int)<(s.length:Int):=by omega
   have i3:(0:Int)≤(from_:Int):=by omega
   have i4:(from_:Int)≤(s.length:Int):=by omega
   obtain rfl:i=s.length:=by omega
   have HFS:=Hh (show acc=[]→s.drop from_=s.takeWhile (fun c=>c != by_) from fun ha=>by
    rcases HS.o.first with ⟨_,h2,h3⟩ | h1
    ·rw[zk] at h3
     rw[h2,List.drop_zero,qO4 h3]
    ·rw[ha] at h1;simp at h1)
   have HO2:=Hh (HS.o.row.alloc (.cells #[.string ((⟨s.toArray⟩:ByteArray).extract from_ s.length)] 9));have HB2:=Hh (HS.o.below.alloc HS.o.below.size (.cells #[.string ((⟨s.toArray⟩:ByteArray).extract from_ s.length)] 9));go_wp2_with (at_builtin;refine Stl.wpList_app _ rfl _ _ 22 rfl w.heap.size 9 i0 (.string ByteArray.empty) 1 16 Tryz.underlying22 Hi.o Hz0.o Hz1.o Hz2.o rfl (by decide) u5 acc.length _ rfl HO2.o (some ⟨wr.heap.size,0,none⟩) 1 1 [.string ((⟨s.toArray⟩:ByteArray).extract from_ s.length)] rfl rfl (fun h=>by cases h) (jD _ _ _) (by simp[Value.oneCell']) (by unfold maxLen;omega) (by omega) (zq HS.o.below.size (by simp)) ?_;intro A7 c7 w7 hown7 hgr7 hat7;have HO3:=Hh hown7;have HB3:=Hh (HB2.o.grown hgr7 HB2.o.size (fun k hk=>(HO2.o.lt k hk).1));clear hown7 hgr7 hat7);go_ret;refine⟨A7,c7,acc++[s.drop from_],by simp,by simp,by simp;omega,?_,?_,HB3.o⟩
   ·cases acc with
    | nil=>simpa using HFS.o rfl
    | cons x r =>
     rcases HS.o.first with ⟨h1,_⟩ | h1
     ·cases h1
     ·simpa using h1
   ·have:=HO3.o;rw[extract_drop] at this;simpa[encStr] using this
end Go.Proofs.YtbmkaekimccdgaaGreatDoor
