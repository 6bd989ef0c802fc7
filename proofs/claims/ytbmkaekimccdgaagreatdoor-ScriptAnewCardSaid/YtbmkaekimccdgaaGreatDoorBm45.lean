/- Lemmas. -/
import Derived.Test.YtbmkaekimccdgaaGreatDoorBm44
set_option maxHeartbeats 16000000
set_option maxRecDepth 1000000
set_option linter.all false
namespace Go.Proofs.YtbmkaekimccdgaaGreatDoor
open Go.RowKit Go.Sort Go.Shelf Stl
theorem nU {k d:List UInt8}{e:Bool}{ks:List (List UInt8×Nd)}(h:Well (.mk k d e ks)):∀ q∈ks,Well q.2∧q.1.length≤12:=fun q hq =>
 ⟨h.kid hq,vT (((vS k d e _).1 h.own).2.2.2.2.2.2.1 q.1 (zb.2 ⟨q,hq,rfl⟩))⟩
mutual
theorem qJG:∀ n:Nd,Stl.wt n=kM n
 | .mk k d e ks=>by rw[Stl.wt,kM,qJ1 ks]
theorem qJ1:∀ l:List (List UInt8×Nd),Stl.wtL l=vO l
 | []=>rfl
 | (nm,x)::r=>by rw[Stl.wtL,vO,qJG x,qJ1 r]
end
theorem qE5 (w0:World)(b:Nat):∀ (N:Nat) (x:Nd),Stl.wt x≤N→NdAt w0 b x
 | 0,x,h=>by obtain⟨k,d,e,ks⟩:=x;simp[Stl.wt] at h
 | N+1,.mk k d e ks,hN=>by
  intro y vs us s W ys hx hy wx wy hs hsl hfew hd;have HIH:=Hh (fun q (hq:q∈ks)=>qE5 w0 b N q.2 (by have:=qCE ks q hq;simp only[Stl.wt] at hN;omega));have HY:=Hh hy;have HS:=Hh (fun (vs us:List Value) (W:World)=>qHv w0 (Stl.wt (.mk k d e ks)) (.mk k d e ks) y (zo _) vs us W);have HSX:=Hh hx;obtain⟨k2,d2,e2,ls⟩:=y;obtain⟨A,c,rfl,hbd,hkx⟩:=hx.open;obtain⟨B,c2,rfl,hbd2,hky⟩:=hy.open;have HKX:=Hh hkx;have HKY:=Hh hky;have HWX:=Hh (nU wx);have HWY:=Hh (nU wy);have HSD:=Hh hs;have HSL:=Hh (show s.length+13*(Stl.wtL ks+1)≤100000 by simpa[Stl.wt] using hsl);have HFW:=Hh (show ys.length+vO ks+vO ls≤1000 by rw[kM,kM] at hfew;omega);have HLX:=Hh hbd.1;have HLY:=Hh hbd2.1;have HYL:=Hh (show ys.length≤1000000 by omega);have HDN:=Hh (show kC (.mk k d e ks) (.mk k2 d2 e2 ls) s=if wH (.mk k d e ks) (.mk k2 d2 e2 ls) then [] else if k=kDir∧k2=kDir then qV ks ls s else [uW s] from by rw[kC];rfl);generalize kC (.mk k d e ks) (.mk k2 d2 e2 ls) s=res at HDN ⊢;have hb1:Below W.heap.size W ((W.alloc (.cells #[.string ⟨k.toArray⟩,.string ⟨d.toArray⟩,.bool e,.slice A ks.length c] 134)).alloc (.cells #[.string ⟨k2.toArray⟩,.string ⟨d2.toArray⟩,.bool e2,.slice B ls.length c2] 134)):=((zB _ W).alloc (zo _) _).alloc (by simp) _;have HX0:=Hh (qS (W.alloc (.cells #[.string ⟨k.toArray⟩,.string ⟨d.toArray⟩,.bool e,.slice A ks.length c] 134)) (.cells #[.string ⟨k2.toArray⟩,.string ⟨d2.toArray⟩,.bool e2,.slice B ls.length c2] 134) (zK1 W (.cells #[.string ⟨k.toArray⟩,.string ⟨d.toArray⟩,.bool e,.slice A ks.length c] 134)));have hx1:=zK1 (W.alloc (.cells #[.string ⟨k.toArray⟩,.string ⟨d.toArray⟩,.bool e,.slice A ks.length c] 134)) (.cells #[.string ⟨k2.toArray⟩,.string ⟨d2.toArray⟩,.bool e2,.slice B ls.length c2] 134);rw[show (W.alloc (.cells #[.string ⟨k.toArray⟩,.string ⟨d.toArray⟩,.bool e,.slice A ks.length c] 134)).heap.size=W.heap.size+1 by simp] at hx1;have HX1:=Hh hx1;have HD1:=Hh (hd.later hb1);clear hx hy wx wy hs hsl hfew hd hbd hbd2 hkx hky hx1 hb1 hN;go_enter Tryz.func100,Tryz.ntmps100;go_upto_region 2 with fail;generalize (W.alloc (.cells #[.string ⟨k.toArray⟩,.string ⟨d.toArray⟩,.bool e,.slice A ks.length c] 134)).alloc (.cells #[.string ⟨k2.toArray⟩,.string ⟨d2.toArray⟩,.bool e2,.slice B ls.length c2] 134)=W2 at *;obtain⟨q0,q1,q2,q3⟩:=cq HX0.o;obtain⟨r0,r1,r2,r3⟩:=cq HX1.o;have HSA:=Hh (HS.o _ _ W2 HD1.o.below HSX.o HY.o)
  cases hsm:wH (.mk k d e ks) (.mk k2 d2 e2 ls) with
  | true =>
   rw[hsm] at HSA HDN;have HRE:=Hh (show res=[] from HDN.o);clear hsm;go_wp2_with (go_at_call 153;refine HSA.o.mono ?_;rintro ev w3 ⟨rfl,hb3⟩;have HD3:=Hh (HD1.o.later hb3);clear hb3);go_end0;exact⟨rfl,[],by rw[List.append_nil];exact HD3.o,HRE.o.symm⟩
  | false =>
   rw[hsm] at HSA HDN;have HRE:=Hh (show res=if k=kDir∧k2=kDir then qV ks ls s else [uW s] from HDN.o);clear hsm;go_upto_region 3 with (go_at_call 153;refine HSA.o.mono ?_;rintro ev w3 ⟨rfl,hb3⟩;have HD3:=Hh (HD1.o.later hb3);have HX0':=Hh ((hb3.block _ (qA HX0.o)).trans HX0.o);have HX1':=Hh ((hb3.block _ (qA HX1.o)).trans HX1.o);clear hb3);clear q0 q1 q2 q3 r0 r1 r2 r3;have q0:=ce0 HX0'.o;have q3:=ce3 HX0'.o;obtain⟨r0,r1,r2,r3⟩:=cq HX1'.o;have hmx:=fun ts T w=>qAD (P:=Tryz.prog) ts T s HSD.o w
   have HCP:=Hh (nK (Stl.wt (.mk k2 d2 e2 ls)) (.mk k2 d2 e2 ls) _ _ w3 (zo _) (NodeP.of_at _ _ (NodeAt.later HD3.o.below _ _ HY.o)))
   cases hk1:k==[100,105,114] with
   | true =>
    cases hk2:k2==[100,105,114] with
    | true =>
     have HR2:=Hh (show res=qV ks ls s by rw[HRE.o,zM1 ⟨eq_of_beq hk1,eq_of_beq hk2⟩]);have HKD:=Hh (qL8 w0 b ks ls HIH.o HWX.o HWY.o s HSD.o HSL.o A B c c2 HKX.o HKY.o HLX.o HLY.o w3 ys HFW.o HD3.o);clear hmx HRE;go_wp2_with (go_at_call 154;refine HKD.o.mono ?_;rintro ev w4 ⟨rfl,zs,hd4,hz4⟩;have HD4:=Hh hd4;have HZ4:=Hh hz4;clear hd4 hz4);go_end0;exact⟨rfl,zs,HD4.o,by rw[HR2.o];exact HZ4.o⟩
    | false =>
     have HR2:=Hh (show res=[uW s] by rw[HRE.o,zL1 (fun h=>by rw[h.2] at hk2;exact absurd hk2 (by decide))]);clear HRE;go_wp2_with (first
      | (go_at_call 156;((with_reducible refine HCP.o.mono ?_);rintro ev w5 ⟨us,rfl,hn5,hb5⟩;obtain⟨t0,t1,t2,t3,t4,t5,rfl⟩:=kF hn5;have HAD:=Hh (mF (HD3.o.later hb5) HYL.o [101,100,105,116] (Stl.told s) t0 t1 t2 t3 t4 t5 ⟨#[101,100,105,116]⟩ ⟨(Stl.told s).toArray⟩ rfl rfl);clear hn5 hb5))
      | (go_at_call 155;((with_reducible refine HAD.o.mono ?_);rintro ev w6 ⟨rfl,hd6⟩;have HD6:=Hh hd6;clear hd6)))
     go_end0;exact⟨rfl,[_],HD6.o,by rw[HR2.o];rfl⟩
   | false =>
    have HR2:=Hh (show res=[uW s] by rw[HRE.o,zL1 (fun h=>by rw[h.1] at hk1;exact absurd hk1 (by decide))]);clear HRE;go_wp2_with (first
     | (go_at_call 156;((with_reducible refine HCP.o.mono ?_);rintro ev w5 ⟨us,rfl,hn5,hb5⟩;obtain⟨t0,t1,t2,t3,t4,t5,rfl⟩:=kF hn5;have HAD:=Hh (mF (HD3.o.later hb5) HYL.o [101,100,105,116] (Stl.told s) t0 t1 t2 t3 t4 t5 ⟨#[101,100,105,116]⟩ ⟨(Stl.told s).toArray⟩ rfl rfl);clear hn5 hb5))
     | (go_at_call 155;((with_reducible refine HAD.o.mono ?_);rintro ev w6 ⟨rfl,hd6⟩;have HD6:=Hh hd6;clear hd6)))
    go_end0;exact⟨rfl,[_],HD6.o,by rw[HR2.o];rfl⟩
def qG4 (p:Nat→Addr)(w:World)(r:Except Nat (List (List UInt8)))(ev:Ending)(w':World):Prop :=
 Below w.heap.size w w'∧∃ (A:Option Addr) (m c:Nat) (er:Value),ev=.returned (.tuple #[.slice A m c,er]) ∧
  match r with
  | .error cd=>er=jK p cd∧cd≠0∧A=none∧m=0∧c=0
  | .ok L=>er=.nilIface∧∃ ys:List CX,m=ys.length∧ys.map CX.told=L∧ys.length≤1000∧w'.ownsRow w.heap.size 141 6 (.slice A m c) m (ys.flatMap gM)
theorem qMJ (p:Nat→Addr)(x y:Nd)(vs us:List Value)(w:World)(hE:Errs w p)(hx:NodeAt w x vs)(hy:NodeAt w y us) :
  Calls Tryz.prog 60 #[.agg vs.toArray,.agg us.toArray] w (qG4 p w (jW x y)):=by
 have HE:=Hh hE;have HX:=Hh hx;have HY:=Hh hy;have HR:=Hh (show jW x y=if treeErr x≠0 then .error (treeErr x) else if treeErr y≠0 then .error (treeErr y) else .ok (kC x y []) from rfl);generalize jW x y=res at HR ⊢;have HCK:=Hh (fun (W:World) (hb:Below w.heap.size w W)=>xV p x vs W (HE.o.later hb) (NodeAt.later hb _ _ HX.o));have HCL:=Hh (fun (W:World) (hb:Below w.heap.size w W)=>xV p y us W (HE.o.later hb) (NodeAt.later hb _ _ HY.o));obtain⟨te,hte⟩:∃ te,te=treeErr x:=⟨_,rfl⟩;obtain⟨tf,htf⟩:∃ tf,tf=treeErr y:=⟨_,rfl⟩;rw[← hte,← htf] at HR;rw[← hte] at HCK;rw[← htf] at HCL;have HTE:=Hh hte;have HTF:=Hh htf;have HND:=Hh (fun (b:Nat) (W:World) (h1:treeErr x=0) (h2:treeErr y=0) (hd:DfAt w W b [])=>qE5 w b (Stl.wt x) x (zo _) y vs us [] W [] HX.o HY.o (pN h1) (pN h2) (.inl rfl) (by
  have h3:=(pY h1 h2 []).1
  have h4:Stl.wt x=kM x:=qJG x
  show 0+13*Stl.wt x≤100000
  omega) (by
  have h3:=pY h1 h2 []
  show 0+kM x+kM y≤1000
  omega) hd)
 obtain⟨k,d,e,ks⟩:=x;obtain⟨k2,d2,e2,ls⟩:=y;obtain⟨A,c,rfl,_,_⟩:=hx.open;obtain⟨B,c2,rfl,_,_⟩:=hy.open;have hb1:Below w.heap.size w ((w.alloc (.cells #[.string ⟨k.toArray⟩,.string ⟨d.toArray⟩,.bool e,.slice A ks.length c] 134)).alloc (.cells #[.string ⟨k2.toArray⟩,.string ⟨d2.toArray⟩,.bool e2,.slice B ls.length c2] 134)):=((zB _ w).alloc (zo _) _).alloc (by simp) _;have HX0:=Hh (qS (w.alloc (.cells #[.string ⟨k.toArray⟩,.string ⟨d.toArray⟩,.bool e,.slice A ks.length c] 134)) (.cells #[.string ⟨k2.toArray⟩,.string ⟨d2.toArray⟩,.bool e2,.slice B ls.length c2] 134) (zK1 w (.cells #[.string ⟨k.toArray⟩,.string ⟨d.toArray⟩,.bool e,.slice A ks.length c] 134)));have hx1:=zK1 (w.alloc (.cells #[.string ⟨k.toArray⟩,.string ⟨d.toArray⟩,.bool e,.slice A ks.length c] 134)) (.cells #[.string ⟨k2.toArray⟩,.string ⟨d2.toArray⟩,.bool e2,.slice B ls.length c2] 134);rw[show (w.alloc (.cells #[.string ⟨k.toArray⟩,.string ⟨d.toArray⟩,.bool e,.slice A ks.length c] 134)).heap.size=w.heap.size+1 by simp] at hx1;have HX1:=Hh hx1;have HB1:=Hh hb1;clear hE hx hy hx1 hb1 hte htf;go_enter Tryz.func60,Tryz.ntmps60;go_upto_region 1 with fail;generalize (w.alloc (.cells #[.string ⟨k.toArray⟩,.string ⟨d.toArray⟩,.bool e,.slice A ks.length c] 134)).alloc (.cells #[.string ⟨k2.toArray⟩,.string ⟨d2.toArray⟩,.bool e2,.slice B ls.length c2] 134)=w1 at *;obtain⟨q0,q1,q2,q3⟩:=cq HX0.o;go_upto_region 2 with (go_at_call 99;((with_reducible refine(HCK.o _ HB1.o).mono ?_);rintro ev w2 ⟨rfl,hb2⟩;have HB2:=Hh (HB1.o.trans (hb2.mono HB1.o.size));have HX0':=Hh ((hb2.block _ (qA HX0.o)).trans HX0.o);have HX1':=Hh ((hb2.block _ (qA HX1.o)).trans HX1.o);clear hb2));clear q0 q1 q2 q3;by_cases ht:te=0
 ·subst ht;rw[xB];obtain⟨r0,r1,r2,r3⟩:=cq HX1'.o;go_upto_region 5 with (go_at_call 99;((with_reducible refine(HCL.o _ HB2.o).mono ?_);rintro ev w3 ⟨rfl,hb3⟩;have HB3:=Hh (HB2.o.trans (hb3.mono HB2.o.size));have HX0:=Hh ((hb3.block _ (qA HX0'.o)).trans HX0'.o);have HX1:=Hh ((hb3.block _ (qA HX1'.o)).trans HX1'.o);clear hb3));clear r0 r1 r2 r3;by_cases hu:tf=0
  ·subst hu;rw[xB];have HRE:=Hh (show res=.ok (kC (.mk k d e ks) (.mk k2 d2 e2 ls) []) by rw[HR.o,zL1 (by simp),zL1 (by simp)]);have HLN:=Hh (pY HTE.o.symm HTF.o.symm []).2.2;generalize hL:kC (.mk k d e ks) (.mk k2 d2 e2 ls) []=L at *;go_upto_region 8 with fail;have hb4:=(zB w3.heap.size w3).alloc (zo _) (.cells #[.slice none 0 0] 191);have HD4:=Hh (show DfAt w (w3.alloc (.cells #[.slice none 0 0] 191)) w3.heap.size [] from ⟨⟨none,0,zK1 _ _,zF1 _ _ _ _⟩,HB3.o.size,HB3.o.trans (hb4.mono HB3.o.size)⟩);have HNN:=Hh (HND.o w3.heap.size _ HTE.o.symm HTF.o.symm HD4.o);have HY0:=Hh ((hb4.block _ (qA HX0.o)).trans HX0.o);have HY1:=Hh ((hb4.block _ (qA HX1.o)).trans HX1.o);clear hb4;generalize w3.alloc (.cells #[.slice none 0 0] 191)=w4 at *;obtain⟨q0,q1,q2,q3⟩:=cq HY0.o;obtain⟨r0,r1,r2,r3⟩:=cq HY1.o;clear hL;go_upto_region 9 with (go_at_call 100;refine HNN.o.mono ?_;rintro ev w5 ⟨rfl,zs,hd5,hz5⟩;have HD5:=Hh hd5;have HZ5:=Hh hz5;clear hd5 hz5);obtain⟨A5,c5,hb5,ho5⟩:=HD5.o.o;have s0:=ce0 hb5;have HO5:=Hh ho5;clear hb5 ho5 q0 q1 q2 q3 r0 r1 r2 r3;go_wp2;go_ret2;refine⟨HD5.o.below,_,_,_,_,rfl,?_⟩;rw[HRE.o];exact⟨rfl,[]++zs,rfl,HZ5.o,by have h1:=HLN.o;have h2:=congrArg List.length HZ5.o;rw[zT] at h2;rw[zh];omega,HO5.o⟩
  ·rw[qD p hu];have HU:=Hh hu;have HEO:=Hh (qD p hu);clear hu;go_wp2_with fail;go_ret2;refine⟨HB3.o,_,_,_,_,rfl,?_⟩;rw[HR.o,zL1 (by simp),zM1 HU.o];exact⟨HEO.o.symm,HU.o,rfl,rfl,rfl⟩
 ·rw[qD p ht];have HT:=Hh ht;have HEO:=Hh (qD p ht);clear ht;go_wp2_with fail;go_ret2;refine⟨HB2.o,_,_,_,_,rfl,?_⟩;rw[HR.o,zM1 HT.o];exact⟨HEO.o.symm,HT.o,rfl,rfl,rfl⟩
end Go.Proofs.YtbmkaekimccdgaaGreatDoor
namespace Go.Proofs.YtbmkaekimccdgaaGreatDoor
open Stl
mutual
theorem qCc:∀ (a b:Nd) (s:List UInt8),Well a→Well b→∀ z∈kC a b s,z.length≤s.length+13*Stl.wt a+30
 | .mk k d e ks,b,s,wa,wb,z,hz=>by
  rw[kC] at hz;split at hz
  ·cases hz
  ·split at hz
   ·obtain⟨k2,d2,e2,ls⟩:=b;have:=qBL ks ls s (nU wa) (nU wb) z hz;rw[Stl.wt];omega
   ·rw[zg.1 hz];have h1:(Stl.told s).length≤s.length+1:=by
     unfold Stl.told;split
     ·simp
     ·omega
    rw[uW,zP];simp only[zQ,List.length_nil];omega
theorem qBL:∀ (a b:List (List UInt8×Nd)) (s:List UInt8),(∀ q∈a,Well q.2∧q.1.length≤12)→(∀ q∈b,Well q.2∧q.1.length≤12)→∀ z∈qV a b s,z.length≤s.length+13*(Stl.wtL a+1)+30
 | [],l,s,_,hb,z,hz=>by
  rw[qV] at hz;obtain⟨q,hq,rfl⟩:=zb.1 hz;have:=(hb q hq).2;rw[uK];simp only[zP,zQ,List.length_nil];omega
 | (x,n)::a,l,s,ha,hb,z,hz=>by
  have hx:=ha (x,n) (by simp);have hx2:x.length≤12:=hx.2;have hdr:z=gZ s x→z.length≤s.length+13*(Stl.wtL ((x,n)::a)+1)+30:=fun h=>by
   rw[h,gZ];simp only[zP,zQ,List.length_nil];omega
  have hmore:∀ b,(∀ q∈b,Well q.2∧q.1.length≤12)→z∈qV a b s→z.length≤s.length+13*(Stl.wtL ((x,n)::a)+1)+30:=fun b hb2 h=>by
   have:=qBL a b s (fun q hq=>ha q (by simp[hq])) hb2 z h;rw[Stl.wtL];omega
  rw[qV] at hz
  rcases zX.1 hz with hz | hz
  ·obtain⟨q,hq,rfl⟩:=zb.1 hz;have:=(hb q ((List.takeWhile_sublist _).subset hq)).2;rw[uK];simp only[zP,zQ,List.length_nil];omega
  ·have hd:∀ q∈(l.dropWhile fun q=>decide (q.1<x)),Well q.2∧q.1.length≤12:=fun q hq=>hb q ((List.dropWhile_sublist _).subset hq)
   cases hdw:(l.dropWhile fun q=>decide (q.1<x)) with
   | nil =>
    rw[hdw] at hz
    rcases zY.1 hz with h | h
    ·exact hdr h
    ·exact hmore [] (fun q hq=>by cases hq) h
   | cons y b =>
    obtain⟨y,m⟩:=y;rw[hdw] at hz hd;simp only at hz;split at hz
    ·rcases zX.1 hz with h | h
     ·have h1:=qCc n m (s++47::x) hx.1 (hd (y,m) (by simp)).1 z h;rw[zP,zQ] at h1;rw[Stl.wtL];omega
     ·exact hmore b (fun q hq=>hd q (by simp[hq])) h
    ·rcases zY.1 hz with h | h
     ·exact hdr h
     ·exact hmore ((y,m)::b) hd h
end
end Go.Proofs.YtbmkaekimccdgaaGreatDoor
namespace Go.Proofs.YtbmkaekimccdgaaGreatDoor
open Go.RowKit Go.Sort Go.Shelf Stl
theorem qHM:∀ (ys:List CX) (i:Nat) (h:i<ys.length),(ys.flatMap gM)[i*6]?=some (.string ⟨ys[i].kind.toArray⟩)∧(ys.flatMap gM)[i*6+1]?=some (.string ⟨ys[i].path.toArray⟩)∧(ys.flatMap gM)[i*6+2]?=some (.string ys[i].t0)∧(ys.flatMap gM)[i*6+3]?=some (.string ys[i].t1)∧(ys.flatMap gM)[i*6+4]?=some (.bool ys[i].t2)∧(ys.flatMap gM)[i*6+5]?=some (.slice ys[i].t3 ys[i].t4 ys[i].t5)
 | [],_,h=>by simp at h
 | x::r,0,_=>by simp[gM]
 | x::r,i+1,h=>by
  have:=qHM r i (by simpa using h);rw[show (i+1)*6=i*6+6 by omega];simpa[gM,List.flatMap_cons] using this
structure ChRow (w:World)(A:Option Addr)(ys:List CX):Prop where
 row:ys≠[]→∃ g,A=some ⟨g,0,none⟩∧g<w.heap.size∧∀ (j:Nat) u,(ys.flatMap gM)[j]?=some u→w.cell? ⟨g,j,none⟩=some u
theorem ChRow.later {w w':World}{A:Option Addr}{ys:List CX}(h:ChRow w A ys)(hb:Below w.heap.size w w'):ChRow w' A ys :=
 ⟨fun hn=>by
  obtain⟨g,ha,hg,hj⟩:=h.row hn
  exact⟨g,ha,zt hg hb.size,fun j u hu=>(hb.cell (p:=⟨g,j,none⟩) hg).trans (hj j u hu)⟩⟩
theorem ChRow.of_owns {w:World}{base:Nat}{A:Option Addr}{c:Nat}{ys:List CX}(h:w.ownsRow base 141 6 (.slice A ys.length c) ys.length (ys.flatMap gM)):ChRow w A ys :=
 ⟨fun hn=>by
  rcases h.2 with ⟨e,h0⟩ | ⟨g,cp,cur,e,_,hg,_,_,hz,ht⟩
  ·exact absurd (zR.1 h0) hn
  ·injection e with e1 e2 e3
   subst e1
   refine⟨g,rfl,qA hg,fun j u hu=>?_⟩
   rw[← ht,List.getElem?_take] at hu
   split at hu
   ·simp only[World.cell?,hg]
    simpa using hu
   ·cases hu⟩
theorem ChRow.nil (w:World):ChRow w none []:=⟨fun h=>absurd rfl h⟩
theorem ChRow.at {w:World}{A:Option Addr}{ys:List CX}(h:ChRow w A ys){i:Nat}(hi:i<ys.length):∃ g,A=some ⟨g,0,none⟩∧g<w.heap.size∧w.cell? ⟨g,i*6,none⟩=some (.string ⟨ys[i].kind.toArray⟩)∧w.cell? ⟨g,i*6+1,none⟩=some (.string ⟨ys[i].path.toArray⟩)∧w.cell? ⟨g,i*6+2,none⟩=some (.string ys[i].t0)∧w.cell? ⟨g,i*6+3,none⟩=some (.string ys[i].t1)∧w.cell? ⟨g,i*6+4,none⟩=some (.bool ys[i].t2)∧w.cell? ⟨g,i*6+5,none⟩=some (.slice ys[i].t3 ys[i].t4 ys[i].t5):=by
 obtain⟨g,ha,hg,hj⟩:=h.row (by intro e;subst e;simp at hi);obtain⟨h0,h1,h2,h3,h4,h5⟩:=qHM ys i hi;exact⟨g,ha,hg,hj _ _ h0,hj _ _ h1,hj _ _ h2,hj _ _ h3,hj _ _ h4,hj _ _ h5⟩
theorem qK4 {p:Nat→Addr}{w w':World}{x y:Nd}{ev:Ending}(h:qG4 p w (jW x y) ev w')(hx:treeErr x=0→treeErr y=0→∀ z∈kC x y [],z.length≤3000) :
  Below w.heap.size w w'∧∃ (A:Option Addr) (ys:List CX) (c:Nat) (er:Value),ev=.returned (.tuple #[.slice A ys.length c,er])∧ChRow w' A ys∧ys.length≤1000∧(∀ y∈ys,y.told.length≤3000) ∧
   ((∃ cd,jW x y=.error cd∧cd≠0∧er=jK p cd)∨(jW x y=.ok (ys.map CX.told)∧er=.nilIface)):=by
 obtain⟨hb,A,m,c,er,rfl,hm⟩:=h;refine⟨hb,?_⟩
 cases hd:jW x y with
 | error cd =>
  rw[hd] at hm;obtain⟨h1,h2,rfl,rfl,rfl⟩:=hm;exact⟨none,[],0,er,rfl,ChRow.nil _,by simp,by simp,.inl ⟨cd,rfl,h2,h1⟩⟩
 | ok L =>
  rw[hd] at hm;obtain⟨h1,ys,rfl,h3,h4,h5⟩:=hm;refine⟨A,ys,c,er,rfl,ChRow.of_owns h5,h4,fun z hz=>?_,.inr ⟨by rw[h3],h1⟩⟩;have hL:treeErr x=0∧treeErr y=0∧L=kC x y []:=by
   unfold jW at hd;split at hd
   ·cases hd
   ·split at hd
    ·cases hd
    ·rename_i a b
     injection hd with hd
     exact⟨by simpa using a,by simpa using b,hd.symm⟩
  exact hx hL.1 hL.2.1 _ (by rw[← hL.2.2,← h3];exact zb.2 ⟨z,hz,rfl⟩)
section
variable {w:World}{c:Nat→Col}{pb b tp:Nat}{p:Nat→Addr}{s:Sto}{t:Stl.Tape}
theorem qIw (h:PlAt w c pb b tp p s t)(hg:vB s)(r:List (List UInt8))(hr:r.length=2)(hrl:∀ x∈r,x.length≤250)(A:Option Addr)(cr:Nat)(hs:Strs w (.slice A r.length cr) r) :
  Calls Tryz.prog 31 #[.pointer (some ⟨pb,0,none⟩),.slice A r.length cr] w (TlPost p w (uX s oE r)):=by
 have HPL:=Hh h;have HG:=Hh hg;have HS:=Hh hs;have HRL:=Hh hrl;obtain⟨x,y,rfl⟩:∃ x y,r=[x,y]:=by
  match r,hr with
  | [x,y],_=>exact⟨x,y,rfl⟩
 have HR:=Hh (show uX s oE [x,y]=match s.tree x with | .error e=>.error e | .ok n=>match s.tree y with | .error e=>.error e | .ok m=>(jW n m).map qT from by
  unfold uX
  simp only[List.headD_cons]
  cases s.tree x with
  | error e=>rfl
  | ok n=>exact(zL1 (by decide)).trans ((zL1 (by decide)).trans (zL1 (by decide))))
 generalize uX s oE [x,y]=ans at HR ⊢;have HYP:=Hh (fun cd (h:s.tree y=.error cd)=>nW h);obtain⟨g,off,he1,hgl1,hq1⟩:=hs.cellAt (j:=1) (by simp);simp only[List.getElem_cons_succ,List.getElem_cons_zero] at hq1;have HQ1:=Hh hq1;clear hq1;obtain⟨g',off',he2,hgl,hq0⟩:=hs.cellAt (j:=0) (by simp);obtain⟨rfl,rfl⟩:g=g'∧off=off':=by have h:=he1.symm.trans he2;simp only[zB1,Addr.mk.injEq,and_true] at h;exact h
 subst he1;clear hgl1 he2;simp only[List.getElem_cons_zero,Nat.add_zero] at hq0;have HXP:=Hh (fun cd (h:s.tree x=.error cd)=>nW h);clear h hg hs hr hrl;simp only[zQ,List.length_nil];go_enter Tryz.func31,Tryz.ntmps31;have HSS:=Hh (fun (w':World) (hb:Below w.heap.size w w')=>show w'.cell? ⟨pb,0,none⟩=some (.pointer (some ⟨b,0,none⟩))∧w'.cell? ⟨g,off,none⟩=some (.string ⟨x.toArray⟩) from ⟨ce0 ((HPL.o.below hb).own),(hb.cell (p:=⟨g,off,none⟩) hgl).trans hq0⟩);have hs0:(fun w':World=>w'.cell? ⟨pb,0,none⟩=some (.pointer (some ⟨b,0,none⟩))∧w'.cell? ⟨g,off,none⟩=some (.string ⟨x.toArray⟩)) w:=HSS.o _ (zB _ _);have HBN:=Hh ((zB w.heap.size w).alloc (zo _) (.cells #[.string ⟨#[]⟩,.string ⟨#[]⟩,.bool false,.slice none 0 0] 134));have HBD:=Hh (zB w.heap.size w).drew;have HS1:=Hh (HSS.o _ HBN.o);have HTA:=Hh (kW (HPL.o.below HBD.o).st HG.o x);have HTB:=Hh (kW (HPL.o.below HBN.o.drew).st HG.o x);have HXB:Hg ((w.alloc (.cells #[.string ⟨#[]⟩,.string ⟨#[]⟩,.bool false,.slice none 0 0] 134)).drew.heap[w.heap.size]?=some (.cells #[.string ⟨#[]⟩,.string ⟨#[]⟩,.bool false,.slice none 0 0] 134 (0,0))):=Hh (zK1 _ _);have HN1:=Hh (show w.heap.size≠pb∧w.heap.size≠g from ⟨by have:=qA HPL.o.own;omega,by omega⟩);generalize s.tree x=res at *;clear hq0;go_upto_region 1 with fail
 go_cut [6,7] (fun x e wx=>∃ (g6:Nat) (er:Value),x=.pointer (some ⟨g6,0,none⟩)∧e=er∧(er=.nilIface∨∃ u v,er=.iface u v)∧Hg (GotAt p res w wx g6 er))
 case first =>
  go_region_held3 (fun w'=>w'.cell? ⟨pb,0,none⟩=some (.pointer (some ⟨b,0,none⟩))∧w'.cell? ⟨g,off,none⟩=some (.string ⟨x.toArray⟩))
   (first
    | exact hs0
    | exact HS1.o
    | exact HS2.o
    | exact HSA.o _
    | exact⟨qX HS2.o.1 HN1.o.1,qX HS2.o.2 HN1.o.2⟩
    | go_keep)
   (first
    | (go_at_call 59;((with_reducible refine HTA.o.mono ?_);rintro ev w2 ⟨hb2,a0,a1,a2,A2,m,cp,er,rfl,he,hcs,hn⟩;have HCA:=Hh hcs;have hb3:=HBD.o.trans hb2;have HGA:=Hh (gT hb3 he hn);have HS2:=Hh (HSS.o _ hb3);have HSA:=Hh (fun o:Obj=>HSS.o _ (hb3.alloc hb3.size o));clear hb2 hb3 he hcs hn))
    | (go_at_call 59;((with_reducible refine HTB.o.mono ?_);rintro ev w2 ⟨hb2,a0,a1,a2,A2,m,cp,er,rfl,he,hcs,hn⟩;have HCA:=Hh hcs;have hb3:=HBN.o.drew.trans (hb2.mono HBN.o.size);have hy2:=(hb2.block _ (qA HXB.o)).trans HXB.o;have HGA:=Hh (wY (zo _) hb3 hy2 he hn);have HS2:=Hh (HSS.o _ hb3);obtain⟨z0,z1,z2,z3⟩:=cq hy2;obtain⟨f0,f1,f2,f3⟩:=Stl.fq hy2;clear hb2 he hcs hn hy2 hb3))
    | fail)
  all_goals
   go_wp2;go_meet
   case rel=>exact⟨_,_,rfl,rfl,HCA.o,HGA⟩
 case rest =>
  obtain⟨g6,er,rfl,rfl,hcs,HGA⟩:=hcut;clear hs0 HSS HBN HBD HS1 HTA HTB HXB HN1;obtain⟨a0,a1,a2,A9,m9,c9,hxA,hnA⟩:=HGA.o.box;have HXA:=Hh hxA;have HNA:=Hh hnA;have HER:=Hh HGA.o.er;have hxp:=HXP.o
  cases res with
  | error cd =>
   have hc:=hxp cd rfl;have he:=HER.o.trans (show oT p (.error cd)=_ from qD p hc);have HCD:=Hh hc;have HRA:=Hh (show ans=.error cd from HR.o);subst he;clear hc hxp hcs hxA hnA HER HR;go_wp2;go_ret2;rw[HRA.o];exact⟨_,_,rfl,HGA.o.below,(qD p HCD.o).symm,HCD.o⟩
  | ok n =>
   have he:_=Value.nilIface:=HER.o;subst he;have HR2:=Hh (show ans=match s.tree y with | .error e=>.error e | .ok m=>(jW n m).map qT from HR.o);have HPL2:=Hh (HPL.o.below HGA.o.below);have HB0:=Hh HGA.o.below;have hq0:=(HB0.o.cell (p:=⟨g,off+1,none⟩) hgl).trans HQ1.o;have hgw:=hgl;have hgl:=zt hgw HB0.o.size;clear hxp hcs hxA hnA HER HR hgw;have HSS:=Hh (fun (w':World) (hb:Below wc.heap.size wc w')=>show w'.cell? ⟨pb,0,none⟩=some (.pointer (some ⟨b,0,none⟩))∧w'.cell? ⟨g,off+1,none⟩=some (.string ⟨y.toArray⟩) from ⟨ce0 ((HPL2.o.below hb).own),(hb.cell (p:=⟨g,off+1,none⟩) hgl).trans hq0⟩);have hs0:(fun w':World=>w'.cell? ⟨pb,0,none⟩=some (.pointer (some ⟨b,0,none⟩))∧w'.cell? ⟨g,off+1,none⟩=some (.string ⟨y.toArray⟩)) wc:=HSS.o _ (zB _ _);have HBN:=Hh ((zB wc.heap.size wc).alloc (zo _) (.cells #[.string ⟨#[]⟩,.string ⟨#[]⟩,.bool false,.slice none 0 0] 134));have HBD:=Hh (zB wc.heap.size wc).drew;have HS1:=Hh (HSS.o _ HBN.o);have HTA:=Hh (kW (HPL2.o.below HBD.o).st HG.o y);have HTB:=Hh (kW (HPL2.o.below HBN.o.drew).st HG.o y);have HXB:Hg ((wc.alloc (.cells #[.string ⟨#[]⟩,.string ⟨#[]⟩,.bool false,.slice none 0 0] 134)).drew.heap[wc.heap.size]?=some (.cells #[.string ⟨#[]⟩,.string ⟨#[]⟩,.bool false,.slice none 0 0] 134 (0,0))):=Hh (zK1 _ _);have HN1:=Hh (show wc.heap.size≠pb∧wc.heap.size≠g from ⟨by have:=qA HPL2.o.own;omega,by omega⟩);generalize s.tree y=res2 at *;clear hq0;go_upto_region 4 with fail
   go_cut [8,7] (fun x e wx=>∃ (g8:Nat) (er:Value),x=.pointer (some ⟨g8,0,none⟩)∧e=er∧(er=.nilIface∨∃ u v,er=.iface u v)∧Hg (GotAt p res2 wc wx g8 er))
   case first =>
    go_region_held3 (fun w'=>w'.cell? ⟨pb,0,none⟩=some (.pointer (some ⟨b,0,none⟩))∧w'.cell? ⟨g,off+1,none⟩=some (.string ⟨y.toArray⟩))
     (first
      | exact hs0
      | exact HS1.o
      | exact HS2.o
      | exact HSA.o _
      | exact⟨qX HS2.o.1 HN1.o.1,qX HS2.o.2 HN1.o.2⟩
      | go_keep)
     (first
      | (go_at_call 59;((with_reducible refine HTA.o.mono ?_);rintro ev w2 ⟨hb2,a0,a1,a2,A2,m,cp,er,rfl,he,hcs,hn⟩;have HCA:=Hh hcs;have hb3:=HBD.o.trans hb2;have HGA:=Hh (gT hb3 he hn);have HS2:=Hh (HSS.o _ hb3);have HSA:=Hh (fun o:Obj=>HSS.o _ (hb3.alloc hb3.size o));clear hb2 hb3 he hcs hn))
      | (go_at_call 59;((with_reducible refine HTB.o.mono ?_);rintro ev w2 ⟨hb2,a0,a1,a2,A2,m,cp,er,rfl,he,hcs,hn⟩;have HCA:=Hh hcs;have hb3:=HBN.o.drew.trans (hb2.mono HBN.o.size);have hy2:=(hb2.block _ (qA HXB.o)).trans HXB.o;have HGA:=Hh (wY (zo _) hb3 hy2 he hn);have HS2:=Hh (HSS.o _ hb3);obtain⟨z0,z1,z2,z3⟩:=cq hy2;obtain⟨f0,f1,f2,f3⟩:=Stl.fq hy2;clear hb2 he hcs hn hy2 hb3))
      | fail)
    all_goals
     go_wp2;go_meet
     case rel=>exact⟨_,_,rfl,rfl,HCA.o,HGA⟩
   case rest =>
    obtain⟨g8,er,rfl,rfl,hcs,HGB⟩:=hcut;obtain⟨b0,b1,b2,B9,n9,d9,hxB,hnB⟩:=HGB.o.box;have HXC:=Hh hxB;have HNB:=Hh hnB;have HER:=Hh HGB.o.er;have hyp:=HYP.o;clear HSS HBN HBD HS1 HTA HTB HXB HN1 hs0;have HB2:=Hh HGB.o.below
    cases res2 with
    | error cd =>
     have hc:=hyp cd rfl;have he:=HER.o.trans (show oT p (.error cd)=_ from qD p hc);have HCD:=Hh hc;have HRA:=Hh (show ans=.error cd from HR2.o);subst he;clear hc hyp hcs hxB hnB HER HR2;go_wp2;go_ret2;rw[HRA.o];exact⟨_,_,rfl,HB0.o.trans (HB2.o.mono HB0.o.size),(qD p HCD.o).symm,HCD.o⟩
    | ok m =>
     have he:_=Value.nilIface:=HER.o;subst he;have HRA:=Hh (show ans=(jW n m).map qT from HR2.o);have HPL3:=Hh (HPL2.o.below HB2.o);have HXA2:=Hh ((HB2.o.block _ (qA HXA.o)).trans HXA.o);have HNA2:=Hh (NodeAt.later HB2.o _ _ HNA.o);have HBW:=Hh (HB0.o.trans (HB2.o.mono HB0.o.size));clear hyp hcs hxB hnB HER HR2 HGB HPL2
     try clear HGA
     try clear HCA
     try clear HPL
     try clear HYP
     try clear HXP
     have HBD:=Hh (zB wc.heap.size wc).drew;have HDF:=Hh (fun (W:World) (hb:Below wc.heap.size wc W)=>qMJ p n m _ _ W ((HPL3.o.below hb).st.env.errs) (NodeAt.later hb _ _ HNA2.o) (NodeAt.later hb _ _ HNB.o));have HSH:=Hh (fun (hx:treeErr n=0) (hy:treeErr m=0)=>(fun z hz=>by
      have h1:=qCc n m [] (pN hx) (pN hy) z hz
      have h2:=(pY hx hy []).1
      rw[qJG] at h1
      simp only[List.length_nil] at h1
      omega:∀ z∈kC n m [],z.length≤3000))
     have HSB:=Hh (fun (w':World) (hb:Below wc.heap.size wc w')=>show w'.cell? ⟨g6,0,none⟩=some (.string a0)∧w'.cell? ⟨g6,1,none⟩=some (.string a1)∧w'.cell? ⟨g6,2,none⟩=some (.bool a2)∧w'.cell? ⟨g6,3,none⟩=some (.slice A9 m9 c9)∧w'.cell? ⟨g8,0,none⟩=some (.string b0)∧w'.cell? ⟨g8,1,none⟩=some (.string b1)∧w'.cell? ⟨g8,2,none⟩=some (.bool b2)∧w'.cell? ⟨g8,3,none⟩=some (.slice B9 n9 d9) from ⟨ce0 ((hb.block _ (qA HXA2.o)).trans HXA2.o),ce1 ((hb.block _ (qA HXA2.o)).trans HXA2.o),ce2 ((hb.block _ (qA HXA2.o)).trans HXA2.o),ce3 ((hb.block _ (qA HXA2.o)).trans HXA2.o),ce0 ((hb.block _ (qA HXC.o)).trans HXC.o),ce1 ((hb.block _ (qA HXC.o)).trans HXC.o),ce2 ((hb.block _ (qA HXC.o)).trans HXC.o),ce3 ((hb.block _ (qA HXC.o)).trans HXC.o)⟩);have hs0:(fun w':World=>w'.cell? ⟨g6,0,none⟩=some (.string a0)∧w'.cell? ⟨g6,1,none⟩=some (.string a1)∧w'.cell? ⟨g6,2,none⟩=some (.bool a2)∧w'.cell? ⟨g6,3,none⟩=some (.slice A9 m9 c9)∧w'.cell? ⟨g8,0,none⟩=some (.string b0)∧w'.cell? ⟨g8,1,none⟩=some (.string b1)∧w'.cell? ⟨g8,2,none⟩=some (.bool b2)∧w'.cell? ⟨g8,3,none⟩=some (.slice B9 n9 d9)) wc:=HSB.o _ (zB _ _);go_upto_region 7 with fail
     go_cut [9,7] (fun x e wx=>∃ (A:Option Addr) (ys:List CX) (cc:Nat),x=.slice A ys.length cc∧Below wc.heap.size wc wx∧ChRow wx A ys∧ys.length≤1000∧(∀ y∈ys,y.told.length≤3000)∧((∃ cd,jW n m=.error cd∧cd≠0∧e=jK p cd)∨(jW n m=.ok (ys.map CX.told)∧e=.nilIface)))
     case first =>
      obtain⟨z0,z1,z2,z3,y0,y1,y2,y3⟩:=hs0;go_wp2_with (first
        | (go_at_call 60;((with_reducible refine(HDF.o _ (zB _ _)).mono ?_);rintro ev w4 hdp;obtain⟨hb4,A,ys,cc,er,rfl,hrow,hle,hto,hans⟩:=qK4 hdp HSH.o;have HB4:=Hh hb4;have HDR:=Hh hrow;have HLE:=Hh hle;have HTO:=Hh hto;have HDA:=Hh hans;clear hb4 hrow hto hans hdp))
        | fail)
      go_meet
      case rel=>exact⟨_,_,_,rfl,HB4.o,HDR.o,HLE.o,HTO.o,HDA.o⟩
     case rest =>
      obtain⟨A,ys,cc,rfl,hb4,hrow,hle,hto,hans⟩:=hcut;have HB4:=Hh hb4;have HDR:=Hh hrow;have HTO:=Hh hto;have HDA:=Hh hans;clear hb4 hrow hto hans hs0 HSB HDF HSH HNA HNB HNA2 HXA HXA2 HXC HBD;obtain⟨i0,hi,hz0,hz1,hz2⟩:=pO;have Hi:=Hh hi;have Hz0:=Hh hz0;have Hz1:=Hh hz1;have Hz2:=Hh hz2;clear hi hz0 hz1 hz2;go_wp2_with fail
      go_loopw [10,49] (fun a a2 wr=>∃ (j:Nat) (A2:Option Addr) (c2:Nat),a=.slice A2 j c2∧a2=.int .i64 j∧j≤ys.length∧Hg (Below wc.heap.size wc wr)∧Hg (wr.ownsRow wc.heap.size 9 1 (.slice A2 j c2) j (((ys.map CX.told).take j).map encStr))) (fun _ a _=>ys.length-(intOf a).toNat)
      case atStart=>exact⟨0,none,0,rfl,rfl,zw _,Hh (zB _ _),Hh (zF1 _ _ _ _)⟩
      case round =>
       obtain⟨j,A2,c2,rfl,rfl,hj,HBJ,HOJ⟩:=hrel;by_cases hlt:j<ys.length
       ·obtain⟨gy,rfl,hgy,k0,k1,k2,k3,k4,k5⟩:=(HDR.o.later HBJ.o).at hlt;have i1:(j:Int)<(ys.length:Int):=by omega
        have i2:(0:Int)≤(j:Int):=by omega
        go_upto_region 12 with fail;have HO2:=Hh (HOJ.o.alloc (.cells #[.string ⟨ys[j].kind.toArray⟩,.string ⟨ys[j].path.toArray⟩,.string ys[j].t0,.string ys[j].t1,.bool ys[j].t2,.slice ys[j].t3 ys[j].t4 ys[j].t5] 141));have HB5:=Hh (HBJ.o.alloc HBJ.o.size (.cells #[.string ⟨ys[j].kind.toArray⟩,.string ⟨ys[j].path.toArray⟩,.string ys[j].t0,.string ys[j].t1,.bool ys[j].t2,.slice ys[j].t3 ys[j].t4 ys[j].t5] 141));have HTL:=Hh (HTO.o _ (zO hlt));have HTK:=Hh (show (((ys.map CX.told).take (j+1)).map encStr)=(((ys.map CX.told).take j).map encStr)++[encStr (ys[j].told)] by
         rw[zn (by simpa using hlt),zU,List.getElem_map]
         rfl)
        have htl:ys[j].kind.length+(ys[j].path.length+1)≤3000:=by simpa[CX.told] using HTL.o
        have s1:¬ 9223372036854775807<ys[j].kind.length+1:=by omega
        have s2:¬ 9223372036854775807<ys[j].kind.length+1+ys[j].path.length:=by omega
        have s3:ByteArray.mk ys[j].kind.toArray++ByteArray.mk #[58]++ByteArray.mk ys[j].path.toArray=ByteArray.mk ys[j].told.toArray:=by
         rw[show ByteArray.mk ys[j].kind.toArray++ByteArray.mk #[58]=ByteArray.mk (ys[j].kind++[58]).toArray from ByteArray.mk_append_mk ys[j].kind [58],ByteArray.mk_append_mk];simp[CX.told]
        have HO3:=Hh (HO2.o.alloc (.cells #[.string ⟨ys[j].told.toArray⟩] 9));have HB6:=Hh (HB5.o.alloc HB5.o.size (.cells #[.string ⟨ys[j].told.toArray⟩] 9));have HLC:=Hh (show ∀ ad,(some ⟨wr.heap.size+1,0,none⟩:Option Addr)=some ad→∀ (q:Nat) u,[Value.string ⟨ys[j].told.toArray⟩][q]?=some u→((wr.alloc (.cells #[.string ⟨ys[j].kind.toArray⟩,.string ⟨ys[j].path.toArray⟩,.string ys[j].t0,.string ys[j].t1,.bool ys[j].t2,.slice ys[j].t3 ys[j].t4 ys[j].t5] 141)).alloc (.cells #[.string ⟨ys[j].told.toArray⟩] 9)).cell? (ad.add q)=some u by
         rw[show wr.heap.size+1=(wr.alloc (.cells #[.string ⟨ys[j].kind.toArray⟩,.string ⟨ys[j].path.toArray⟩,.string ys[j].t0,.string ys[j].t1,.bool ys[j].t2,.slice ys[j].t3 ys[j].t4 ys[j].t5] 141)).heap.size by simp]
         exact jD _ _ _)
        clear k0 k1 k2 k3 k4 k5;go_wp2_with (at_builtin;refine Stl.wpList_app _ rfl _ _ 22 rfl wc.heap.size 9 i0 (.string ByteArray.empty) 1 16 Tryz.underlying22 Hi.o Hz0.o Hz1.o Hz2.o rfl (by decide) (.slice A2 j c2) j _ rfl HO3.o (some ⟨wr.heap.size+1,0,none⟩) 1 1 [.string ⟨ys[j].told.toArray⟩] rfl rfl (fun h=>by cases h) HLC.o (by simp[Value.oneCell']) (by unfold maxLen;omega) (by omega) HB6.o.size ?_;intro A7 c7 w7 hown7 hgr7 hat7;have HO7:=Hh hown7;have HB7:=Hh (HB6.o.grown hgr7 HB6.o.size (fun k hk=>(HO3.o.lt k hk).1));clear hown7 hgr7 hat7);go_roundw
        case rel=>exact⟨j+1,A7,c7,rfl,by go_num,by omega,HB7,Hh (by rw[HTK.o];exact HO7.o)⟩
        case measure=>simp[intOf];omega
       ·have hje:j=ys.length:=by omega
        subst hje;have i1:¬ (ys.length:Int)<(ys.length:Int):=by omega
        have hoj:wr.ownsRow wc.heap.size 9 1 (.slice A2 (ys.map CX.told).length c2) (ys.map CX.told).length ((ys.map CX.told).map encStr):=by
         have:=HOJ.o;rw[zm (by simp)] at this;rw[zT];exact this
        have hjl:=kB 3000 (ys.map CX.told) (fun z hz=>by obtain⟨y,hy,rfl⟩:=zb.1 hz;exact HTO.o y hy);have hjm:(ys.map CX.told).length*(3000+1)≤1000*3001:=Nat.mul_le_mul_right _ (by rw[zT];exact hle);have HJN:=Hh (yE (jS hoj) (yG hoj) (by rw[zT];omega) (by omega));rw[zT] at HJN;clear hoj hjl hjm;go_wp2_with (go_at_call 61;((with_reducible refine HJN.o.mono ?_);rintro ev w5 ⟨rfl,hb5⟩;have HB5:=Hh (HBW.o.trans ((HB4.o.trans ((HBJ.o.trans (hb5.mono HBJ.o.size)).mono HB4.o.size)).mono HBW.o.size));clear hb5));go_ret2;rw[HRA.o]
        rcases HDA.o with ⟨cd,hde,hcd,he⟩ | ⟨hde,he⟩
        ·rw[hde];exact⟨_,_,rfl,HB5.o,he,hcd⟩
        ·rw[hde];exact⟨_,_,rfl,HB5.o,he,rfl⟩
end
end Go.Proofs.YtbmkaekimccdgaaGreatDoor
