/- Lemmas. -/
import Derived.Test.YtbmkaekimccdgaaGreatDoorBm07
import Derived.Test.YtbmkaekimccdgaaGreatDoorBm32
set_option maxHeartbeats 16000000
set_option maxRecDepth 1000000
set_option linter.all false
namespace Go.Proofs.YtbmkaekimccdgaaGreatDoor
open Go.RowKit Go.Sort Go.Shelf Stl
theorem qMD (A:Option Addr)(n c n' c':Nat):(Value.slice A n c).ownBlock=(Value.slice A n' c').ownBlock:=by cases A<;>rfl
def rootOf (s:Sto)(rest:List UInt8):Except Nat (List UInt8×Sto) :=
 if (s.find rest).isNone then .error 6 else if s.roots.contains rest then .error 7 else .ok (bOk,{ s with roots:=ins rest s.roots })
def uB (s:Sto)(rest:List UInt8):Except Nat (List UInt8×Sto) :=
 if s.roots.contains rest then .ok (bOk,{ s with roots:=s.roots.filter fun x=>x != rest }) else .error 6
section
variable {w:World}{A:Option Addr}{zs:List PkX}{c:Nat→Col}{b:Nat}{s:Sto}{bd:Nat}{cap:Nat}{R:Option Addr}{rc tp:Nat}{p:Nat→Addr}
theorem qLC (h:StoX w c b s bd A cap zs R rc tp)(hg:vB s)(hE:Env w c p)(rest:List UInt8) :
  Calls Tryz.prog 74 #[.pointer (some ⟨b,0,none⟩),.string ⟨rest.toArray⟩] w (ChPost p w c b tp (rootOf s rest)):=by
 have hfew:=h.few hg.ok;have hrl:=pJ hg.ok;have HFD:=Hh (gR h (by omega) rest);have H:=Hh h;have HG:=Hh hg;have HE:=Hh hE;have hcn:s.roots.contains rest=decide (rest∈s.roots):=by simp[List.contains_iff_mem]
 have HRO:=Hh (show rootOf s rest=if (s.find rest).isNone then .error 6 else if rest∈s.roots then .error 7 else .ok (bOk,{ s with roots:=ins rest s.roots }) by unfold rootOf;rw[hcn];simp);generalize rootOf s rest=res at HRO ⊢;clear h hg hE hcn;go_enter Tryz.func74,Tryz.ntmps74;go_upto_region 1 with fail
 cases hf:s.find rest with
 | none =>
  have HRS:=Hh (show res=.error 6 by rw[HRO.o,hf];rfl);have HF:=Hh hf;clear hf;go_upto_region 2 with (go_at_call 97;refine HFD.o.mono ?_;rintro ev w1 ⟨⟨i,rfl,hi⟩,hb1⟩;have hneg:=(hi.none_ H.o.eq).1 HF.o;have HB1:=Hh hb1;clear hb1 hi);have hg:w1.cell? ⟨5,0,none⟩=some (.iface 376 (.pointer (some (p 6)))):=((HE.o.errs.later HB1.o).cell 6 (by decide) (by decide)).trans (by rw[qD p (by decide)]);go_quiet (fail);go_wp2;go_ret2;rw[HRS.o];exact⟨_,_,c,rfl,Ext.of_below (Below.drewN HB1.o _) c mU,by rw[qD p (by decide)];rfl,by decide⟩
 | some pk =>
  have HRO2:=Hh (show res=if rest∈s.roots then .error 7 else .ok (bOk,{ s with roots:=ins rest s.roots }) by rw[HRO.o,hf];rfl);have HF:=Hh hf;clear hf;go_upto_region 3 with (go_at_call 97;refine HFD.o.mono ?_;rintro ev w1 ⟨⟨i,rfl,hi⟩,hb1⟩;obtain⟨ki,hki,rfl,_⟩:=hi.some_ H.o.eq HG.o.ok.pks.names HF.o;have HB1:=Hh hb1;clear hb1 hi);have HX1:=Hh (H.o.below HB1.o);have c2:=ce2 HX1.o.own;have HSE:=Hh (qDD (vF HX1.o.roots.1) HG.o.ok.rise (by omega) rest);have hpl:=qD1 rest s.roots;by_cases hin:rest∈s.roots
  ·have HRS:=Hh (show res=.error 7 by rw[HRO2.o,zM1 hin]);rw[show decide (rest∈s.roots)=true by simpa using hin] at HSE;clear hin;go_upto_region 5 with (go_at_call 123;refine HSE.o.mono ?_;rintro ev w2 ⟨rfl,hb2⟩;have HB2:=Hh (HB1.o.trans (hb2.mono HB1.o.size));clear hb2);have hg:w2.cell? ⟨6,0,none⟩=some (.iface 376 (.pointer (some (p 7)))):=((HE.o.errs.later HB2.o).cell 7 (by decide) (by decide)).trans (by rw[qD p (by decide)]);clear c2;go_quiet (fail);go_wp2;go_ret2;rw[HRS.o];exact⟨_,_,c,rfl,Ext.of_below (Below.drewN HB2.o _) c mU,by rw[qD p (by decide)];rfl,by decide⟩
  ·have HRS:=Hh (show res=.ok (bOk,{ s with roots:=ins rest s.roots }) by rw[HRO2.o,zL1 hin]);have HIN:=Hh (qFS rest s.roots hin);rw[show decide (rest∈s.roots)=false by simpa using hin] at HSE;clear hin;go_upto_region 6 with (go_at_call 123;refine HSE.o.mono ?_;rintro ev w2 ⟨rfl,hb2⟩;have HB2:=Hh (HB1.o.trans (hb2.mono HB1.o.size));clear hb2);clear c2;have HX2:=Hh (H.o.below HB2.o);have c2:=ce2 HX2.o.own;have hb3:=(zB w2.heap.size w2).alloc (zo _) (.cells #[.string ⟨rest.toArray⟩] 9);have HX3:=Hh (HX2.o.below hb3);have HB3:=Hh (HB2.o.trans (hb3.mono HB2.o.size));have HINS:=Hh (qIs HX3.o.roots.1 (zw _) (by omega) (place rest s.roots) hpl rest w2.heap.size (zK1 w2 (.cells #[.string ⟨rest.toArray⟩] 9)) (fun g hg e=>by
    have:=(HX2.o.roots.1.lt g (by rw[hg];rfl)).2
    omega))
   rw[← HIN.o] at HINS;generalize hins:ins rest s.roots=rs at HINS HRS;clear hb3 hins;go_upto_region 7 with (go_at_call 124;refine HINS.o.mono ?_;rintro ev w4 ⟨R4,rc4,row,rfl,hr4,hg4,hrow,hR4⟩;have HR4:=Hh hr4;have HG4:=Hh hg4;have HROW:=Hh hrow;have HRN:=Hh hR4;have hbk:=(hg4.block b (qA HX3.o.own) (fun e=>by { have h1:=hrow b e.symm;have h2:=HX3.o.roots.2 b (by rw[h1];rfl);rw[HX3.o.col] at h2;cases h2 })).trans HX3.o.own;have d2:w4.cell? ⟨b,2,none⟩=some (.slice R s.roots.length rc):=zJ1 w4 b 2 _ _ _ hbk;have f2:=qC hbk 2;clear hr4 hg4 hrow hR4 hbk);obtain⟨w3,hw3⟩:∃ w3,w3=w2.alloc (.cells #[.string ⟨rest.toArray⟩] 9):=⟨_,rfl⟩;rw[← hw3] at HX3 HB3 HG4 HRN;obtain⟨c4,hc4⟩:∃ c4:Nat→Col,c4=fun k=>if k<w3.heap.size then c k else .roots:=⟨_,rfl⟩
   have e4:Ext w3 w4 c c4 (S1 .roots):=((Ext.refl w3 c (S1 .roots)).grown HG4.o (fun k hk _=>by
    have h1:=HROW.o k hk
    rw[HX3.o.roots.2 k (by rw[h1];rfl)]
    rfl)).recolor fun k hk _=>by rw[hc4];exact zM1 hk
   have hra:RowAt w4 c4 .roots 9 1 (.slice R4 rs.length rc4) rs.length (rs.map encStr):=RowAt.of_owns HR4.o (fun k hk=>by
    rw[hc4]
    show (if k<w3.heap.size then c k else Col.roots)=_
    rcases HRN.o with h1 | ⟨g,h1,h2⟩
    ·have h5:(Value.slice R s.roots.length rc).ownBlock=some k:=by rw[← h1,qMD R4 _ _ rs.length rc4];exact hk
     have h3:=HX3.o.roots.1.lt k h5
     rw[zM1 h3.2]
     exact HX3.o.roots.2 k h5
    ·rw[h1] at hk
     have:g=k:=by simpa[Value.ownBlock] using hk
     rw[zL1 (by omega)])
   obtain⟨p1,p2⟩:=HX3.o.reroots e4 hra;have HP1:=Hh p1;have HP2:=Hh p2;have HE4:=Hh e4;clear c2 hc4 e4 hra p1 p2 hw3;go_wp2;go_ret2;rw[HRS.o];refine⟨_,_,c4,rfl,?_,rfl,rfl,HP1.o.shut⟩;exact(((Ext.of_below HB3.o c mU).then HE4.o (jP rfl))).then HP2.o (jP rfl)
theorem qIM (h:StoX w c b s bd A cap zs R rc tp)(hg:vB s)(hE:Env w c p)(rest:List UInt8) :
  Calls Tryz.prog 75 #[.pointer (some ⟨b,0,none⟩),.string ⟨rest.toArray⟩] w (ChPost p w c b tp (uB s rest)):=by
 have hrl:=pJ hg.ok;have H:=Hh h;have HE:=Hh hE;have hcn:s.roots.contains rest=decide (rest∈s.roots):=by simp
 have HRO:=Hh (show uB s rest=if rest∈s.roots then .ok (bOk,{ s with roots:=s.roots.filter fun x=>x != rest }) else .error 6 by unfold uB;rw[hcn];simp);generalize uB s rest=res at HRO ⊢;have HSE:=Hh (qDD (vF h.roots.1) hg.ok.rise (by omega) rest);have HPI:=Hh (qDX rest s.roots hg.ok.rise);have HND:=Hh (qBA hg.ok.rise);have c2:=ce2 h.own;clear h hg hE hcn;go_enter Tryz.func75,Tryz.ntmps75;go_upto_region 1 with fail;by_cases hin:rest∈s.roots
 ·have hpk:=HPI.o.1 hin;have hpl:=(zM.1 hpk).1;have hpe:s.roots[place rest s.roots]=rest:=(zM.1 hpk).2;have HRS:=Hh (show res=.ok (bOk,{ s with roots:=s.roots.eraseIdx (place rest s.roots) }) by
   rw[HRO.o,zM1 hin,erase_filter (fun x=>x) hpl (by simpa using HND.o),hpe])
  rw[show decide (rest∈s.roots)=true by simpa using hin] at HSE;have hle:(s.roots.eraseIdx (place rest s.roots)).length=s.roots.length-1:=List.length_eraseIdx_of_lt hpl;have HLE:=Hh hle;clear hin hpk hpe hle;generalize place rest s.roots=k at *;go_upto_region 4 with (go_at_call 123;refine HSE.o.mono ?_;rintro ev w2 ⟨rfl,hb2⟩;have HB2:=Hh hb2;clear hb2);clear c2;have HX2:=Hh (H.o.below HB2.o);have hap:∃ g,R=some ⟨g,0,none⟩:=by
   rcases nQ HX2.o.roots.1 with ⟨_,h1,_⟩ | h1
   ·rw[h1] at hpl;simp at hpl
   ·exact h1
  obtain⟨g,rfl⟩:=hap;have c2:=ce2 HX2.o.own;have hgc:c g=.roots:=HX2.o.roots.2 g rfl;have hbne:b≠g:=qCS HX2.o.col hgc (by decide);have HDL:=Hh (qH4 HX2.o.roots.1 k hpl);have k3:IntKind.i64.wrap ((k:Int)+1)=(k:Int)+1:=wrap_i64 (by omega) (by omega);go_upto_region 5 with (go_at_call 125;refine HDL.o.mono ?_;rintro ev w4 ⟨rfl,hr4,hg4⟩;have HR4:=Hh hr4;have HG4:=Hh hg4;have hbk:=(hg4.block b (qA HX2.o.own) (fun e=>by { injection e with e;exact hbne e })).trans HX2.o.own;have d2:w4.cell? ⟨b,2,none⟩=some (.slice (some ⟨g,0,none⟩) s.roots.length rc):=zJ1 w4 b 2 _ _ _ hbk;have f2:=qC hbk 2;clear hr4 hg4 hbk);have e4:Ext w2 w4 c c (S1 .roots):=(Ext.refl w2 c (S1 .roots)).grown HG4.o (fun k hk _=>by injection hk with hk;rw[← hk,hgc];rfl);obtain⟨p1,p2⟩:=HX2.o.reroots e4 (R':=some ⟨g,0,none⟩) (rc':=rc) (roots':=s.roots.eraseIdx k) (by rw[HLE.o];exact RowAt.of_owns HR4.o (fun k hk=>HX2.o.roots.2 k hk));rw[HLE.o] at p1 p2;have HP1:=Hh p1;have HP2:=Hh p2;have HE4:=Hh e4;clear c2 e4 p1 p2;go_wp2;go_ret2;rw[HRS.o];refine⟨_,_,c,rfl,?_,rfl,rfl,HP1.o.shut⟩;exact(((Ext.of_below HB2.o c mU).then HE4.o (jP rfl))).then HP2.o (jP rfl)
 ·have HRS:=Hh (show res=.error 6 by rw[HRO.o,zL1 hin]);rw[show decide (rest∈s.roots)=false by simpa using hin] at HSE;clear hin;go_upto_region 3 with (go_at_call 123;refine HSE.o.mono ?_;rintro ev w2 ⟨rfl,hb2⟩;have HB2:=Hh hb2;clear hb2);have hg:w2.cell? ⟨5,0,none⟩=some (.iface 376 (.pointer (some (p 6)))):=((HE.o.errs.later HB2.o).cell 6 (by decide) (by decide)).trans (by rw[qD p (by decide)]);clear c2;go_quiet (fail);go_wp2;go_ret2;rw[HRS.o];exact⟨_,_,c,rfl,Ext.of_below (Below.drewN HB2.o _) c mU,by rw[qD p (by decide)];rfl,by decide⟩
end
end Go.Proofs.YtbmkaekimccdgaaGreatDoor
namespace Go.Proofs.YtbmkaekimccdgaaGreatDoor
open Go.RowKit Go.Maps Go.Sort Go.Shelf Stl
def gH (l:List It):Nat:=((l.filter fun x=>x.n.kind==kFile).map fun x=>jL x.n.data.length).sum
theorem qAC (a b:List It):gH (a++b)=gH a+gH b:=by simp[gH]
theorem qDv (x:It)(h:x.n.kind=kFile):gH [x]=jL x.n.data.length:=by simp[gH,h]
theorem qC0 (x:It)(h:x.n.kind≠kFile):gH [x]=0:=by simp[gH,h]
theorem qHO:∀ (l:List It),(∀ x∈l,x.n.data.length≤2000)→gH l≤126*l.length
 | [],_=>by simp[gH]
 | x::r,h=>by
  have ih:=qHO r (fun y hy=>h y (by simp[hy]));have hx:=h x (by simp);rw[show x::r=[x]++r from rfl,qAC];have:gH [x]≤126:=by
   by_cases hk:x.n.kind=kFile
   ·rw[qDv x hk];unfold jL;omega
   ·rw[qC0 x hk];omega
  simp;omega
theorem qKa (n:Nd):wX n=gH (items n):=rfl
structure CSt (w0 W:World)(b5:Nat)(pre:List It):Prop where
 o:W.heap[b5]?=some (.cells #[.int .i64 (gH pre)] 3 (0,0))
 old:w0.heap.size≤b5
 below:Below w0.heap.size w0 W
theorem CSt.later {w0 W W':World}{b5:Nat}{pre:List It}(h:CSt w0 W b5 pre)(hb:Below W.heap.size W W'):CSt w0 W' b5 pre :=
 ⟨(hb.block _ (zN1 h.o)).trans h.o,h.old,h.below.trans (hb.mono h.below.size)⟩
theorem CSt.add {w0 W W':World}{b5 m:Nat}{pre:List It}{x:It}(h:CSt w0 W b5 pre)(hb:Below W.heap.size W W')(hm:gH [x]=m) :
  CSt w0 (W'.setCell ⟨b5,0,none⟩ (.int .i64 ((gH pre:Nat)+(m:Nat):Int))) b5 (pre++[x])∧NKeep W (W'.setCell ⟨b5,0,none⟩ (.int .i64 ((gH pre:Nat)+(m:Nat):Int))):=by
 have h1:=h.later hb;refine⟨⟨?_,h.old,h1.below.setCell h.old _⟩,?_⟩
 ·rw[one_setCell h1.o,qAC,hm];rfl
 ·intro k cs T fr hk h2 h3;rw[zA _ _ _ _ (by
   rintro rfl
   rw[h.o] at hk
   injection hk with hk
   injection hk with _ hk
   exact h3.2 hk.symm)]
  exact(hb.block _ (zN1 hk)).trans hk
theorem qKH {w0 W:World}{b5:Nat}{pre:List It}(x:It)(vs:List Value)(path:List UInt8)(h:CSt w0 W b5 pre)(W0:World)(hn:NodeAt W0 x.n vs)(hp:gH pre≤1000000)(hd:x.n.data.length≤2000) :
  Calls Tryz.prog 237 (#[.agg vs.toArray,.string ⟨path.toArray⟩]++#[.pointer (some ⟨b5,0,none⟩)]) W (dA (fun l W'=>CSt w0 W' b5 l) (pre++[x]) W):=by
 obtain⟨p',deep,n⟩:=x;obtain⟨k,d,e,ks⟩:=n;obtain⟨A,c,rfl,_,_⟩:=hn.open;have HS:=Hh h;have hb1:Below W.heap.size W (W.alloc (.cells #[.string ⟨k.toArray⟩,.string ⟨d.toArray⟩,.bool e,.slice A ks.length c] 134)):=(zB _ W).alloc (zo _) _;have HS1:=Hh (h.later hb1);have HB:=Hh hb1;simp only[Stl.Nd.data] at hd;clear h hn hb1
 rcases (show (k=kFile∧(k==[102,105,108,101])=true)∨(k≠kFile∧(k==[102,105,108,101])=false) from by
   by_cases h:k=kFile
   ·exact .inl ⟨h,by subst h;decide⟩
   ·exact .inr ⟨h,by simpa[kFile] using h⟩) with ⟨hk,hk'⟩ | ⟨hk,hk'⟩
 ·have HM:=Hh (qDv ⟨p',deep,.mk k d e ks⟩ hk);have HBX:=Hh (zK1 W (.cells #[.string ⟨k.toArray⟩,.string ⟨d.toArray⟩,.bool e,.slice A ks.length c] 134));clear hk;go_enter Tryz.func237,Tryz.ntmps237;go_upto_region 2 with fail;generalize W.alloc (.cells #[.string ⟨k.toArray⟩,.string ⟨d.toArray⟩,.bool e,.slice A ks.length c] 134)=W1 at *;have c5:=cell_of_one HS1.o.o;have f5:=free_of_one HS1.o.o;have d1:=ce1 HBX.o;have HND:=Hh (qHK d.length (by omega));have HNB:=Hh (show jL d.length≤126 by unfold jL;omega);generalize hm:jL d.length=m at HND HNB;have hw:IntKind.i64.wrap (((gH pre:Nat):Int)+(m:Int))=((gH pre:Nat):Int)+(m:Int):=wrap_i64 (by omega) (by have:=HNB.o;omega)
  go_region_with (go_at_call 238;refine(HND.o _).mono ?_;rintro ev wz ⟨rfl,rfl⟩)
  all_goals
   have HF:=Hh (HS1.o.add (x:=⟨p',deep,.mk k d e ks⟩) (W':=W1.drew) ⟨rfl,rfl,rfl,zo _,fun _ _=>rfl⟩ (HM.o.trans hm));clear c5 f5 d1 hw hm;go_wp2;go_end0;exact⟨rfl,HF.o.1,(NKeep.of_below HB.o).trans HF.o.2⟩
 ·have HM:=Hh (qC0 ⟨p',deep,.mk k d e ks⟩ hk);clear hk;go_enter Tryz.func237,Tryz.ntmps237;go_wp2;go_end0;refine⟨rfl,?_,NKeep.of_below HB.o⟩;obtain⟨q2,q3,q4⟩:=HS1.o;exact⟨by rw[qAC,HM.o,Nat.add_zero];exact q2,q3,q4⟩
theorem qFb:∀ args w,(callFunc 237 args).run Tryz.prog w=.ok (.enter 237 args) w:=enters_of Tryz.func237 (by kernel_rfl) rfl
theorem qEY (p:Nat→Addr)(n:Nd)(vs:List Value)(w:World)(hE:Errs w p)(hn:NodeAt w n vs) :
  Calls Tryz.prog 175 #[.agg vs.toArray] w fun ev w'=>ev=.returned (.int .i64 (wX n:Nat))∧Below w.heap.size w w':=by
 have HR:=Hh (qKa n);generalize wX n=res at HR ⊢;have HE:=Hh hE;have HN:=Hh hn;obtain⟨k,d,e,ks⟩:=n;obtain⟨A,c,rfl,_,_⟩:=hn.open;clear hE hn;have hbl:Below w.heap.size w ((w.alloc (.cells #[.string ⟨k.toArray⟩,.string ⟨d.toArray⟩,.bool e,.slice A ks.length c] 134)).alloc (.cells #[.int .i64 0] 3)):=((zB _ w).alloc (zo _) _).alloc (by simp) _;have k2:((w.alloc (.cells #[.string ⟨k.toArray⟩,.string ⟨d.toArray⟩,.bool e,.slice A ks.length c] 134)).alloc (.cells #[.int .i64 0] 3)).heap[w.heap.size+1]?=some (.cells #[.int .i64 0] 3 (0,0)):=by
  have:=zK1 (w.alloc (.cells #[.string ⟨k.toArray⟩,.string ⟨d.toArray⟩,.bool e,.slice A ks.length c] 134)) (.cells #[.int .i64 0] 3);simpa using this
 have h0:CSt w ((w.alloc (.cells #[.string ⟨k.toArray⟩,.string ⟨d.toArray⟩,.bool e,.slice A ks.length c] 134)).alloc (.cells #[.int .i64 0] 3)) (w.heap.size+1) [] :=
  ⟨k2,by omega,hbl⟩
 have h:=pE p w HE.o (.mk k d e ks) _ HN.o 237 #[.pointer (some ⟨w.heap.size+1,0,none⟩)] qFb
  (fun l W=>CSt w W (w.heap.size+1) l) (fun pre W W' h hb=>h.later hb) (fun pre W h=>h.below)
  (fun ht pre x W vs hI hnx hr=>by
   obtain⟨i1,i2⟩:=items_well ht
   obtain⟨rest,hr⟩:=hr
   have hx:∀ y∈pre++[x],y.n.data.length≤2000:=fun y hy=>Stl.own_data (i2 y (by rw[← hr];simp at hy ⊢;rcases hy with hy | hy<;>simp[hy])).1
   have hlen:pre.length≤200:=by
    have:=congrArg List.length hr
    simp at this
    omega
   have:=qHO pre (fun y hy=>hx y (by simp[hy]))
   exact qKH x vs _ hI w hnx (by omega) (hx x (by simp))) _ h0
 have HH:=Hh h;clear h h0 k2 hbl;go_enter Tryz.func175,Tryz.ntmps175;go_upto_region 3 with (go_at_call 106;refine HH.o.mono ?_;rintro ev w2 ⟨rfl,hI,_⟩;have HB2:=Hh hI.below;have c5:=cell_of_one hI.o;clear hI);rw[← HR.o] at c5;go_wp2;go_ret;exact⟨rfl,HB2.o⟩
end Go.Proofs.YtbmkaekimccdgaaGreatDoor
