/- Lemmas. -/
import Derived.Test.YtbmkaekimccdgaaGreatDoorBm04
import Derived.Test.YtbmkaekimccdgaaGreatDoorBm13
set_option maxHeartbeats 16000000
set_option maxRecDepth 1000000
set_option linter.all false
namespace Stl
mutual
def wt:Nd→Nat
 | .mk _ _ _ ks=>wtL ks+1
def wtL:List (List UInt8×Nd)→Nat
 | []=>0
 | (_,x)::r=>wt x+wtL r
end
theorem wt_mem:∀ (ks:List (List UInt8×Nd)) (j:Nat) (h:j<ks.length),wt ks[j].2≤wtL ks
 | [],_,h=>by simp at h
 | (_,x)::r,0,_=>by simp[wtL]
 | (_,x)::r,j+1,h=>by
  have:=wt_mem r j (by simpa using h);simp only[List.getElem_cons_succ,wtL];omega
end Stl
namespace Go.Proofs.YtbmkaekimccdgaaGreatDoor
open Go.RowKit
theorem NodeAt.open {w:World}{k d:List UInt8}{e:Bool}{ks:List (List UInt8×Stl.Nd)}{vs:List Value}(h:NodeAt w (.mk k d e ks) vs) :
  ∃ A c,vs=[.string ⟨k.toArray⟩,.string ⟨d.toArray⟩,.bool e,.slice A ks.length c]∧(ks.length≤c∧ks.length≤140737488355328∧k.length≤140737488355328∧d.length≤140737488355328)∧KidsOf w A ks:=by
 unfold NodeAt at h;obtain⟨A,c,h1,⟨h2,h3,h4,h5⟩,h6⟩:=h;exact⟨A,c,h1,⟨h2,by omega,h4,h5⟩,h6⟩
structure ChkW (w wx:World)(cb cnt:Nat)(v0 v1 v2 v3:Value):Prop where
 cnt:wx.heap[cb]?=some (.cells #[.int .i64 cnt] 240 (0,0))
 box:wx.heap[w.heap.size]?=some (.cells #[v0,v1,v2,v3] 134 (0,0))
 grown:w.grownBy wx (some cb)
 lt:cb<w.heap.size
theorem qAr {a b c:World}{r:Option Nat}(h:a.grownBy b r)(k:b.grownBy c r):a.grownBy c r :=
 ⟨k.os.trans h.os,k.tape.trans h.tape,k.output.trans h.output,zq h.size k.size,fun i hi hne=>(k.block i (zt hi h.size) hne).trans (h.block i hi hne)⟩
theorem qAo {a b:World}{cb:Nat}(h:a.grownBy b (some cb)){B:Nat}(h1:B≤cb)(h2:B≤a.heap.size):Below B a b :=
 ⟨h.os,h.tape,h.output,h.size,fun k hk=>h.block k (by omega) (fun e=>by injection e with e;omega)⟩
theorem ChkW.later {w wx wy:World}{cb cnt:Nat}{v0 v1 v2 v3:Value}(h:ChkW w wx cb cnt v0 v1 v2 v3)(hb:Below wx.heap.size wx wy):ChkW w wy cb cnt v0 v1 v2 v3 :=
 ⟨(hb.block _ (zN1 h.cnt)).trans h.cnt,(hb.block _ (zN1 h.box)).trans h.box,qAr h.grown (Below.toGrown hb _),h.lt⟩
theorem ChkW.step {w wx wy:World}{cb cnt cnt':Nat}{v0 v1 v2 v3:Value}(h:ChkW w wx cb cnt v0 v1 v2 v3)(hc:wy.heap[cb]?=some (.cells #[.int .i64 cnt'] 240 (0,0)))(hg:wx.grownBy wy (some cb)):ChkW w wy cb cnt' v0 v1 v2 v3 :=
 ⟨hc,(hg.block _ (zN1 h.box) (fun e=>by injection e with e;have:=h.lt;omega)).trans h.box,qAr h.grown hg,h.lt⟩
def qOI (p:Nat→Addr)(w:World)(cb:Nat)(r:Nat×Nat)(e:Ending)(w':World):Prop :=
 e=.returned (jK p r.1)∧w'.heap[cb]?=some (.cells #[.int .i64 r.2] 240 (0,0))∧w.grownBy w' (some cb)
theorem xB (p:Nat→Addr):jK p 0=.nilIface:=rfl
theorem qMc (k d:List UInt8)(e:Bool)(ks:List (List UInt8×Stl.Nd))(deep c:Nat):Stl.chk Stl.ownErr (.mk k d e ks) deep c=if 8<deep then (9,c+1) else if 200<c+1 then (8,c+1) else if Stl.ownErrP k d e (ks.map (·.1))=0 then Stl.chkL Stl.ownErr ks (deep+1) (c+1) else (Stl.ownErrP k d e (ks.map (·.1)),c+1):=by
 rw[Stl.chk];rfl
theorem qJX (p:Nat→Addr)(W0:World)(hE:Errs W0 p)(cb:Nat)(hcb:W0.heap.size≤cb):∀ (m:Nat) (n:Stl.Nd) (vs:List Value) (deep cnt:Nat) (w:World),Stl.wt n≤m→NodeAt W0 n vs→deep≤9→cnt≤200 →
  Below W0.heap.size W0 w→w.heap[cb]?=some (.cells #[.int .i64 cnt] 240 (0,0)) →
  Calls Tryz.prog 152 #[.pointer (some ⟨cb,0,none⟩),.agg vs.toArray,.int .i64 deep] w (qOI p w cb (Stl.chk Stl.ownErr n deep cnt)):=by
 intro m
 induction m with
 | zero =>
  intro n vs deep cnt w hm
  cases n
  simp[Stl.wt] at hm
 | succ m ih =>
  intro n vs deep cnt w hm hn hdeep hcnt hbw hcell;obtain⟨k,d,e,ks⟩:=n;obtain⟨A,c,rfl,⟨hc,hc2,hkl,hdl⟩,hk⟩:=hn.open;have HE:=Hh hE;have HK:=Hh hk;have HBW:=Hh hbw;have IH:=Hh ih;have HM:=Hh (show Stl.wtL ks≤m by simp only[Stl.wt] at hm;omega);have HR:=Hh (qMc k d e ks deep cnt);have HC:=Hh hcell;generalize Stl.chk Stl.ownErr (.mk k d e ks) deep cnt=r at HR;have hlt:cb<w.heap.size:=zN1 hcell;clear hE hk hbw ih hm hn hcell;have b1:(w.alloc (.cells #[.string ⟨k.toArray⟩,.string ⟨d.toArray⟩,.bool e,.slice A ks.length c] 134)).heap[cb]?=some (.cells #[.int .i64 cnt] 240 (0,0)):=qS _ _ HC.o;have c1:=cell_of_one b1;have f1:=free_of_one b1;have B1:=Hh b1;clear b1;go_enter Tryz.func152,Tryz.ntmps152;go_upto_region 1 with fail
  go_cut [] (fun wx=>ChkW w wx cb (cnt+1) (.string ⟨k.toArray⟩) (.string ⟨d.toArray⟩) (.bool e) (.slice A ks.length c))
  case first =>
   go_wp2;go_meet
   case rel =>
    refine⟨?_,?_,?_,hlt⟩
    ·refine qS _ _ ?_;rw[one_setCell HC.o];simp
    ·have:=zK1 (w.setCell ⟨cb,0,none⟩ (.int .i64 ((cnt:Int)+1))) (.cells #[.string ⟨k.toArray⟩,.string ⟨d.toArray⟩,.bool e,.slice A ks.length c] 134);simpa[World.setCell] using this
    ·exact qAr (b:=w.setCell ⟨cb,0,none⟩ (.int .i64 ((cnt:Int)+1))) ⟨rfl,rfl,rfl,by simp[World.setCell],fun i hi hne=>zA _ _ _ _ (fun e=>hne (by rw[e]))⟩ (World.grownBy_alloc _ _ _)
  case rest =>
   have HX:=Hh hcut;have hb1:=Hh (HBW.o.trans (qAo hcut.grown hcb HBW.o.size));have c0:=cell_of_one hcut.cnt;clear hcut c1 f1 hlt;by_cases hd8:8<deep
   ·have HF:=Hh (show r=(9,cnt+1) by rw[HR.o,zM1 hd8]);have i1:(8:Int)<(deep:Int):=by omega
    have g9:=((HE.o.later hb1.o).at_ 9 (by omega) (by omega)).1;unfold wA at g9;clear hd8;go_wp2;go_ret;rw[HF.o];exact⟨rfl,HX.o.cnt,HX.o.grown⟩
   have hr:=HR.o;rw[zL1 hd8] at hr;have i1:(deep:Int)≤8:=by omega
   clear HR;by_cases hc8:200<cnt+1
   ·have HF:=Hh (show r=(8,cnt+1) by rw[hr,zM1 hc8]);have i2:(200:Int)<(cnt:Int)+1:=by omega
    have i3:(200:Int)<((cnt+1:Nat):Int):=by omega
    have g8:=((HE.o.later hb1.o).at_ 8 (by omega) (by omega)).1;unfold wA at g8;clear hc8 hr;go_wp2;go_ret;rw[HF.o];exact⟨rfl,HX.o.cnt,HX.o.grown⟩
   rw[zL1 hc8] at hr;have i2:¬ (200:Int)<((cnt+1:Nat):Int):=by omega
   have i3:(cnt:Int)+1≤200:=by omega
   have HR:=Hh hr;have HC8:cnt+1≤200:=by omega
   obtain⟨d0,d1,d2,d3⟩:=cq HX.o.box;clear hr hd8 hc8;go_wp2_with fail;refine(qN8 k d e A c ks hc hc2 hdl _ p (HE.o.later hb1.o) (HK.o.later hb1.o)).mono ?_;rintro ev w2 ⟨rfl,hb⟩;have HX2:=Hh (HX.o.later hb);have hb2:=Hh (hb1.o.trans (hb.mono hb1.o.size));clear hb c0 d0 d1 d2 d3 HX;by_cases ho:Stl.ownErrP k d e (ks.map (·.1))=0
   case neg =>
    have HF:=Hh (show r=(Stl.ownErrP k d e (ks.map (·.1)),cnt+1) by rw[HR.o,zL1 ho]);have HO:=Hh (uA p _ ho);rw[HO.o];clear ho;go_wp2;go_ret;rw[HF.o];exact⟨by show _=Ending.returned (jK p (Stl.ownErrP k d e (ks.map (·.1))));rw[HO.o];rfl,HX2.o.cnt,HX2.o.grown⟩
   have hr:=HR.o;rw[zM1 ho] at hr;rw[ho,xB];clear HR ho;have HR:=Hh hr;clear hr;have d3:=ce3 HX2.o.box;go_wp2_with fail
   go_loopw [37] (fun a wr=>∃ (j q:Nat),j≤ks.length∧q≤200∧a=.int .i64 j∧Hg (ChkW w wr cb q (.string ⟨k.toArray⟩) (.string ⟨d.toArray⟩) (.bool e) (.slice A ks.length c))∧Hg (Stl.chkL Stl.ownErr (ks.drop j) (deep+1) q=r)) (fun a _=>ks.length-(intOf a).toNat)
   case atStart=>exact⟨0,cnt+1,zw _,HC8,rfl,Hh HX2.o,Hh (by rw[HR.o];rfl)⟩
   case round =>
    obtain⟨j,q,hj,hq,rfl,HX3,HP⟩:=hrel;clear d3;by_cases hjl:j<ks.length
    ·have i4:(j:Int)<(ks.length:Int):=by omega
     have i5:(0:Int)≤(j:Int):=by omega
     obtain⟨b,off,rfl,hbl,⟨k0,hl⟩,v0,v1,v2,v3,k1,k2,k3,k4,hkid⟩:=HK.o.at hjl;have HB3:=Hh (HBW.o.trans (qAo HX3.o.grown hcb HBW.o.size));have go:∀ (o:Nat) (v:Value),W0.cell? ⟨b,o,none⟩=some v→wr.cell? ⟨b,o,none⟩=some v:=fun o v hv=>(HB3.o.cell (p:=⟨b,o,none⟩) hbl).trans hv
     replace k0:=go _ _ k0
     replace k1:=go _ _ k1
     replace k2:=go _ _ k2
     replace k3:=go _ _ k3
     replace k4:=go _ _ k4
     have HW:=Hh (zq (Stl.wt_mem ks j hjl) HM.o);have HD:=Hh (show ks.drop j=ks[j]::ks.drop (j+1) from zF hjl);generalize ks[j]=kd at HW HD hkid k0 hl;obtain⟨nm,x⟩:=kd;simp only at hkid k0 hl;obtain⟨kx,dx,ex,ksx⟩:=x;obtain⟨A',c',e',_,_⟩:=hkid.open;simp only[zD,and_true] at e';obtain⟨rfl,rfl,rfl,rfl⟩:=e';have HKI:=Hh hkid;clear go hkid hl;have i6:(deep:Int)+1≤9:=by omega
     go_wp2_with fail;rw[show (deep:Int)+1=((deep+1:Nat):Int) by omega];have HX4:=Hh (HX3.o.later (Below.alloc (zB _ wr) (zo _) (.cells #[.string ⟨nm.toArray⟩,.string ⟨kx.toArray⟩,.string ⟨dx.toArray⟩,.bool ex,.slice A' ksx.length c'] 224)));refine(IH.o (.mk kx dx ex ksx) [.string ⟨kx.toArray⟩,.string ⟨dx.toArray⟩,.bool ex,.slice A' ksx.length c'] (deep+1) q _ HW.o HKI.o (by omega) hq (HB3.o.alloc HB3.o.size _) HX4.o.cnt).mono ?_;rintro ev w5 ⟨rfl,hcn,hgr⟩;have HX5:=Hh (HX4.o.step hcn hgr);clear hcn hgr k0 k1 k2 k3 k4;have hP:=HP.o;rw[HD.o,Stl.chkL] at hP;by_cases hz:(Stl.chk Stl.ownErr (.mk kx dx ex ksx) (deep+1) q).1=0
     ·rw[zM1 hz] at hP;have HP2:=Hh hP;have hq2:=Stl.chk_two_le Stl.ownErr (.mk kx dx ex ksx) (deep+1) q hz;rw[hz,xB];clear hz hP;generalize (Stl.chk Stl.ownErr (.mk kx dx ex ksx) (deep+1) q).2=q2 at HP2 hq2 HX5;go_wp2;go_roundw
      case rel=>exact⟨j+1,q2,hjl,hq2,by go_num,HX5,HP2⟩
      case measure=>simp[intOf];omega
     ·rw[zL1 hz] at hP;have HP2:=Hh hP;have HO:=Hh (uA p _ hz);rw[HO.o];clear hz hP;go_wp2;go_ret;rw[← HP2.o];exact⟨by rw[HO.o];rfl,HX5.o.cnt,HX5.o.grown⟩
    ·have i4:¬ (j:Int)<(ks.length:Int):=by omega
     have HF:=Hh (show r=(0,q) by
      have:=HP.o
      rw[zG (by omega),Stl.chkL] at this
      exact this.symm)
     go_wp2;go_ret;rw[HF.o];exact⟨rfl,HX3.o.cnt,HX3.o.grown⟩
theorem xV (p:Nat→Addr)(n:Stl.Nd)(vs:List Value)(w:World)(hE:Errs w p)(hn:NodeAt w n vs) :
  Calls Tryz.prog 99 #[.agg vs.toArray] w fun e w'=>e=.returned (jK p (Stl.treeErr n))∧Below w.heap.size w w':=by
 have HE:=Hh hE;have HN:=Hh hn;obtain⟨k,d,e,ks⟩:=n;obtain⟨A,c,rfl,_,_⟩:=hn.open;clear hE hn;have HT:Hg ((Stl.chk Stl.ownErr (.mk k d e ks) 0 0).1=Stl.treeErr (.mk k d e ks)):=Hh rfl;generalize Stl.treeErr (.mk k d e ks)=r at HT;go_enter Tryz.func99,Tryz.ntmps99;go_wp2_with fail;have hb:=((zB _ w).alloc (zo _) (.cells #[.string ⟨k.toArray⟩,.string ⟨d.toArray⟩,.bool e,.slice A ks.length c] 134)).alloc (by simp) (.cells #[.int .i64 0] 240);have hc:=zK1 (w.alloc (.cells #[.string ⟨k.toArray⟩,.string ⟨d.toArray⟩,.bool e,.slice A ks.length c] 134)) (.cells #[.int .i64 0] 240);have h:=qJX p w HE.o (w.heap.size+1) (by omega) _ (.mk k d e ks) _ 0 0 _ (zo _) HN.o (by omega) (by omega) hb (by simpa using hc);refine h.mono ?_;rintro ev w' ⟨rfl,h1,h2⟩;rw[HT.o];have HB:=Hh (hb.trans (qAo h2 (by omega) hb.size));clear h1 h2 h hc hb;obtain⟨v,hv⟩:∃ v,jK p r=v:=⟨_,rfl⟩;rw[hv];have HV:=Hh hv;clear hv;go_wp2;go_ret;exact⟨by rw[HV.o];rfl,HB.o⟩
end Go.Proofs.YtbmkaekimccdgaaGreatDoor
namespace Go.Proofs.YtbmkaekimccdgaaGreatDoor
open Go.RowKit
mutual
def NodeP (P:Nat→Prop)(w:World):Stl.Nd→List Value→Prop
 | .mk k d e ks,vs=>∃ A c,vs=[.string ⟨k.toArray⟩,.string ⟨d.toArray⟩,.bool e,.slice A ks.length c]∧(ks.length≤c∧ks.length≤1759218604441∧k.length≤140737488355328∧d.length≤140737488355328)∧(ks≠[]→∃ b off,A=some ⟨b,off,none⟩∧(b<w.heap.size∧P b)∧KidsP P w b off ks)
def KidsP (P:Nat→Prop)(w:World)(b:Nat):Nat→List (List UInt8×Stl.Nd)→Prop
 | _,[]=>True
 | off,(name,x)::r=>(w.cell? ⟨b,off,none⟩=some (.string ⟨name.toArray⟩)∧name.length≤140737488355328) ∧
   (∃ v0 v1 v2 v3,w.cell? ⟨b,off+1,none⟩=some v0∧w.cell? ⟨b,off+2,none⟩=some v1∧w.cell? ⟨b,off+3,none⟩=some v2∧w.cell? ⟨b,off+4,none⟩=some v3∧NodeP P w x [v0,v1,v2,v3])∧KidsP P w b (off+5) r
end
mutual
theorem NodeP.at {P:Nat→Prop}{w:World}:∀ (n:Stl.Nd) (vs:List Value),NodeP P w n vs→NodeAt w n vs
 | .mk k d e ks,vs,h=>by
  unfold NodeP at h;unfold NodeAt;obtain⟨A,c,h1,h2,h3⟩:=h;refine⟨A,c,h1,h2,fun hn=>?_⟩;obtain⟨b,off,h4,h5,h6⟩:=h3 hn;exact⟨b,off,h4,h5.1,KidsP.at ks off h6⟩
theorem KidsP.at {P:Nat→Prop}{w:World}{b:Nat}:∀ (ks:List (List UInt8×Stl.Nd)) (off:Nat),KidsP P w b off ks→KidsAt w b off ks
 | [],_,_=>by unfold KidsAt;trivial
 | (name,x)::r,off,h=>by
  unfold KidsP at h;unfold KidsAt;obtain⟨h1,⟨v0,v1,v2,v3,c0,c1,c2,c3,h2⟩,h3⟩:=h;exact⟨h1,⟨v0,v1,v2,v3,c0,c1,c2,c3,NodeP.at x _ h2⟩,KidsP.at r (off+5) h3⟩
end
mutual
theorem NodeP.go {P Q:Nat→Prop}{w w':World}(hs:w.heap.size≤w'.heap.size)(hb:∀ b,b<w.heap.size→P b→w'.heap[b]?=w.heap[b]?∧Q b):∀ (n:Stl.Nd) (vs:List Value),NodeP P w n vs→NodeP Q w' n vs
 | .mk k d e ks,vs,h=>by
  unfold NodeP at h ⊢;obtain⟨A,c,h1,h2,h3⟩:=h;refine⟨A,c,h1,h2,fun hn=>?_⟩;obtain⟨b,off,h4,h5,h6⟩:=h3 hn;exact⟨b,off,h4,⟨zt h5.1 hs,(hb b h5.1 h5.2).2⟩,KidsP.go hs hb (hb b h5.1 h5.2).1 ks off h6⟩
theorem KidsP.go {P Q:Nat→Prop}{w w':World}(hs:w.heap.size≤w'.heap.size)(hb:∀ b,b<w.heap.size→P b→w'.heap[b]?=w.heap[b]?∧Q b){b:Nat}(he:w'.heap[b]?=w.heap[b]?):∀ (ks:List (List UInt8×Stl.Nd)) (off:Nat),KidsP P w b off ks→KidsP Q w' b off ks
 | [],_,_=>by unfold KidsP;trivial
 | (name,x)::r,off,h=>by
  unfold KidsP at h ⊢;obtain⟨h1,⟨v0,v1,v2,v3,c0,c1,c2,c3,h2⟩,h3⟩:=h;have go:∀ (o:Nat) (v:Value),w.cell? ⟨b,o,none⟩=some v→w'.cell? ⟨b,o,none⟩=some v:=fun o v hv=>(zD1 (w:=w) (a:=⟨b,o,none⟩) he).trans hv
  exact⟨⟨go _ _ h1.1,h1.2⟩,⟨v0,v1,v2,v3,go _ _ c0,go _ _ c1,go _ _ c2,go _ _ c3,NodeP.go hs hb x _ h2⟩,KidsP.go hs hb he r (off+5) h3⟩
end
theorem NodeP.open {P:Nat→Prop}{w:World}{k d:List UInt8}{e:Bool}{ks:List (List UInt8×Stl.Nd)}{vs:List Value}(h:NodeP P w (.mk k d e ks) vs) :
  ∃ A c,vs=[.string ⟨k.toArray⟩,.string ⟨d.toArray⟩,.bool e,.slice A ks.length c]:=by
 unfold NodeP at h;obtain⟨A,c,h1,_⟩:=h;exact⟨A,c,h1⟩
def KidsCells (P:Nat→Prop)(w:World):List (List UInt8×Stl.Nd)→List Value→Prop
 | [],vs=>vs=[]
 | (nm,x)::r,vs=>∃ v0 v1 v2 v3 b,vs=[.string ⟨nm.toArray⟩,v0,v1,v2,v3]++b∧nm.length≤140737488355328∧NodeP P w x [v0,v1,v2,v3]∧KidsCells P w r b
theorem KidsCells.length {P:Nat→Prop}{w:World}:∀ (ks:List (List UInt8×Stl.Nd)) (vs:List Value),KidsCells P w ks vs→vs.length=5*ks.length
 | [],_,h=>by
  have e:_=[]:=h;subst e;rfl
 | (nm,x)::r,vs,h=>by
  obtain⟨v0,v1,v2,v3,b,rfl,_,_,h2⟩:=h;have:=KidsCells.length r b h2;simp[this];omega
theorem KidsCells.append {P:Nat→Prop}{w:World}:∀ (l m:List (List UInt8×Stl.Nd)) (vs us:List Value),KidsCells P w l vs→KidsCells P w m us→KidsCells P w (l++m) (vs++us)
 | [],_,_,_,h,h2=>by
  have e:_=[]:=h;subst e;exact h2
 | (nm,x)::r,m,vs,us,h,h3=>by
  obtain⟨v0,v1,v2,v3,b,rfl,h1,hn,h2⟩:=h;exact⟨v0,v1,v2,v3,b++us,by simp,h1,hn,KidsCells.append r m b us h2 h3⟩
theorem KidsCells.go {P Q:Nat→Prop}{w w':World}(hs:w.heap.size≤w'.heap.size)(hb:∀ b,b<w.heap.size→P b→w'.heap[b]?=w.heap[b]?∧Q b):∀ (l:List (List UInt8×Stl.Nd)) (vs:List Value),KidsCells P w l vs→KidsCells Q w' l vs
 | [],_,h=>h
 | (nm,x)::r,vs,h=>by
  obtain⟨v0,v1,v2,v3,b,rfl,h1,hn,h2⟩:=h;exact⟨v0,v1,v2,v3,b,rfl,h1,NodeP.go hs hb x _ hn,KidsCells.go hs hb r b h2⟩
theorem qAl {P:Nat→Prop}{w:World}{g:Nat}:∀ (ks:List (List UInt8×Stl.Nd)) (vs:List Value) (off:Nat),KidsCells P w ks vs→(∀ j u,vs[j]?=some u→w.cell? ⟨g,off+j,none⟩=some u)→KidsP P w g off ks
 | [],_,_,_,_=>by unfold KidsP;trivial
 | (nm,x)::r,vs,off,h,hc=>by
  obtain⟨v0,v1,v2,v3,b,rfl,h1,hn,h2⟩:=h;unfold KidsP;refine⟨⟨by simpa using hc 0 _ rfl,h1⟩,⟨v0,v1,v2,v3,hc 1 _ rfl,hc 2 _ rfl,hc 3 _ rfl,hc 4 _ rfl,hn⟩,qAl r b (off+5) h2 fun j u hu=>?_⟩;have:=hc (5+j) u (by rw[List.getElem?_append_right (by simp)];simpa using hu);rw[Nat.add_assoc];exact this
def NKeep (W W':World):Prop:=∀ (k:Nat) (cs:Array Value) (T:TypeId) (fr:Nat×Nat),W.heap[k]?=some (Obj.cells cs T fr)→T≠9→(T≠22∧T≠3)→W'.heap[k]?=some (Obj.cells cs T fr)
theorem NKeep.trans {a b c:World}(h:NKeep a b)(k:NKeep b c):NKeep a c:=fun i cs T fr hi h1 h2=>k i cs T fr (h i cs T fr hi h1 h2) h1 h2
theorem NKeep.of_below {w w':World}(h:Below w.heap.size w w'):NKeep w w':=fun i cs T fr hi _ _=>(h.block i (zN1 hi)).trans hi
def dA (I:List Stl.It→World→Prop)(l:List Stl.It)(W:World)(e:Ending)(W':World):Prop:=e=.returned (.tuple #[])∧I l W'∧NKeep W W'
theorem qLQ (W0:World)(all:List Stl.It)(hall:∀ x∈all,x.path.length≤1000000)(g:Nat)(caps:Array Value)(hg:∀ args w,(callFunc g args).run Tryz.prog w=.ok (.enter g args) w)
  (I:List Stl.It→World→Prop) (hst:∀ pre W W',I pre W→Below W.heap.size W W'→I pre W') (hbel:∀ pre W,I pre W→Below W0.heap.size W0 W)
  (hdo:∀ (pre:List Stl.It) (x:Stl.It) (W:World) (vs:List Value),I pre W→NodeAt W0 x.n vs→(∃ rest,pre++x::rest=all) →
   Calls Tryz.prog g (#[.agg vs.toArray,.string ⟨x.path.toArray⟩]++caps) W (dA I (pre++[x]) W)) :
  ∀ (m:Nat) (n:Stl.Nd) (vs:List Value) (path:List UInt8) (deep:Nat) (pre:List Stl.It) (w:World),Stl.wt n≤m→NodeAt W0 n vs→(∃ rest,pre++(Stl.flat n path deep++rest)=all)→I pre w →
   Calls Tryz.prog 160 #[.agg vs.toArray,.string ⟨path.toArray⟩,.func (.func g) #[] caps] w (dA I (pre++Stl.flat n path deep) w):=by
 intro m
 induction m with
 | zero =>
  intro n vs path deep pre w hm
  cases n
  simp[Stl.wt] at hm
 | succ m ih =>
  intro n vs path deep pre w hm hn hpre hI;have HST:=Hh hst;have HBEL:=Hh hbel;have HDO:=Hh hdo;have IH:=Hh ih;have HI:=Hh hI;have HPR:=Hh hpre;have hpl:path.length≤1000000:=by
   obtain⟨rest,hr⟩:=hpre;exact hall ⟨path,deep,n⟩ (by rw[← hr];simp[Stl.flat_head])
  have HALL:=Hh hall;obtain⟨k,d,e,ks⟩:=n;obtain⟨A,c,rfl,⟨hc,hc2,hkl,hdl⟩,hk⟩:=hn.open;have HK:=Hh hk;have HN:=Hh hn;have HM:=Hh (show Stl.wtL ks≤m by simp only[Stl.wt] at hm;omega);have HF:=Hh (show Stl.flat (.mk k d e ks) path deep=⟨path,deep,.mk k d e ks⟩::Stl.flatL ks path (deep+1) by rw[Stl.flat]);generalize Stl.flat (.mk k d e ks) path deep=fl at HF HPR;clear hst hbel hdo ih hI hpre hall hn hk hm;go_enter Tryz.func160,Tryz.ntmps160;go_wp2_with fail;have hb1:Below w.heap.size w (w.alloc (.cells #[.string ⟨k.toArray⟩,.string ⟨d.toArray⟩,.bool e,.slice A ks.length c] 134)):=(zB _ w).alloc (zo _) _;refine(HDO.o pre ⟨path,deep,.mk k d e ks⟩ _ _ (HST.o _ _ _ HI.o hb1) HN.o (by
   obtain⟨rest,hr⟩:=HPR.o
   exact⟨Stl.flatL ks path (deep+1)++rest,by rw[← hr,HF.o];simp⟩)).mono ?_
  rintro ev w1 ⟨rfl,hI1,hk1⟩;have HI1:=Hh hI1;have HX1:=Hh (hk1 _ _ _ _ (zK1 w (.cells #[.string ⟨k.toArray⟩,.string ⟨d.toArray⟩,.bool e,.slice A ks.length c] 134)) (by decide) (by decide));have HNK1:=Hh ((NKeep.of_below hb1).trans hk1);clear hI1 hk1 hb1;have d3:=ce3 HX1.o;go_wp2_with fail
  go_loopw [15] (fun a wr=>∃ (j:Nat),j≤ks.length∧a=.int .i64 j∧Hg (I (pre++⟨path,deep,.mk k d e ks⟩::Stl.flatL (ks.take j) path (deep+1)) wr)∧Hg (NKeep w wr)) (fun a _=>ks.length-(intOf a).toNat)
  case atStart=>exact⟨0,zw _,rfl,Hh (by simpa[Stl.flatL] using HI1.o),HNK1⟩
  case round =>
   obtain⟨j,hj,rfl,HI2,HNK2⟩:=hrel;clear d3;by_cases hjl:j<ks.length
   ·have i4:(j:Int)<(ks.length:Int):=by omega
    have i5:(0:Int)≤(j:Int):=by omega
    obtain⟨b,off,rfl,hbl,⟨k0,hl⟩,v0,v1,v2,v3,k1,k2,k3,k4,hkid⟩:=HK.o.at hjl;have HB3:=Hh (HBEL.o _ _ HI2.o);have go:∀ (o:Nat) (v:Value),W0.cell? ⟨b,o,none⟩=some v→wr.cell? ⟨b,o,none⟩=some v:=fun o v hv=>(HB3.o.cell (p:=⟨b,o,none⟩) hbl).trans hv
    replace k0:=go _ _ k0
    replace k1:=go _ _ k1
    replace k2:=go _ _ k2
    replace k3:=go _ _ k3
    replace k4:=go _ _ k4
    have HW:=Hh (zq (Stl.wt_mem ks j hjl) HM.o);have HT:=Hh (show ks.take (j+1)=ks.take j++[ks[j]] from zn hjl);have HD:=Hh (show ks=ks.take j++ks[j]::ks.drop (j+1) from by
     rw[← zF hjl,List.take_append_drop])
    generalize ks[j]=kd at HW HT HD hkid k0 hl;obtain⟨nm,x⟩:=kd;simp only at hkid k0 hl;obtain⟨kx,dx,ex,ksx⟩:=x;obtain⟨A',c',e',_,_⟩:=hkid.open;simp only[zD,and_true] at e';obtain⟨rfl,rfl,rfl,rfl⟩:=e';have HKI:=Hh hkid;have s1:¬ 9223372036854775807<path.length+1:=by omega
    have s2:¬ 9223372036854775807<path.length+1+nm.length:=by omega
    have s3:ByteArray.mk path.toArray++ByteArray.mk #[47]=ByteArray.mk (path++[47]).toArray:=ByteArray.mk_append_mk path [47];have s4:ByteArray.mk (path++[47]).toArray++ByteArray.mk nm.toArray=ByteArray.mk (path++[47]++nm).toArray:=ByteArray.mk_append_mk (path++[47]) nm;clear go hkid hl;go_wp2_with fail;have hb4:=(zB _ wr).alloc (zo _) (.cells #[.string ⟨nm.toArray⟩,.string ⟨kx.toArray⟩,.string ⟨dx.toArray⟩,.bool ex,.slice A' ksx.length c'] 224);have hf:Stl.flatL (ks.take (j+1)) path (deep+1)=Stl.flatL (ks.take j) path (deep+1)++Stl.flat (.mk kx dx ex ksx) (path++47::nm) (deep+1):=by
     rw[HT.o,Stl.flatL_append,Stl.flatL,Stl.flatL,List.append_nil]
    have hih:=IH.o (.mk kx dx ex ksx) _ (path++47::nm) (deep+1) _ _ HW.o HKI.o (by
     obtain⟨rest,hr⟩:=HPR.o
     refine⟨Stl.flatL (ks.drop (j+1)) path (deep+1)++rest,?_⟩
     rw[← hr,HF.o]
     have h5:=congrArg (fun l=>Stl.flatL l path (deep+1)) HD.o
     simp only[Stl.flatL_append,Stl.flatL] at h5
     rw[h5]
     simp) (HST.o _ _ _ HI2.o hb4)
    refine hih.mono ?_;rintro ev w5 ⟨rfl,hI5,hk5⟩;have HI5:=Hh (show I (pre++⟨path,deep,.mk k d e ks⟩::Stl.flatL (ks.take (j+1)) path (deep+1)) w5 by
     rw[hf]
     simpa using hI5)
    have HNK5:=Hh ((HNK2.o.trans (NKeep.of_below hb4)).trans hk5);clear hI5 hk5 hih hf hb4 k0 k1 k2 k3 k4 s1 s2 s3 s4;go_wp2;go_roundw
    case rel=>exact⟨j+1,hjl,by go_num,HI5,HNK5⟩
    case measure=>simp[intOf];omega
   ·have i4:¬ (j:Int)<(ks.length:Int):=by omega
    have HE:=Hh (show ks.take j=ks from zm (by omega));go_wp2;go_end0;refine⟨rfl,?_,HNK2.o⟩;have:=HI2.o;rw[HE.o] at this;rw[HF.o];exact this
theorem qEy {P:Program}(x y:List UInt8)(w:World):(Op.stringOp .geq ⟨x.toArray⟩ ⟨y.toArray⟩).run P w=.ok (.bool (!Op.bytesLess x y)) w:=by
 simp[Op.stringOp]
theorem qD8 {P:Program}(ts:Array TypeId)(T:TypeId)(x y:List UInt8)(w:World):(Builtin.max_ ts T #[.string ⟨x.toArray⟩,.string ⟨y.toArray⟩]).run P w=.ok (if Op.bytesLess x y then .string ⟨y.toArray⟩ else .string ⟨x.toArray⟩) w:=by
 simp only[Builtin.max_,List.foldlM,Builtin.max2,Sem.run_bind,qEy]
 cases Op.bytesLess x y<;>simp[Result.andThen,asBool]
def xG (p:List UInt8):Prop:=p=[]∨∃ r,p=47::r
theorem qAD {P:Program}(ts:Array TypeId)(T:TypeId)(p:List UInt8)(hp:xG p)(w:World):(Builtin.max_ ts T #[.string ⟨p.toArray⟩,.string ⟨#[47]⟩]).run P w=.ok (.string ⟨(Stl.told p).toArray⟩) w:=by
 have h:=qD8 (P:=P) ts T p [47] w;rw[show (ByteArray.mk [47].toArray)=⟨#[47]⟩ from rfl] at h;rw[h]
 rcases hp with rfl | ⟨r,rfl⟩
 ·rfl
 ·have:Op.bytesLess (47::r) [47]=false:=by simp[Op.bytesLess]
  rw[this];simp[Stl.told]
mutual
theorem qBU:∀ (n:Stl.Nd) (path:List UInt8) (deep:Nat),xG path→∀ x∈Stl.flat n path deep,xG x.path
 | .mk k d e ks,path,deep,h,x,hx=>by
  rw[Stl.flat] at hx
  rcases zY.1 hx with rfl | hx
  ·exact h
  ·exact qBj ks path (deep+1) h x hx
theorem qBj:∀ (l:List (List UInt8×Stl.Nd)) (path:List UInt8) (deep:Nat),xG path→∀ x∈Stl.flatL l path deep,xG x.path
 | [],path,deep,h,x,hx=>by simp[Stl.flatL] at hx
 | (nm,n)::r,path,deep,h,x,hx=>by
  rw[Stl.flatL] at hx
  rcases zX.1 hx with hx | hx
  ·refine qBU n (path++47::nm) deep (.inr ?_) x hx
   rcases h with rfl | ⟨t,rfl⟩
   ·exact⟨nm,rfl⟩
   ·exact⟨t++47::nm,rfl⟩
  ·exact qBj r path deep h x hx
end
theorem qJr (W0:World)(g:Nat)(caps:Array Value)(I:List Stl.It→World→Prop)(hst:∀ pre W W',I pre W→Below W.heap.size W W'→I pre W')
  (pre:List Stl.It) (x:Stl.It) (W:World) (vs:List Value) (B:Nat) (hB:W.heap[B]?=some (.cells #[.func (.func g) #[] caps] 199 (0,0))) (hI:I pre W) (hn:NodeAt W0 x.n vs) (hs:xG x.path)
  (hg:∀ args w,(callFunc g args).run Tryz.prog w=.ok (.enter g args) w)
  (hdo:∀ W',I pre W'→Calls Tryz.prog g (#[.agg vs.toArray,.string ⟨(Stl.told x.path).toArray⟩]++caps) W' (dA I (pre++[x]) W')) :
  Calls Tryz.prog 161 (#[.agg vs.toArray,.string ⟨x.path.toArray⟩]++#[.pointer (some ⟨B,0,none⟩)]) W (dA I (pre++[x]) W):=by
 obtain⟨path,deep,n⟩:=x;obtain⟨k,d,e,ks⟩:=n;obtain⟨A,c,rfl,_,_⟩:=hn.open;have hmx:=fun ts T w=>qAD (P:=Tryz.prog) ts T path hs w
 have hbox:(W.alloc (.cells #[.string ⟨k.toArray⟩,.string ⟨d.toArray⟩,.bool e,.slice A ks.length c] 134)).heap[B]?=some (.cells #[.func (.func g) #[] caps] 199 (0,0)):=qS _ _ hB;have cB:=cell_of_one hbox;have HST:=Hh hst;have HDO:=Hh hdo;have HI:=Hh hI;have HB:=Hh hB;clear hst hdo hI hB hn hs hbox;simp only at hmx ⊢;go_enter Tryz.func161,Tryz.ntmps161;go_wp2_with fail;have hb1:Below W.heap.size W (W.alloc (.cells #[.string ⟨k.toArray⟩,.string ⟨d.toArray⟩,.bool e,.slice A ks.length c] 134)):=(zB _ W).alloc (zo _) _;refine(HDO.o _ (HST.o _ _ _ HI.o hb1)).mono ?_;rintro ev w1 ⟨rfl,hI1,hk1⟩;have HI1:=Hh hI1;have HK1:=Hh ((NKeep.of_below hb1).trans hk1);clear hI1 hk1 hb1 hmx cB;go_wp2;go_end0;exact⟨rfl,HI1.o,HK1.o⟩
theorem qFw:∀ args w,(callFunc 161 args).run Tryz.prog w=.ok (.enter 161 args) w:=enters_of Tryz.func161 (by kernel_rfl) rfl
theorem pE (p:Nat→Addr)(W0:World)(hE:Errs W0 p)(n:Stl.Nd)(vs:List Value)(hn:NodeAt W0 n vs)(g:Nat)(caps:Array Value)(hg:∀ args w,(callFunc g args).run Tryz.prog w=.ok (.enter g args) w)
  (I:List Stl.It→World→Prop) (hst:∀ pre W W',I pre W→Below W.heap.size W W'→I pre W') (hbel:∀ pre W,I pre W→Below W0.heap.size W0 W)
  (hdo:Stl.treeErr n=0→∀ (pre:List Stl.It) (x:Stl.It) (W:World) (vs:List Value),I pre W→NodeAt W0 x.n vs→(∃ rest,pre++x::rest=Stl.flat n [] 0) →
   Calls Tryz.prog g (#[.agg vs.toArray,.string ⟨(Stl.told x.path).toArray⟩]++caps) W (dA I (pre++[x]) W)) (w:World) (hI:I [] w) :
  Calls Tryz.prog 106 #[.agg vs.toArray,.func (.func g) #[] caps] w (dA I (Stl.items n) w):=by
 obtain⟨k,d,e,ks⟩:=n;obtain⟨A,c,rfl,_,_⟩:=hn.open;have HIT:Hg (Stl.items (.mk k d e ks)=if Stl.treeErr (.mk k d e ks)=0 then Stl.flat (.mk k d e ks) [] 0 else []):=Hh rfl;generalize Stl.items (.mk k d e ks)=its at HIT;have HE:=Hh hE;have HN:=Hh hn;have HST:=Hh hst;have HBEL:=Hh hbel;have HDO:=Hh hdo;have HI:=Hh hI;clear hE hn hst hbel hdo hI;go_enter Tryz.func106,Tryz.ntmps106;go_wp2_with fail;have hb1:=((zB _ w).alloc (zo _) (.cells #[.string ⟨k.toArray⟩,.string ⟨d.toArray⟩,.bool e,.slice A ks.length c] 134)).alloc (by simp) (.cells #[.func (.func g) #[] caps] 199);have hI1:=HST.o _ _ _ HI.o hb1;have hb0:=HBEL.o _ _ hI1;refine(xV p (.mk k d e ks) _ _ (HE.o.later hb0) (NodeAt.later hb0 _ _ HN.o)).mono ?_;rintro ev w1 ⟨rfl,hb⟩;have e1:((w.alloc (.cells #[.string ⟨k.toArray⟩,.string ⟨d.toArray⟩,.bool e,.slice A ks.length c] 134)).alloc (.cells #[.func (.func g) #[] caps] 199)).heap[w.heap.size]?=some (.cells #[.string ⟨k.toArray⟩,.string ⟨d.toArray⟩,.bool e,.slice A ks.length c] 134 (0,0)):=qS _ _ (zK1 _ _);have e2:((w.alloc (.cells #[.string ⟨k.toArray⟩,.string ⟨d.toArray⟩,.bool e,.slice A ks.length c] 134)).alloc (.cells #[.func (.func g) #[] caps] 199)).heap[w.heap.size+1]?=some (.cells #[.func (.func g) #[] caps] 199 (0,0)):=by
  have:=zK1 (w.alloc (.cells #[.string ⟨k.toArray⟩,.string ⟨d.toArray⟩,.bool e,.slice A ks.length c] 134)) (.cells #[.func (.func g) #[] caps] 199);simpa using this
 have HX:=Hh ((hb.block _ (zN1 e1)).trans e1);have HY:=Hh ((hb.block _ (zN1 e2)).trans e2);have HI2:=Hh (HST.o _ _ _ hI1 hb);have HB:=Hh (hb1.trans (hb.mono hb1.size));clear e1 e2 hb hb1 hI1 hb0;by_cases ht:Stl.treeErr (.mk k d e ks)=0
 ·have HF:=Hh (show its=Stl.flat (.mk k d e ks) [] 0 by rw[HIT.o,zM1 ht]);have hw:=Stl.items_well ht;have HW:=Hh hw.2;have HD:=Hh (HDO.o ht);rw[ht,xB];obtain⟨d0,d1,d2,d3⟩:=cq HX.o;clear hw ht;go_wp2_with fail;have h:=qLQ W0 (Stl.flat (.mk k d e ks) [] 0) (fun x hx=>by have:=(HW.o x hx).2;omega) 161 #[.pointer (some ⟨w.heap.size+1,0,none⟩)] qFw
   (fun l W=>I l W∧W.heap[w.heap.size+1]?=some (.cells #[.func (.func g) #[] caps] 199 (0,0)))
   (fun pre W W' h hb=>⟨HST.o _ _ _ h.1 hb,(hb.block _ (zN1 h.2)).trans h.2⟩) (fun pre W h=>HBEL.o _ _ h.1)
   (fun pre x W vs h hnx hr=>by
    have hs:xG x.path:=qBU _ _ _ (.inl rfl) x (by obtain⟨rest,hr⟩:=hr;rw[← hr];simp)
    refine(qJr W0 g caps I HST.o pre x W vs (w.heap.size+1) h.2 h.1 hnx hs hg (fun W' hI'=>HD.o pre x W' vs hI' hnx hr)).mono ?_
    rintro ev W' ⟨rfl,h1,h2⟩
    exact⟨rfl,⟨h1,h2 _ _ _ _ h.2 (by decide) (by decide)⟩,h2⟩)
   (Stl.wt (.mk k d e ks)) (.mk k d e ks) _ [] 0 [] w1 (zo _) HN.o ⟨[],by simp⟩ ⟨HI2.o,HY.o⟩
  refine h.mono ?_;rintro ev w2 ⟨rfl,⟨h1,_⟩,h3⟩;have H1:=Hh h1;have H3:=Hh ((NKeep.of_below HB.o).trans h3);clear h h1 h3 d0 d1 d2 d3;go_wp2;go_end0;exact⟨rfl,by rw[HF.o];exact H1.o,H3.o⟩
 ·have HF:=Hh (show its=[] by rw[HIT.o,zL1 ht]);have HO:=Hh (uA p _ ht);rw[HO.o];clear ht;go_wp2;go_end0;exact⟨rfl,by rw[HF.o];exact HI2.o,NKeep.of_below HB.o⟩
end Go.Proofs.YtbmkaekimccdgaaGreatDoor
