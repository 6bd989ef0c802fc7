/- Lemmas. -/
import Derived.Test.YtbmkaekimccdgaaGreatDoorBm43
set_option maxHeartbeats 16000000
set_option maxRecDepth 1000000
set_option linter.all false
namespace Go.Proofs.YtbmkaekimccdgaaGreatDoor
open Go.RowKit Go.Sort Go.Shelf Stl
def qOj (w0:World)(b:Nat)(ys:List CX)(L:List (List UInt8))(e:Ending)(W':World):Prop:=e=.returned (.tuple #[])∧∃ zs,DfAt w0 W' b (ys++zs)∧zs.map CX.told=L
def NdAt (w0:World)(b:Nat)(x:Nd):Prop:=∀ (y:Nd) (vs us:List Value) (s:List UInt8) (W:World) (ys:List CX),NodeAt w0 x vs→NodeAt w0 y us→Well x→Well y→xG s→s.length+13*Stl.wt x≤100000→ys.length+kM x+kM y≤1000→DfAt w0 W b ys →
 Calls Tryz.prog 100 #[.pointer (some ⟨b,0,none⟩),.agg vs.toArray,.agg us.toArray,.string ⟨s.toArray⟩] W (qOj w0 b ys (kC x y s))
theorem KidsOf.tail {w:World}{A:Option Addr}{c:Nat}{q:List UInt8×Nd}{r:List (List UInt8×Nd)}(h:KidsOf w A (q::r))(hc:(q::r).length≤c) :
  ∃ g off,A=some ⟨g,off,none⟩∧g<w.heap.size∧(w.cell? ⟨g,off,none⟩=some (.string ⟨q.1.toArray⟩)∧q.1.length≤140737488355328) ∧
   (∃ v0 v1 v2 v3,w.cell? ⟨g,off+1,none⟩=some v0∧w.cell? ⟨g,off+2,none⟩=some v1∧w.cell? ⟨g,off+3,none⟩=some v2∧w.cell? ⟨g,off+4,none⟩=some v3∧NodeAt w q.2 [v0,v1,v2,v3]) ∧
   ∃ A2,(if c=1 then some (⟨g,off,none⟩:Addr) else some ⟨g,off+5,none⟩)=A2∧KidsOf w A2 r∧r.length≤c-1:=by
 obtain⟨g,off,rfl,hg,hk⟩:=h (by simp);obtain⟨nm,x⟩:=q;unfold KidsAt at hk;obtain⟨h1,h2,h3⟩:=hk;simp only[zQ] at hc;refine⟨g,off,rfl,hg,h1,h2,_,rfl,?_,by omega⟩;intro hn;have:c≠1:=by
  intro e;subst e;exact hn (zR.1 (by omega))
 rw[zL1 this];exact⟨g,off+5,rfl,hg,h3⟩
structure KdSt (w0 wr:World)(b:Nat)(ys:List CX)(ks ls:List (List UInt8×Nd))(s:List UInt8)(al bl:List (List UInt8×Nd))(A B:Option Addr)(ca cb:Nat)(zs:List CX):Prop where
 df:DfAt w0 wr b (ys++zs)
 ka:KidsOf w0 A al
 kb:KidsOf w0 B bl
 la:al.length≤ca
 lb:bl.length≤cb
 sa:∀ q∈al,q∈ks
 sb:∀ q∈bl,q∈ls
 eq:qV ks ls s=zs.map CX.told++qV al bl s
 few:ys.length+zs.length+vO al+vO bl≤1000
theorem qFP (s nm:List UInt8)(t0 t1:ByteArray)(t2:Bool)(t3:Option Addr)(t4 t5:Nat):(⟨[100,114,111,112],s++47::nm,t0,t1,t2,t3,t4,t5⟩:CX).told=gZ s nm:=by simp[CX.told,gZ]
theorem qHl (s nm:List UInt8)(t0 t1:ByteArray)(t2:Bool)(t3:Option Addr)(t4 t5:Nat):(⟨[97,100,100],s++47::nm,t0,t1,t2,t3,t4,t5⟩:CX).told=uK s nm:=by simp[CX.told,uK]
section
variable {w0 wr w':World}{b:Nat}{ys:List CX}{ks ls:List (List UInt8×Nd)}{s:List UInt8}{al bl:List (List UInt8×Nd)}{A B:Option Addr}{ca cb:Nat}{zs:List CX}
theorem KdSt.drop {q:List UInt8×Nd}(h:KdSt w0 wr b ys ks ls s (q::al) bl A B ca cb zs){A2:Option Addr}(hA:KidsOf w0 A2 al)(hl:al.length≤ca-1)(z:CX)(hz:z.told=gZ s q.1)(hd:DfAt w0 w' b (ys++zs++[z]))(he:qV (q::al) bl s=gZ s q.1::qV al bl s) :
  KdSt w0 w' b ys ks ls s al bl A2 B (ca-1) cb (zs++[z]) :=
 ⟨by rw[← List.append_assoc];exact hd,hA,h.kb,hl,h.lb,fun x hx=>h.sa x (by simp[hx]),h.sb,by rw[h.eq,he];simp[hz],by have:=h.few;have:=nI q.2;rw[vO] at *;simp only[zP,zQ,List.length_nil];omega⟩
theorem KdSt.add {q:List UInt8×Nd}(h:KdSt w0 wr b ys ks ls s al (q::bl) A B ca cb zs){B2:Option Addr}(hB:KidsOf w0 B2 bl)(hl:bl.length≤cb-1)(z:CX)(hz:z.told=uK s q.1)(hd:DfAt w0 w' b (ys++zs++[z]))(he:qV al (q::bl) s=uK s q.1::qV al bl s) :
  KdSt w0 w' b ys ks ls s al bl A B2 ca (cb-1) (zs++[z]) :=
 ⟨by rw[← List.append_assoc];exact hd,h.ka,hB,h.la,hl,h.sa,fun x hx=>h.sb x (by simp[hx]),by rw[h.eq,he];simp[hz],by
  have:=h.few
  have:=nI q.2
  rw[show vO (q::bl)=kM q.2+vO bl from rfl] at *
  simp only[zP,zQ,List.length_nil]
  omega⟩
theorem KdSt.both {q r:List UInt8×Nd}(h:KdSt w0 wr b ys ks ls s (q::al) (r::bl) A B ca cb zs){A2 B2:Option Addr}(hA:KidsOf w0 A2 al)(hl:al.length≤ca-1)(hB:KidsOf w0 B2 bl)(hl2:bl.length≤cb-1)(z:List CX)(hz:z.map CX.told=kC q.2 r.2 (s++47::q.1))(hd:DfAt w0 w' b (ys++zs++z))(he:qV (q::al) (r::bl) s=kC q.2 r.2 (s++47::q.1)++qV al bl s) :
  KdSt w0 w' b ys ks ls s al bl A2 B2 (ca-1) (cb-1) (zs++z) :=
 ⟨by rw[← List.append_assoc];exact hd,hA,hB,hl,hl2,fun x hx=>h.sa x (by simp[hx]),fun x hx=>h.sb x (by simp[hx]),by rw[h.eq,he];simp[hz],by
  have h1:=h.few
  have h2:=qBE q.2 r.2 (s++47::q.1)
  rw[← hz,zT] at h2
  rw[show vO (q::al)=kM q.2+vO al from rfl,show vO (r::bl)=kM r.2+vO bl from rfl] at h1
  rw[zP]
  omega⟩
end
def gF:Value→Nat | .slice _ n _=>n | _=>0
theorem qOa (x y:List UInt8)(w:World):Calls Tryz.prog 206 #[.string ⟨x.toArray⟩,.string ⟨y.toArray⟩] w fun e w'=>e=.returned (.int .i64 (Lib.compareBytes x y))∧w=w' :=
 (Tryz.strings_Compare ⟨x.toArray⟩ ⟨y.toArray⟩ w).mono fun _ _ h=>⟨h.1,h.2.symm⟩
theorem qCE:∀ (ks:List (List UInt8×Nd)) (q:List UInt8×Nd),q∈ks→Stl.wt q.2≤Stl.wtL ks
 | (nm,x)::r,q,h=>by
  rw[Stl.wtL]
  rcases zY.1 h with rfl | h
  ·exact Nat.le_add_right _ _
  ·have:=qCE r q h;omega
theorem wQ (s nm:List UInt8):ByteArray.mk s.toArray++ByteArray.mk #[47]=ByteArray.mk (s++[47]).toArray∧ByteArray.mk (s++[47]).toArray++ByteArray.mk nm.toArray=ByteArray.mk (s++[47]++nm).toArray :=
 ⟨ByteArray.mk_append_mk s [47],ByteArray.mk_append_mk (s++[47]) nm⟩
theorem qGl {s:List UInt8}(h:xG s)(nm:List UInt8):xG (s++47::nm):=by
 rcases h with rfl | ⟨t,rfl⟩
 ·exact .inr ⟨nm,rfl⟩
 ·exact .inr ⟨t++47::nm,by simp⟩
theorem qL8 (w0:World)(b:Nat)(ks ls:List (List UInt8×Nd))(hIH:∀ q∈ks,NdAt w0 b q.2)(hwk:∀ q∈ks,Well q.2∧q.1.length≤12)(hwl:∀ q∈ls,Well q.2∧q.1.length≤12)(s:List UInt8)(hs:xG s)(hsl:s.length+13*(Stl.wtL ks+1)≤100000)
  (A B:Option Addr) (ca cb:Nat) (hA:KidsOf w0 A ks) (hB:KidsOf w0 B ls) (hca:ks.length≤ca) (hcb:ls.length≤cb) (W:World) (ys:List CX) (hfew:ys.length+vO ks+vO ls≤1000) (hd:DfAt w0 W b ys) :
  Calls Tryz.prog 154 #[.pointer (some ⟨b,0,none⟩),.slice A ks.length ca,.slice B ls.length cb,.string ⟨s.toArray⟩] W (qOj w0 b ys (qV ks ls s)):=by
 have HIH:=Hh hIH;have HWK:=Hh hwk;have HWL:=Hh hwl;have HSL:=Hh hs;have HK0:=Hh (show KdSt w0 W b ys ks ls s ks ls A B ca cb [] from ⟨by rw[List.append_nil];exact hd,hA,hB,hca,hcb,fun _ h=>h,fun _ h=>h,rfl,by rw[List.length_nil];omega⟩);have hsl2:s.length≤100000:=by omega
 have HSB:=Hh hsl;have s1:¬ 9223372036854775807<s.length+1:=by omega
 clear hIH hwk hwl hs hA hB hca hcb hfew hd hsl;go_enter Tryz.func154,Tryz.ntmps154;go_wp2_with fail
 go_loopw [1,2] (fun a1 a2 wr=>∃ (al bl:List (List UInt8×Nd)) (A B:Option Addr) (ca cb:Nat) (zs:List CX),a1=.slice A al.length ca∧a2=.slice B bl.length cb∧Hg (KdSt w0 wr b ys ks ls s al bl A B ca cb zs)) (fun a1 a2 _=>gF a1+gF a2)
 case atStart=>exact⟨ks,ls,A,B,ca,cb,[],rfl,rfl,HK0⟩
 case round =>
  obtain⟨al,bl,A,B,ca,cb,zs,rfl,rfl,HS⟩:=hrel;clear HK0
  cases al with
  | nil =>
   cases bl with
   | nil =>
    simp only[List.length_nil];go_wp2;go_end0;refine⟨rfl,zs,HS.o.df,?_⟩;rw[HS.o.eq,qDf,List.append_nil]
   | cons q bl =>
    obtain⟨y,m⟩:=q;obtain⟨g,off,rfl,hg,⟨yn,yl⟩,⟨v0,v1,v2,v3,y1,y2,y3,y4,yd⟩,yA,ye,yk,yz⟩:=HS.o.kb.tail HS.o.lb;have yw:=HWL.o _ (HS.o.sb _ (List.mem_cons_self ..));have yD:=Hh yd;have yK:=Hh yk;have yW:=Hh yw.1;have y12:y.length≤12:=yw.2;have yS:=Hh (fun (w':World) (hb:Below w0.heap.size w0 w')=>show w'.cell? ⟨g,off,none⟩=some (.string ⟨y.toArray⟩)∧w'.cell? ⟨g,off+1,none⟩=some v0∧w'.cell? ⟨g,off+1+1,none⟩=some v1∧w'.cell? ⟨g,off+1+2,none⟩=some v2∧w'.cell? ⟨g,off+1+3,none⟩=some v3 from ⟨(hb.cell (p:=⟨g,off,none⟩) hg).trans yn,(hb.cell (p:=⟨g,off+1,none⟩) hg).trans y1,(hb.cell (p:=⟨g,off+1+1,none⟩) hg).trans y2,(hb.cell (p:=⟨g,off+1+2,none⟩) hg).trans y3,(hb.cell (p:=⟨g,off+1+3,none⟩) hg).trans y4⟩);clear yd yk yw yn y1 y2 y3 y4 yl;have HBW:=Hh HS.o.df.below;have HDF:=Hh HS.o.df;have hfw:=HS.o.few;simp only[List.length_nil,zQ];have hzl:zs.length+ys.length≤1000:=by omega
    have HZL:=Hh (show (ys++zs).length≤1000000 by rw[zP];omega);have i1:(0:Int)<(bl.length:Int)+1:=by omega
    have i2:(1:Int)≤(bl.length:Int)+1:=by omega
    clear hfw;have s2:¬ 9223372036854775807<s.length+1+y.length:=by omega
    obtain⟨s3,s4⟩:=wQ s y;have HCP:=Hh (nK (Stl.wt m) m [v0,v1,v2,v3] _ wr.drew (zo _) (NodeP.of_at _ _ (NodeAt.later HBW.o.drew _ _ yD.o)));have HDR:=Hh (zB wr.heap.size wr).drew;have hs0:(fun w':World=>w'.cell? ⟨g,off,none⟩=some (.string ⟨y.toArray⟩)∧w'.cell? ⟨g,off+1,none⟩=some v0∧w'.cell? ⟨g,off+1+1,none⟩=some v1∧w'.cell? ⟨g,off+1+2,none⟩=some v2∧w'.cell? ⟨g,off+1+3,none⟩=some v3) wr:=yS.o _ HBW.o;go_upto_region 13 with fail
    go_region_held3 (fun w'=>w'.cell? ⟨g,off,none⟩=some (.string ⟨y.toArray⟩)∧w'.cell? ⟨g,off+1,none⟩=some v0∧w'.cell? ⟨g,off+1+1,none⟩=some v1∧w'.cell? ⟨g,off+1+2,none⟩=some v2∧w'.cell? ⟨g,off+1+3,none⟩=some v3)
     (first
      | exact hs0
      | exact HS5.o
      | exact HS6.o
      | go_keep)
     (first
      | (go_at_call 156;((with_reducible refine HCP.o.mono ?_);rintro ev w5 ⟨us,rfl,hn5,hb5⟩;obtain⟨t0,t1,t2,t3,t4,t5,rfl⟩:=kF hn5;have HS5:=Hh (yS.o _ (HBW.o.trans ((HDR.o.trans hb5).mono HBW.o.size)));have HAD:=Hh (mF (HDF.o.later (HDR.o.trans hb5)) HZL.o [97,100,100] (s++47::y) t0 t1 t2 t3 t4 t5 ⟨#[97,100,100]⟩ ⟨(s++47::y).toArray⟩ rfl rfl);clear hn5 hb5))
      | (go_at_call 155;((with_reducible refine HAD.o.mono ?_);rintro ev w6 ⟨rfl,hd6⟩;have HS6:=Hh (yS.o _ hd6.below);have HD6:=Hh hd6;clear hd6))
      | fail)
    clear s3 s4 hs0;go_wp2;go_roundw
    case rel=>exact⟨[],bl,A,yA,ca,cb-1,_,rfl,rfl,Hh (HS.o.add yK.o yz _ (qHl s y ..) HD6.o (qC8 y m bl s))⟩
    case measure=>simp[gF]<;>omega
  | cons q al =>
   obtain⟨x,n⟩:=q;obtain⟨g,off,rfl,hg,⟨xn,xl⟩,⟨v0,v1,v2,v3,x1,x2,x3,x4,xd⟩,xA,xe,xk,xz⟩:=HS.o.ka.tail HS.o.la;have xw:=HWK.o _ (HS.o.sa _ (List.mem_cons_self ..));have xD:=Hh xd;have xK:=Hh xk;have xW:=Hh xw.1;have x12:x.length≤12:=xw.2;have xS:=Hh (fun (w':World) (hb:Below w0.heap.size w0 w')=>show w'.cell? ⟨g,off,none⟩=some (.string ⟨x.toArray⟩)∧w'.cell? ⟨g,off+1,none⟩=some v0∧w'.cell? ⟨g,off+1+1,none⟩=some v1∧w'.cell? ⟨g,off+1+2,none⟩=some v2∧w'.cell? ⟨g,off+1+3,none⟩=some v3 from ⟨(hb.cell (p:=⟨g,off,none⟩) hg).trans xn,(hb.cell (p:=⟨g,off+1,none⟩) hg).trans x1,(hb.cell (p:=⟨g,off+1+1,none⟩) hg).trans x2,(hb.cell (p:=⟨g,off+1+2,none⟩) hg).trans x3,(hb.cell (p:=⟨g,off+1+3,none⟩) hg).trans x4⟩);clear xd xk xw xn x1 x2 x3 x4 xl;have HBW:=Hh HS.o.df.below;have HDF:=Hh HS.o.df;have hfw:=HS.o.few;simp only[List.length_nil,zQ]
   cases bl with
   | nil =>
    have hzl:zs.length+ys.length≤1000:=by omega
    have HZL:=Hh (show (ys++zs).length≤1000000 by rw[zP];omega);have i1:(0:Int)<(al.length:Int)+1:=by omega
    have i2:(1:Int)≤(al.length:Int)+1:=by omega
    have i5:¬ (al.length:Int)+1=0:=by omega
    simp only[List.length_nil];clear hfw;have s2:¬ 9223372036854775807<s.length+1+x.length:=by omega
    obtain⟨s3,s4⟩:=wQ s x;have HAD:=Hh (mF HDF.o HZL.o [100,114,111,112] (s++47::x) ⟨#[]⟩ ⟨#[]⟩ false none 0 0 ⟨#[100,114,111,112]⟩ ⟨(s++47::x).toArray⟩ rfl rfl);have q0:=(xS.o _ HBW.o).1;go_upto_region 11 with (go_at_call 155;((with_reducible refine HAD.o.mono ?_);rintro ev w6 ⟨rfl,hd6⟩;have HD6:=Hh hd6;clear hd6));clear s3 s4 q0;go_wp2;go_roundw
    case rel=>exact⟨al,[],xA,B,ca-1,cb,_,rfl,rfl,Hh (HS.o.drop xK.o xz _ (qFP s x ..) HD6.o (qCw x n al s))⟩
    case measure=>simp[gF]<;>omega
   | cons q bl =>
    obtain⟨y,m⟩:=q;obtain⟨g2,off2,rfl,hg2,⟨yn,yl⟩,⟨u0,u1,u2,u3,y1,y2,y3,y4,yd⟩,yA,ye,yk,yz⟩:=HS.o.kb.tail HS.o.lb;have yw:=HWL.o _ (HS.o.sb _ (List.mem_cons_self ..));have yD:=Hh yd;have yK:=Hh yk;have yW:=Hh yw.1;have y12:y.length≤12:=yw.2;have yS:=Hh (fun (w':World) (hb:Below w0.heap.size w0 w')=>show w'.cell? ⟨g2,off2,none⟩=some (.string ⟨y.toArray⟩)∧w'.cell? ⟨g2,off2+1,none⟩=some u0∧w'.cell? ⟨g2,off2+1+1,none⟩=some u1∧w'.cell? ⟨g2,off2+1+2,none⟩=some u2∧w'.cell? ⟨g2,off2+1+3,none⟩=some u3 from ⟨(hb.cell (p:=⟨g2,off2,none⟩) hg2).trans yn,(hb.cell (p:=⟨g2,off2+1,none⟩) hg2).trans y1,(hb.cell (p:=⟨g2,off2+1+1,none⟩) hg2).trans y2,(hb.cell (p:=⟨g2,off2+1+2,none⟩) hg2).trans y3,(hb.cell (p:=⟨g2,off2+1+3,none⟩) hg2).trans y4⟩);clear yd yk yw yn y1 y2 y3 y4 yl;simp only[zQ];have hzl:zs.length+ys.length≤1000:=by omega
    have HZL:=Hh (show (ys++zs).length≤1000000 by rw[zP];omega);have i1:(0:Int)<(al.length:Int)+1:=by omega
    have i2:(1:Int)≤(al.length:Int)+1:=by omega
    have i5:¬ (al.length:Int)+1=0:=by omega
    have i3:(0:Int)<(bl.length:Int)+1:=by omega
    have i4:(1:Int)≤(bl.length:Int)+1:=by omega
    have i6:¬ (bl.length:Int)+1=0:=by omega
    have HFW:=Hh hfw;have HZL:=Hh (show (ys++zs).length≤1000000 by rw[zP];omega);obtain⟨cv,hcv⟩:∃ cv,cv=Lib.compareBytes x y:=⟨_,rfl⟩;have HCM:=Hh (fun W=>qOa x y W);rw[← hcv] at HCM;have HCV:=Hh hcv;have HDR0:=Hh (zB wr.heap.size wr).drew;have HDFd:=Hh (HDF.o.later HDR0.o);have hs0:(fun w':World=>w'.cell? ⟨g,off,none⟩=some (.string ⟨x.toArray⟩)∧w'.cell? ⟨g2,off2,none⟩=some (.string ⟨y.toArray⟩)) wr:=⟨(xS.o _ HBW.o).1,(yS.o _ HBW.o).1⟩;clear hfw hcv HBW HDF;go_upto_region 2 with fail
    go_region_held3 (fun w'=>w'.cell? ⟨g,off,none⟩=some (.string ⟨x.toArray⟩)∧w'.cell? ⟨g2,off2,none⟩=some (.string ⟨y.toArray⟩))
     (first
      | exact hs0
      | go_keep)
     (first
      | (go_at_call 206;((with_reducible refine(HCM.o _).mono ?_);rintro e w1 ⟨rfl,rfl⟩))
      | fail)
    clear hs0 HDR0;generalize wr.drew=wd at *;have HDF:=Hh HDFd.o;have HBW:=Hh HDFd.o.below;clear HDFd HCM
    rcases Int.lt_trichotomy cv 0 with hcl | hcl | hcl
    ·have HE:=Hh (show qV ((x,n)::al) ((y,m)::bl) s=gZ s x::qV al ((y,m)::bl) s from by
      have h1:x<y:=(uT x y).1.1 (by rw[← HCV.o];exact hcl)
      exact qGM n m al bl s (fun h2=>absurd (List.lt_trans h1 h2) (List.lt_irrefl _)) (fun h2=>by subst h2;exact absurd h1 (List.lt_irrefl _)))
     have s2:¬ 9223372036854775807<s.length+1+x.length:=by omega
     obtain⟨s3,s4⟩:=wQ s x;have HAD:=Hh (mF HDF.o HZL.o [100,114,111,112] (s++47::x) ⟨#[]⟩ ⟨#[]⟩ false none 0 0 ⟨#[100,114,111,112]⟩ ⟨(s++47::x).toArray⟩ rfl rfl);have q0:=(xS.o _ HBW.o).1;go_upto_region 11 with (go_at_call 155;((with_reducible refine HAD.o.mono ?_);rintro ev w6 ⟨rfl,hd6⟩;have HD6:=Hh hd6;clear hd6));clear s3 s4 q0;go_wp2;go_roundw
     case rel=>exact⟨al,(y,m)::bl,xA,some ⟨g2,off2,none⟩,ca-1,cb,_,rfl,rfl,Hh (HS.o.drop xK.o xz _ (qFP s x ..) HD6.o HE.o)⟩
     case measure=>simp[gF]<;>omega
    ·subst hcl;obtain rfl:x=y:=(uT x y).2.1 HCV.o.symm;have HE:=Hh (qGW n m al bl s (List.lt_irrefl x));have HWT:=Hh (qCE ks (x,n) (HS.o.sa _ (List.mem_cons_self ..)));have HND:=Hh (HIH.o (x,n) (HS.o.sa _ (List.mem_cons_self ..)) m [v0,v1,v2,v3] [u0,u1,u2,u3] (s++47::x) wd.drew (ys++zs) xD.o yD.o xW.o yW.o (qGl HSL.o x) (by
      have h1:Stl.wt n≤Stl.wtL ks:=HWT.o
      have h2:=HSB.o
      rw[zP,zQ]
      show s.length+(x.length+1)+13*Stl.wt n≤100000
      omega) (by
      have h1:=HFW.o
      rw[show vO ((x,n)::al)=kM n+vO al from rfl,show vO ((x,m)::bl)=kM m+vO bl from rfl] at h1
      rw[zP]
      show _+kM n+kM m≤1000
      omega) (HDF.o.later (zB wd.heap.size wd).drew))
     have s2:¬ 9223372036854775807<s.length+1+x.length:=by omega
     obtain⟨s3,s4⟩:=wQ s x;have hs0:(fun w':World=>w'.cell? ⟨g,off,none⟩=some (.string ⟨x.toArray⟩)∧w'.cell? ⟨g,off+1,none⟩=some v0∧w'.cell? ⟨g,off+1+1,none⟩=some v1∧w'.cell? ⟨g,off+1+2,none⟩=some v2∧w'.cell? ⟨g,off+1+3,none⟩=some v3∧w'.cell? ⟨g2,off2,none⟩=some (.string ⟨x.toArray⟩)∧w'.cell? ⟨g2,off2+1,none⟩=some u0∧w'.cell? ⟨g2,off2+1+1,none⟩=some u1∧w'.cell? ⟨g2,off2+1+2,none⟩=some u2∧w'.cell? ⟨g2,off2+1+3,none⟩=some u3) wd:=⟨(xS.o _ HBW.o).1,(xS.o _ HBW.o).2.1,(xS.o _ HBW.o).2.2.1,(xS.o _ HBW.o).2.2.2.1,(xS.o _ HBW.o).2.2.2.2,yS.o _ HBW.o⟩;go_upto_region 7 with fail
     go_region_held3 (fun w'=>w'.cell? ⟨g,off,none⟩=some (.string ⟨x.toArray⟩)∧w'.cell? ⟨g,off+1,none⟩=some v0∧w'.cell? ⟨g,off+1+1,none⟩=some v1∧w'.cell? ⟨g,off+1+2,none⟩=some v2∧w'.cell? ⟨g,off+1+3,none⟩=some v3∧w'.cell? ⟨g2,off2,none⟩=some (.string ⟨x.toArray⟩)∧w'.cell? ⟨g2,off2+1,none⟩=some u0∧w'.cell? ⟨g2,off2+1+1,none⟩=some u1∧w'.cell? ⟨g2,off2+1+2,none⟩=some u2∧w'.cell? ⟨g2,off2+1+3,none⟩=some u3)
      (first
       | exact hs0
       | exact HS6.o
       | go_keep)
      (first
       | (go_at_call 100;((with_reducible refine HND.o.mono ?_);rintro ev w6 ⟨rfl,zz,hd6,hz6⟩;have HD6:=Hh hd6;have HZ6:=Hh hz6;have HS6:=Hh (show w6.cell? ⟨g,off,none⟩=some (.string ⟨x.toArray⟩)∧w6.cell? ⟨g,off+1,none⟩=some v0∧w6.cell? ⟨g,off+1+1,none⟩=some v1∧w6.cell? ⟨g,off+1+2,none⟩=some v2∧w6.cell? ⟨g,off+1+3,none⟩=some v3∧w6.cell? ⟨g2,off2,none⟩=some (.string ⟨x.toArray⟩)∧w6.cell? ⟨g2,off2+1,none⟩=some u0∧w6.cell? ⟨g2,off2+1+1,none⟩=some u1∧w6.cell? ⟨g2,off2+1+2,none⟩=some u2∧w6.cell? ⟨g2,off2+1+3,none⟩=some u3 from ⟨(xS.o _ hd6.below).1,(xS.o _ hd6.below).2.1,(xS.o _ hd6.below).2.2.1,(xS.o _ hd6.below).2.2.2.1,(xS.o _ hd6.below).2.2.2.2,yS.o _ hd6.below⟩);clear hd6 hz6))
       | fail)
     clear s3 s4 hs0;go_upto_region 8 with fail;go_quiet (fail);go_wp2;go_roundw
     case rel=>exact⟨al,bl,xA,yA,ca-1,cb-1,_,rfl,rfl,Hh (HS.o.both xK.o xz yK.o yz zz HZ6.o (HD6.o.later (Below.drewN (zB _ _) _)) HE.o)⟩
     case measure=>simp[gF]<;>omega
    ·have hng:¬ cv<0:=by omega
     have HE:=Hh (show qV ((x,n)::al) ((y,m)::bl) s=uK s y::qV ((x,n)::al) bl s from by
      have h1:¬ x<y:=fun h=>by have:=(uT x y).1.2 h;rw[← HCV.o] at this;omega
      have h2:x≠y:=fun h=>by have:=(uT x y).2.2 h;rw[← HCV.o] at this;omega
      exact qF7 n m al bl s ((List.le_iff_lt_or_eq.1 (List.not_lt.1 h1)).resolve_right (fun e=>h2 e.symm)))
     have s2:¬ 9223372036854775807<s.length+1+y.length:=by omega
     obtain⟨s3,s4⟩:=wQ s y;have HCP:=Hh (nK (Stl.wt m) m [u0,u1,u2,u3] _ wd.drew (zo _) (NodeP.of_at _ _ (NodeAt.later HBW.o.drew _ _ yD.o)));have HDR:=Hh (zB wd.heap.size wd).drew;have hs0:(fun w':World=>w'.cell? ⟨g2,off2,none⟩=some (.string ⟨y.toArray⟩)∧w'.cell? ⟨g2,off2+1,none⟩=some u0∧w'.cell? ⟨g2,off2+1+1,none⟩=some u1∧w'.cell? ⟨g2,off2+1+2,none⟩=some u2∧w'.cell? ⟨g2,off2+1+3,none⟩=some u3) wd:=yS.o _ HBW.o;go_upto_region 13 with fail
     go_region_held3 (fun w'=>w'.cell? ⟨g2,off2,none⟩=some (.string ⟨y.toArray⟩)∧w'.cell? ⟨g2,off2+1,none⟩=some u0∧w'.cell? ⟨g2,off2+1+1,none⟩=some u1∧w'.cell? ⟨g2,off2+1+2,none⟩=some u2∧w'.cell? ⟨g2,off2+1+3,none⟩=some u3)
      (first
       | exact hs0
       | exact HS5.o
       | exact HS6.o
       | go_keep)
      (first
       | (go_at_call 156;((with_reducible refine HCP.o.mono ?_);rintro ev w5 ⟨us,rfl,hn5,hb5⟩;obtain⟨t0,t1,t2,t3,t4,t5,rfl⟩:=kF hn5;have HS5:=Hh (yS.o _ (HBW.o.trans ((HDR.o.trans hb5).mono HBW.o.size)));have HAD:=Hh (mF (HDF.o.later (HDR.o.trans hb5)) HZL.o [97,100,100] (s++47::y) t0 t1 t2 t3 t4 t5 ⟨#[97,100,100]⟩ ⟨(s++47::y).toArray⟩ rfl rfl);clear hn5 hb5))
       | (go_at_call 155;((with_reducible refine HAD.o.mono ?_);rintro ev w6 ⟨rfl,hd6⟩;have HS6:=Hh (yS.o _ hd6.below);have HD6:=Hh hd6;clear hd6))
       | fail)
     clear s3 s4 hs0;go_wp2;go_roundw
     case rel=>exact⟨(x,n)::al,bl,some ⟨g,off,none⟩,yA,ca,cb-1,_,rfl,rfl,Hh (HS.o.add yK.o yz _ (qHl s y ..) HD6.o HE.o)⟩
     case measure=>simp[gF]<;>omega
def qJP (w0:World)(x y:Nd):Prop:=∀ (vs us:List Value) (W:World),Below w0.heap.size w0 W→NodeAt w0 x vs→NodeAt w0 y us→Calls Tryz.prog 153 #[.agg vs.toArray,.agg us.toArray] W fun e w'=>e=.returned (.bool (wH x y))∧Below W.heap.size W w'
theorem qKI (w0:World)(nm nm':List UInt8)(x y:Nd)(vs us:List Value)(hS:qJP w0 x y)(hx:NodeAt w0 x vs)(hy:NodeAt w0 y us)(w:World)(hb:Below w0.heap.size w0 w) :
  Calls Tryz.prog 205 #[Value.agg ([Value.string ⟨nm.toArray⟩]++vs).toArray,Value.agg ([Value.string ⟨nm'.toArray⟩]++us).toArray] w fun e w'=>e=.returned (.bool (nm==nm'&&wH x y))∧Below w.heap.size w w':=by
 have HS:=Hh (hS vs us);have HX:=Hh hx;have HY:=Hh hy;obtain⟨k,d,e,ks⟩:=x;obtain⟨k',d',e',ks'⟩:=y;obtain⟨A,c,rfl,_,_⟩:=hx.open;obtain⟨A',c',rfl,_,_⟩:=hy.open;generalize wH (.mk k d e ks) (.mk k' d' e' ks')=r at HS ⊢;simp only[zE,zh];have hb1:Below w.heap.size w ((w.alloc (.cells #[.string ⟨nm.toArray⟩,.string ⟨k.toArray⟩,.string ⟨d.toArray⟩,.bool e,.slice A ks.length c] 224)).alloc (.cells #[.string ⟨nm'.toArray⟩,.string ⟨k'.toArray⟩,.string ⟨d'.toArray⟩,.bool e',.slice A' ks'.length c'] 224)):=((zB _ w).alloc (zo _) _).alloc (by simp) _;have HB1:=Hh hb1;have HSA:=Hh (HS.o _ (hb.trans (hb1.mono hb.size)) HX.o HY.o);clear hS hx hy hb hb1
 cases hq:nm==nm' with
 | false =>
  go_enter Tryz.func205,Tryz.ntmps205;go_wp2_with fail;go_ret;exact⟨rfl,HB1.o⟩
 | true =>
  go_enter Tryz.func205,Tryz.ntmps205;go_wp2_with (go_at_call 153;refine HSA.o.mono ?_;rintro ev w2 ⟨rfl,hb2⟩;have HB2:=Hh (HB1.o.trans (hb2.mono HB1.o.size));clear hb2);go_ret;exact⟨by simp,HB2.o⟩
theorem qIh (w0:World)(A A':Option Addr)(c c':Nat)(ks ks':List (List UInt8×Nd))(hl:ks.length≤140737488355328)(hl':ks'.length≤140737488355328)(hk:KidsOf w0 A ks)(hk':KidsOf w0 A' ks')
  (hS:∀ (j:Nat) (h:j<ks.length) (h':j<ks'.length),qJP w0 ks[j].2 ks'[j].2) (w:World) (hb:Below w0.heap.size w0 w) :
  Calls Tryz.prog 204 #[.slice A ks.length c,.slice A' ks'.length c',.func (.func 205) #[] #[]] w fun e w'=>e=.returned (.bool (vV ks ks'))∧Below w.heap.size w w':=by
 have HK:=Hh hk;have HK':=Hh hk';have HS:=Hh hS;have HB0:=Hh hb;obtain⟨r,hr⟩:∃ r,r=vV ks ks':=⟨_,rfl⟩;rw[← hr];have HR:=Hh hr;clear hk hk' hS hb hr;by_cases hlen:ks.length=ks'.length
 ·have i0:(ks.length:Int)=(ks'.length:Int):=by omega
  have HLEN:=Hh hlen;clear hlen;go_enter Tryz.func204,Tryz.ntmps204;go_upto_region 3 with fail;clear i0;go_upto_region 4 with fail
  go_loopw [17] (fun a wr=>∃ j:Nat,j≤ks.length∧a=.int .i64 j∧Hg (Below w.heap.size w wr)∧Hg (r=vV (ks.drop j) (ks'.drop j))) (fun a _=>ks.length-(intOf a).toNat)
  case atStart=>exact⟨0,zw _,rfl,Hh (zB _ _),HR⟩
  case round =>
   obtain⟨j,hj,rfl,HB,HRJ⟩:=hrel;by_cases hjl:j<ks.length
   ·have hjl':j<ks'.length:=by have:=HLEN.o;omega
    have i1:(j:Int)<(ks.length:Int):=by omega
    have i3:(j:Int)<(ks'.length:Int):=by omega
    have i2:(0:Int)≤(j:Int):=by omega
    have hb0r:=HB0.o.trans (HB.o.mono HB0.o.size);obtain⟨b,off,rfl,hlt,⟨h0,hl0⟩,v0,v1,v2,v3,c1,c2,c3,c4,hn⟩:=HK.o.at hjl;obtain⟨b',off',rfl,hlt',⟨h0',hl0'⟩,u0,u1,u2,u3,c1',c2',c3',c4',hn'⟩:=HK'.o.at hjl';have up:∀ (bb i:Nat) v,bb<w0.heap.size→w0.cell? ⟨bb,i,none⟩=some v→wr.cell? ⟨bb,i,none⟩=some v:=fun bb i v hbb hv=>(hb0r.cell (p:=⟨bb,i,none⟩) hbb).trans hv
    have HSJ:=Hh (HS.o j hjl hjl');have HRN:=Hh (show r=((ks[j].1==ks'[j].1&&wH ks[j].2 ks'[j].2)&&vV (ks.drop (j+1)) (ks'.drop (j+1))) by
     rw[HRJ.o,zF hjl,zF hjl',vV])
    generalize ks[j]=kd at h0 hl0 hn HSJ HRN;generalize ks'[j]=kd' at h0' hl0' hn' HSJ HRN;obtain⟨nm,x⟩:=kd;obtain⟨nm',y⟩:=kd';simp only at h0 hl0 hn HSJ HRN h0' hl0' hn';obtain⟨kx,dx,ex,ksx⟩:=x;obtain⟨ky,dy,ey,ksy⟩:=y;obtain⟨A3,cc3,e3,_,_⟩:=hn.open;obtain⟨A4,cc4,e4,_,_⟩:=hn'.open;simp only[zD,and_true] at e3 e4;obtain⟨rfl,rfl,rfl,rfl⟩:=e3;obtain⟨rfl,rfl,rfl,rfl⟩:=e4
    replace h0:=up _ _ _ hlt h0
    replace c1:=up _ _ _ hlt c1
    replace c2:=up _ _ _ hlt c2
    replace c3:=up _ _ _ hlt c3
    replace c4:=up _ _ _ hlt c4
    replace h0':=up _ _ _ hlt' h0'
    replace c1':=up _ _ _ hlt' c1'
    replace c2':=up _ _ _ hlt' c2'
    replace c3':=up _ _ _ hlt' c3'
    replace c4':=up _ _ _ hlt' c4'
    have HN:=Hh hn;have HN':=Hh hn';have HBR:=Hh hb0r;clear up hn hn' hb0r;have hb4:Below wr.heap.size wr ((wr.alloc (.cells #[.string ⟨nm.toArray⟩,.string ⟨kx.toArray⟩,.string ⟨dx.toArray⟩,.bool ex,.slice A3 ksx.length cc3] 224)).alloc (.cells #[.string ⟨nm'.toArray⟩,.string ⟨ky.toArray⟩,.string ⟨dy.toArray⟩,.bool ey,.slice A4 ksy.length cc4] 224)):=((zB _ wr).alloc (zo _) _).alloc (by simp) _;have HX1:=Hh (qS (wr.alloc (.cells #[.string ⟨nm.toArray⟩,.string ⟨kx.toArray⟩,.string ⟨dx.toArray⟩,.bool ex,.slice A3 ksx.length cc3] 224)) (.cells #[.string ⟨nm'.toArray⟩,.string ⟨ky.toArray⟩,.string ⟨dy.toArray⟩,.bool ey,.slice A4 ksy.length cc4] 224) (zK1 wr (.cells #[.string ⟨nm.toArray⟩,.string ⟨kx.toArray⟩,.string ⟨dx.toArray⟩,.bool ex,.slice A3 ksx.length cc3] 224)));have hx2:=zK1 (wr.alloc (.cells #[.string ⟨nm.toArray⟩,.string ⟨kx.toArray⟩,.string ⟨dx.toArray⟩,.bool ex,.slice A3 ksx.length cc3] 224)) (.cells #[.string ⟨nm'.toArray⟩,.string ⟨ky.toArray⟩,.string ⟨dy.toArray⟩,.bool ey,.slice A4 ksy.length cc4] 224);rw[show (wr.alloc (.cells #[.string ⟨nm.toArray⟩,.string ⟨kx.toArray⟩,.string ⟨dx.toArray⟩,.bool ex,.slice A3 ksx.length cc3] 224)).heap.size=wr.heap.size+1 by simp] at hx2;have HX2:=Hh hx2;have HSM:=Hh (qKI w0 nm nm' (.mk kx dx ex ksx) (.mk ky dy ey ksy) _ _ HSJ.o HN.o HN'.o _ (HBR.o.trans (hb4.mono HBR.o.size)));simp only[zE,zh] at HSM;have HB4:=Hh (HB.o.trans (hb4.mono HB.o.size));clear hx2 hb4;go_upto_region 6 with fail;have hlr':b'<wr.heap.size:=zt hlt' HBR.o.size;have hup:∀ (i:Nat) v,wr.cell? ⟨b',i,none⟩=some v→(wr.alloc (.cells #[.string ⟨nm.toArray⟩,.string ⟨kx.toArray⟩,.string ⟨dx.toArray⟩,.bool ex,.slice A3 ksx.length cc3] 224)).cell? ⟨b',i,none⟩=some v:=fun i v hv=>(zD1 (a:=⟨b',i,none⟩) (Below.heap_alloc _ _ b' hlr')).trans hv
    replace h0':=hup _ _ h0'
    replace c1':=hup _ _ c1'
    replace c2':=hup _ _ c2'
    replace c3':=hup _ _ c3'
    replace c4':=hup _ _ c4'
    clear hup;go_upto_region 7 with fail;clear h0 c1 c2 c3 c4 h0' c1' c2' c3' c4';generalize (wr.alloc (.cells #[.string ⟨nm.toArray⟩,.string ⟨kx.toArray⟩,.string ⟨dx.toArray⟩,.bool ex,.slice A3 ksx.length cc3] 224)).alloc (.cells #[.string ⟨nm'.toArray⟩,.string ⟨ky.toArray⟩,.string ⟨dy.toArray⟩,.bool ey,.slice A4 ksy.length cc4] 224)=w4 at *;obtain⟨y0,y1,y2,y3⟩:=cq HX1.o;have y4:=ce4 HX1.o;obtain⟨z0,z1,z2,z3⟩:=cq HX2.o;have z4:=ce4 HX2.o;generalize (nm==nm'&&wH (.mk kx dx ex ksx) (.mk ky dy ey ksy))=bb at HSM HRN
    cases bb with
    | true =>
     have HRM:=Hh (show r=vV (ks.drop (j+1)) (ks'.drop (j+1)) by rw[HRN.o,Bool.true_and]);go_wp2_with (go_at_call 205;refine HSM.o.mono ?_;rintro ev w5 ⟨rfl,hb5⟩;have HB5:=Hh (HB4.o.trans (hb5.mono HB4.o.size));clear hb5);clear y0 y1 y2 y3 y4 z0 z1 z2 z3 z4;go_roundw
     case rel=>exact⟨j+1,hjl,by go_num,HB5,HRM⟩
     case measure=>simp[intOf];omega
    | false =>
     have HRM:=Hh (show r=false by rw[HRN.o,Bool.false_and]);go_wp2_with (go_at_call 205;refine HSM.o.mono ?_;rintro ev w5 ⟨rfl,hb5⟩;have HB5:=Hh (HB4.o.trans (hb5.mono HB4.o.size));clear hb5);go_ret;exact⟨by rw[HRM.o];rfl,HB5.o⟩
   ·have i1:¬ (j:Int)<(ks.length:Int):=by omega
    have HRM:=Hh (show r=true by rw[HRJ.o,zG (by omega),zG (by have:=HLEN.o;omega)];rfl);go_wp2;go_ret;exact⟨by rw[HRM.o];rfl,HB.o⟩
 ·have i0:¬ (ks.length:Int)=(ks'.length:Int):=by omega
  have HRM:=Hh (show r=false by
   rw[HR.o,Bool.eq_false_iff]
   intro h
   rw[(qA5 ks ks').1 h] at hlen
   exact hlen rfl)
  go_enter Tryz.func204,Tryz.ntmps204;go_wp2;go_ret;exact⟨by rw[HRM.o];rfl,zB _ _⟩
theorem qHQ (a b:List UInt8):((a==b)=true)∨((a==b)=false):=by cases a==b<;>simp
theorem qHv (w0:World):∀ (N:Nat) (x y:Nd),Stl.wt x≤N→qJP w0 x y
 | 0,x,y,hN=>by obtain⟨k,d,e,ks⟩:=x;simp[Stl.wt] at hN
 | N+1,.mk k d e ks,.mk k' d' e' ks',hN=>by
  intro vs us w hb hx hy;have HX:=Hh hx;have HY:=Hh hy;obtain⟨A,c,rfl,hbd,hko⟩:=hx.open;obtain⟨A',c',rfl,hbd',hko'⟩:=hy.open;have hb1:Below w.heap.size w ((w.alloc (.cells #[.string ⟨k.toArray⟩,.string ⟨d.toArray⟩,.bool e,.slice A ks.length c] 134)).alloc (.cells #[.string ⟨k'.toArray⟩,.string ⟨d'.toArray⟩,.bool e',.slice A' ks'.length c'] 134)):=((zB _ w).alloc (zo _) _).alloc (by simp) _;have HX1:=Hh (qS (w.alloc (.cells #[.string ⟨k.toArray⟩,.string ⟨d.toArray⟩,.bool e,.slice A ks.length c] 134)) (.cells #[.string ⟨k'.toArray⟩,.string ⟨d'.toArray⟩,.bool e',.slice A' ks'.length c'] 134) (zK1 w (.cells #[.string ⟨k.toArray⟩,.string ⟨d.toArray⟩,.bool e,.slice A ks.length c] 134)));have hx2:=zK1 (w.alloc (.cells #[.string ⟨k.toArray⟩,.string ⟨d.toArray⟩,.bool e,.slice A ks.length c] 134)) (.cells #[.string ⟨k'.toArray⟩,.string ⟨d'.toArray⟩,.bool e',.slice A' ks'.length c'] 134);rw[show (w.alloc (.cells #[.string ⟨k.toArray⟩,.string ⟨d.toArray⟩,.bool e,.slice A ks.length c] 134)).heap.size=w.heap.size+1 by simp] at hx2;have HX2:=Hh hx2;have HEQ:=Hh (qIh w0 A A' c c' ks ks' hbd.2.1 hbd'.2.1 hko hko' (fun j h h'=>qHv w0 N ks[j].2 ks'[j].2 (zq (Stl.wt_mem ks j h) (by simp only[Stl.wt] at hN;omega))) _ (hb.trans (hb1.mono hb.size)));have HB1:=Hh hb1;have HR:=Hh (show wH (.mk k d e ks) (.mk k' d' e' ks')=(k==k'&&d==d'&&e==e'&&vV ks ks') by rw[wH]);generalize wH (.mk k d e ks) (.mk k' d' e' ks')=r at HR ⊢;generalize vV ks ks'=sk at HEQ HR;clear hx hy hbd hbd' hko hko' hb1 hx2 hN hb;go_enter Tryz.func153,Tryz.ntmps153;go_upto_region 1 with fail;generalize (w.alloc (.cells #[.string ⟨k.toArray⟩,.string ⟨d.toArray⟩,.bool e,.slice A ks.length c] 134)).alloc (.cells #[.string ⟨k'.toArray⟩,.string ⟨d'.toArray⟩,.bool e',.slice A' ks'.length c'] 134)=w4 at *;obtain⟨y0,y1,y2,y3⟩:=cq HX1.o;obtain⟨z0,z1,z2,z3⟩:=cq HX2.o
  rcases qHQ k k' with hk | hk
  ·rcases qHQ d d' with hd | hd
   ·rw[hk,hd] at HR
    cases e<;>cases e'
    ·go_wp2_with (go_at_call 204;refine HEQ.o.mono ?_;rintro ev w2 ⟨rfl,hb2⟩;have HB2:=Hh (HB1.o.trans (hb2.mono HB1.o.size));clear hb2);go_ret;exact⟨by rw[HR.o];simp,HB2.o⟩
    ·go_wp2_with fail;go_ret;exact⟨by rw[HR.o];rfl,HB1.o⟩
    ·go_wp2_with fail;go_ret;exact⟨by rw[HR.o];rfl,HB1.o⟩
    ·go_wp2_with (go_at_call 204;refine HEQ.o.mono ?_;rintro ev w2 ⟨rfl,hb2⟩;have HB2:=Hh (HB1.o.trans (hb2.mono HB1.o.size));clear hb2);go_ret;exact⟨by rw[HR.o];simp,HB2.o⟩
   ·rw[hk,hd] at HR;go_wp2_with fail;go_ret;exact⟨by rw[HR.o];rfl,HB1.o⟩
  ·rw[hk] at HR;go_wp2_with fail;go_ret;exact⟨by rw[HR.o];rfl,HB1.o⟩
end Go.Proofs.YtbmkaekimccdgaaGreatDoor
