/- Texts of this claim, merged: GoneLaw, GoneRead, GoneErrs. -/
import Derived.Deep.Slices
import Derived.Deep.Strs
import Derived.LaidSub
import Derived.OpenShut
import Derived.Stop.LaidErr
import Derived.Test.YthogfjmnnaoldaaGreatDoorRows
import Derived.Test.YthogfjmnnaoldaaGreatDoorGm48
set_option maxHeartbeats 16000000
set_option maxRecDepth 1000000
set_option linter.all false
namespace Go.Proofs.YthogfjmnnaoldaaGreatDoor
open Go.RowKit Go.Sort Go.Shelf Stl
theorem qH7 (by_:UInt8):∀ (s a r:List UInt8),cutAt by_ s=some (a,r)→a=s.takeWhile fun c=>c != by_
 | [],_,_,h=>by unfold cutAt at h;cases h
 | c::s,a,r,h=>by
  unfold cutAt at h
  by_cases hc:c=by_
  ·rw [zN1 hc] at h
   cases h
   rw [List.takeWhile_cons,zM1 (by simp [hc])]
  ·rw [zM1 hc] at h
   cases hq:cutAt by_ s with
   | none=>rw [hq] at h;cases h
   | some q =>
    obtain ⟨a',r'⟩:=q
    rw [hq] at h
    cases h
    rw [List.takeWhile_cons,zN1 (by simpa using hc),← qH7 by_ s a' r' hq]
theorem qPV {i:Nat} {s:Sto} {t:Stl.Tape} (h:qCV i s t):qCV (i+1) s t:=⟨h.sto,h.clean,h.disk,by have:=h.inos;omega,by have:=h.next;omega,by have:=h.ents;omega,h.off,h.cut,by have:=h.len;omega⟩
theorem qEb {i:Nat} {s:Sto} {t:Stl.Tape} (h:qCV i s t):qG2 i s t:=⟨h.sto,by rw [h.disk];decide,h.inos,h.next,h.ents,h.off,h.cut,h.len⟩
theorem qIY {α:Type} (P:α→Bool):∀ (l:List α) (i:Nat) (x:α),l[i]?=some x→P x=true→(l.filter P)[((l.take i).filter P).length]?=some x
 | [],_,_,h,_=>by simp at h
 | y::r,0,x,h,hp=>by
  simp only [List.getElem?_cons_zero,zC1] at h
  subst h
  rw [zL hp]
  rfl
 | y::r,i+1,x,h,hp=>by
  have h1:=qIY P r i x (by simpa using h) hp
  by_cases hy:P y=true
  ·rw [List.take_succ_cons,zL hy,zL hy,zS,List.getElem?_cons_succ]
   exact h1
  ·rw [List.take_succ_cons,zK hy,zK hy]
   exact h1
theorem qJC {α:Type} (P:α→Bool) {l:List α} {i:Nat} {x:α} (h:l[i]?=some x):((l.take (i+1)).filter P).length=((l.take i).filter P).length+(if P x=true then 1 else 0):=by
 obtain ⟨h1,rfl⟩:=zN.1 h
 rw [zq h1,List.filter_append,zQ]
 by_cases hp:P l[i]=true
 ·rw [zN1 hp,zL hp];rfl
 ·rw [zM1 hp,zK hp];rfl
theorem PtAt.packs {w:World} {c:Nat→Col} {A:Option Addr} {ys:List PX} {m:List (Pk×Nd)} (h:PtAt w c A ys m):PacksAt w A ys :=
 ⟨fun hn=>by
  obtain ⟨g,ha,hg,_,hj⟩:=h.row hn
  exact ⟨g,0,ha,hg,fun j u hu=>by rw [zx];exact hj j u hu⟩,
  fun y hy=>⟨(h.refs y hy).1,(h.refs y hy).2.strs y.cap⟩⟩
theorem qH4 {α β:Type} (F:α→Except Nat β):∀ (l:List α) (m:List (α×β)),l.mapM (fun p=>(F p).map fun n=>(p,n))=.ok m→m.map (·.1)=l
 | [],m,h=>by cases h;rfl
 | x::r,m,h=>by
  rw [List.mapM_cons] at h
  cases hx:F x with
  | error e=>rw [hx] at h;cases h
  | ok y =>
   rw [hx] at h
   cases hr:r.mapM (fun p=>(F p).map fun n=>(p,n)) with
   | error e=>rw [hr] at h;cases h
   | ok m' =>
    rw [hr] at h
    cases h
    rw [zX,qH4 F r m' hr]
theorem qIe {w:World} {base cap:Nat} {A:Option Addr} {ys:List PX} (hr:w.ownsRow base 47 6 (.slice A ys.length cap) ys.length ((ys.map PX.bare).flatMap qBK)) (hs:∀ y∈ys,y.p.refs.length≤y.cap∧Strs w (.slice y.a y.p.refs.length y.cap) y.p.refs):PacksAt w A (ys.map PX.bare):=by
 refine ⟨fun hn=>?_,fun y hy=>?_⟩
 ·rcases hr.2 with ⟨e,h0⟩ | ⟨g,cp,cur,e,_,hg,_⟩
  ·exact absurd (by rw [zT.1 h0];rfl) hn
  ·injection e with e1 e2 e3
   subst e1 e3
   refine ⟨g,0,rfl,qAa hg,fun j u hu=>?_⟩
   have hj:=(zN.1 hu).1
   rw [qCb,zV] at hj
   rw [zx,hr.cellAt j (by omega),hu]
 ·obtain ⟨y0,hy0,rfl⟩:=zf.1 hy
  exact hs y0 hy0
theorem qNN (ys:List PX):(ys.map PX.bare).map (·.p)=ys.map (·.p):=by rw [zY];rfl
theorem qOT {w:World} {base:Nat} {A5:Option Addr} {cp5:Nat} {ys:List PX} {lp:List Pk} (hl:ys.map (·.p)=lp) (hP:qDc lp) (hr:w.ownsRow base 47 6 (.slice A5 ys.length cp5) ys.length ((ys.map PX.bare).flatMap qBK)) (hs:∀ y∈ys,y.p.refs.length≤y.cap∧Strs w (.slice y.a y.p.refs.length y.cap) y.p.refs)
  {A6:Option Addr} {cp6:Nat} {names:List (List UInt8)} (hn:Strs w (.slice A6 names.length cp6) names) (hnl:names.length≤1000) (hin:∀ x∈names,x∈lp.map (·.name)) :
  Calls Tryz.prog 10 #[.slice A5 ys.length cp5,.slice A6 names.length cp6] w (qPG w (closure lp names)):=by
 subst hl
 have h1:=qHL (cap:=cp5) (cn:=cp6) (qIe hr hs) (by rw [qNN];exact hP) hn hnl (fun x hx=>by
  have h2:=hin x hx
  rw [zY] at h2
  rw [zY]
  exact h2)
 rw [qNN,zV] at h1
 exact h1
structure GnSt (w2 wr:World) (c2 cr:Nat→Col) (b tp:Nat) (p:Nat→Addr) (i:Nat) (s:Sto) (t:Stl.Tape):Prop where
 ext:Ext w2 wr c2 cr Sdo
 sto:StAt wr cr b tp p s t
 gone:qCV i s t
theorem qHz (w:World) (p:Nat→Addr) (hE:Errs w p) (hV:LibVars w) (v:Value) (l:List (List UInt8)) (hl:l.length≤9223372036854775806) (hs:Strs w v l) :
  Calls Tryz.prog 3 #[v] w fun e w'=>e=.returned (.bool true)∧Below w.heap.size w w':=by
 obtain ⟨A,cl,rfl,hst⟩:=hs
 have HKP:=Hh (qOs w p hE hV)
 have HS0:=Hh (show Strs w (.slice A l.length cl) l from ⟨A,cl,rfl,hst⟩)
 have HRL:=Hh (show RoStrs w (fun _=>.ro) A l from fun hn=>by
  obtain ⟨b,off,h1,h2,h3⟩:=hst hn
  exact ⟨b,off,h1,h2,rfl,h3⟩)
 have HEN:=Hh (show Env w (fun _=>Col.ro) p from ⟨w,hE,hV,zC _ _,fun _ _=>rfl⟩)
 clear hE hV hst
 go_enter Tryz.func3,Tryz.ntmps3
 go_upto_region 2 with (go_at_call 4;refine HKP.out.mono ?_;rintro ev w1 ⟨rfl,hb1⟩;have HB1:=Hh hb1;clear hb1)
 have HLL:=Hh (qHp (.slice A l.length cl) l 30 (by decide) hl w1 (HS0.out.later HB1.out))
 have HLI:Hid (qLo l 30=if qKw l 30 then 1 else 0):=Hh rfl
 cases hll:qKw l 30 with
 | true =>
  rw [hll] at HLI
  have h1:qLo l 30=1:=HLI.out
  rw [h1] at HLL
  clear hll h1 HLI
  go_wp2_with (go_at_call 5;refine HLL.out.mono ?_;rintro ev wz ⟨rfl,hwz⟩;have hwz:=hwz.symm;subst hwz)
  go_ret
  exact ⟨rfl,HB1.out⟩
 | false =>
  rw [hll] at HLI
  have h1:qLo l 30=0:=HLI.out
  rw [h1] at HLL
  have hlq:l.length≤30∧∀ x∈l,x.length≤250:=by
   unfold qKw at hll
   rw [Bool.or_eq_false_iff] at hll
   refine ⟨by have:=hll.1;simp at this;omega,fun x hx=>?_⟩
   have h2:=List.any_eq_false.1 hll.2 x hx
   simp at h2
   omega
  have hl30:=hlq.1
  have HL250:=Hh hlq.2
  clear hll h1 HLI hlq
  have HNW:=Hh (qIt 200 (by decide) (by decide) w1 (fun _=>.ro))
  go_upto_region 4 with (go_at_call 5;refine HLL.out.mono ?_;rintro ev wz ⟨rfl,hwz⟩;have hwz:=hwz.symm;subst hwz)
  have HEN1:=Hh (HEN.out.below HB1.out)
  have HRL1:=Hh (HRL.out.ext (Ext.of_below HB1.out (fun _=>.ro) S0) rfl)
  go_upto_region 8 with (go_at_call 6;refine HNW.out.mono ?_;rintro ev w2 ⟨b,tp,c2,rfl,_,he2,hs2,ht2⟩;have HE2:=Hh he2;have HS2:=Hh (show StAt w2 c2 b tp p (Sto.new 200) ⟨[],false,none⟩ from ⟨hs2,ht2,HEN1.out.ext he2 rfl⟩);clear he2 hs2 ht2)
  have HRL2:=Hh (HRL1.out.ext HE2.out rfl)
  go_loopw [6] (fun a wr=>∃ (i:Nat) (cr:Nat→Col) (s:Sto) (t:Stl.Tape),a=.int .i64 i∧i≤l.length∧Hid (GnSt w2 wr c2 cr b tp p i s t)) (fun a _=>l.length-(intOf a).toNat)
  case atStart=>exact ⟨0,c2,_,_,rfl,zy _,Hh ⟨Ext.refl _ _ _,HS2.out,qK6⟩⟩
  case round =>
   obtain ⟨i,cr,s,t,rfl,hi,HS⟩:=hrel
   by_cases hil:i<l.length
   ·have i1:(i:Int)<(l.length:Int):=by omega
    have i2:(0:Int)≤(i:Int):=by omega
    have HRr:=Hh (HRL2.out.ext HS.out.ext rfl)
    obtain ⟨g,off,hA,hgl,q0⟩:=(HRr.out.strs cl).cellAt hil
    subst hA
    have hlen:=HL250.out _ (zP hil)
    generalize l[i]=line at *
    have HRC:=Hh (qOC line 32 (by omega) wr)
    go_upto_region 11 with (go_at_call 7;refine HRC.out.mono ?_;rintro ev w3 ⟨A3,cp3,lw,rfl,hlw1,hlw2,hfst,hr3,hb3⟩;have HR3:=Hh hr3;have HB3:=Hh hb3;have HFS:=Hh hfst;clear hr3 hb3 hfst)
    have HE3:=Hh (Ext.of_below HB3.out cr S0)
    have HS3:=Hh (HS.out.sto.ext HE3.out)
    have hap:∃ g3,A3=some ⟨g3,0,none⟩:=by
     rcases HR3.out.2 with ⟨_,h0⟩ | ⟨g,cp,cur,e,_,h6,_⟩
     ·omega
     ·injection e with e _ _;exact ⟨g,e⟩
    obtain ⟨g3,rfl⟩:=hap
    have r0:w3.cell? ⟨g3,0,none⟩=some (.string ⟨(line.takeWhile fun c=>c != 32).toArray⟩):=by
     rw [HR3.out.cellAt 0 (by omega),zO,HFS.out]
     rfl
    have n1:(0:Int)<(lw.length:Int):=by omega
    have q3:w3.cell? ⟨g,off+i,none⟩=some (.string ⟨line.toArray⟩):=(HB3.out.cell (p:=⟨g,off+i,none⟩) hgl).trans q0
    clear q0
    have HGU:=Hh (qPV HS.out.gone)
    have HEr:=Hh (HS.out.ext.trans (HE3.out.mono (S':=Sdo) (fun _ _=>rfl)))
    have HCF:=Hh (fun r=>qH7 32 line [114,111,116] r)
    generalize (line.takeWhile fun c=>c != 32)=fw at *
    cases hfw:fw==[114,111,116] with
    | true =>
     go_wp2
     go_roundw
     case rel=>exact ⟨i+1,cr,s,t,by go_num,hil,Hh ⟨HEr.out,HS3.out,HGU.out⟩⟩
     case measure=>simp [intOf];omega
    | false =>
     have HDO:=Hh (qFW HS3.out (qEb HS.out.gone) (by omega) line hlen)
     have HGS:=Hh (qIq HS.out.gone (by omega) hlen (fun r hr=>by
      rw [← HCF.out r hr] at hfw
      simp at hfw))
     go_wp2_with (go_at_call 8;refine HDO.out.mono ?_;rintro ev w4 ⟨a4,er4,c4,rfl,he4,hs4,_⟩;have HE4:=Hh he4;have HS4:=Hh hs4;clear he4 hs4)
     go_roundw
     case rel=>exact ⟨i+1,c4,_,_,by go_num,hil,Hh ⟨HEr.out.trans HE4.out,HS4.out,HGS.out⟩⟩
     case measure=>simp [intOf];omega
   ·have i1:¬ (i:Int)<(l.length:Int):=by omega
    obtain rfl:i=l.length:=by omega
    have hso:=HS.out.gone.sto
    obtain ⟨m,hm⟩:=qJm hso HS.out.gone.clean
    have HM:=Hh (show m.map (·.1)=s.l from qH4 (fun q:Pk=>s.d.get q.k) s.l m hm)
    have hm2:=qKW hso hm
    obtain ⟨m2,hm2e⟩:∃ m2,m2=m.filter fun x=>(closure s.l s.roots).contains x.1.name:=⟨_,rfl⟩
    rw [← hm2e] at hm2
    have HM2:=Hh hm2
    have HM2E:=Hh hm2e
    have hgl:qAX s:=qHC (qEb HS.out.gone) (by omega)
    obtain ⟨xbd,xA,xcap,xzs,xR,xrc,hx⟩:=HS.out.sto.sto.open
    have HP1:=Hh (qIg hx hgl HS.out.sto.env)
    rw [hm] at HP1
    have HSO:=Hh hso
    have HG0:=Hh HS.out.gone
    have HE20:=Hh HS.out.ext
    have HST0:=Hh HS.out.sto
    have HGC:=Hh (qNP HS.out.gone (by omega))
    have HG1:=Hh (show qCV (l.length+1) s.gc.2 { t with b:=t.b++record [103,99] } from by
     have h1:=qIq HS.out.gone (by omega) (line:=[103,99]) (by decide) (fun r h=>by rw [show cutAt 32 [103,99]=none from rfl] at h;cases h)
     rw [HGC.out] at h1
     exact h1)
    have HGC2:=Hh (qNP HG1.out (by omega))
    have HZ:=Hh (show dec s.gc.2.gc.1=[48] from by rw [qOL hso];rfl)
    have HCN:=Hh (qK0 hso)
    have HRT:=Hh (show s.gc.2.gc.2.roots=s.roots from (qNM HG1.out.sto).2.2.1.trans (qNM hso).2.2.1)
    have hgl2:qAX s.gc.2:=qHC (qEb HG1.out) (by omega)
    have HGL2:=Hh hgl2
    clear hm hso hgl hx HS hgl2 hm2 hm2e
    go_upto_region 14 with (go_at_call 9;refine HP1.out.mono ?_;rintro ev wa ⟨v1,er1,rfl,hba,rfl,A1,ys1,cp1,rfl,hcp1,hpt1⟩;have HBA:=Hh hba;have HPT1:=Hh hpt1;clear hba hpt1)
    have HEA:=Hh (qIQ cr S0 HBA.out)
    have HSA:=Hh (HST0.out.ext HEA.out)
    have HD1:=Hh (qFW HSA.out (qEb HG0.out) (by omega) [103,99] (by decide))
    go_upto_region 15 with (go_at_call 8;refine HD1.out.mono ?_;rintro ev wb ⟨a2,er2,cb,rfl,heb,hsb,hmb⟩;rw [HGC.out] at hsb hmb;obtain ⟨rfl,rfl⟩:=hmb;generalize dec s.gc.1=dga at *;have HEB:=Hh heb;have HSB:=Hh hsb;clear heb hsb)
    have HPT1b:=Hh (HPT1.out.ext HEB.out rfl)
    obtain ⟨ybd,yA,ycap,yzs,yR,yrc,hx2⟩:=HSB.out.sto.open
    have HP2:=Hh (qIg hx2 HGL2.out HSB.out.env)
    rw [HM2.out] at HP2
    clear hx2
    go_upto_region 16 with (go_at_call 9;refine HP2.out.mono ?_;rintro ev wc ⟨v2,er3,rfl,hbc,rfl,A2,ys2,cp2,rfl,hcp2,hpt2⟩;have HBC:=Hh hbc;have HPT2:=Hh hpt2;clear hbc hpt2)
    have HEC:=Hh (qIQ cb S0 HBC.out)
    have HSC:=Hh (HSB.out.ext HEC.out)
    have HPT1c:=Hh (HPT1b.out.ext HEC.out rfl)
    have HD2:=Hh (qFW HSC.out (qEb HG1.out) (by omega) [103,99] (by decide))
    go_upto_region 17 with (go_at_call 8;refine HD2.out.mono ?_;rintro ev wd ⟨a4,er4,cd,rfl,hed,hsd,hmd⟩;rw [HGC2.out] at hsd hmd;obtain ⟨rfl,rfl⟩:=hmd;rw [HZ.out];have HED:=Hh hed;have HSD:=Hh hsd;clear hed hsd)
    have HPT1d:=Hh (HPT1c.out.ext HED.out rfl)
    have HPT2d:=Hh (HPT2.out.ext HED.out rfl)
    have HEW:=Hh (show Below w.heap.size w wd from HB1.out.trans ((((((HE2.out.mono (S':=Sdo) (fun _ _=>rfl)).trans HE20.out).trans (HEA.out.mono (fun _ _=>rfl))).trans HEB.out).trans (HEC.out.mono (fun _ _=>rfl)) |>.trans HED.out).below HB1.out.size (fun _ _=>rfl)))
    have hyl1:ys1.length=m.length:=by have:=congrArg List.length HPT1.out.eq;simpa using this
    have hyl2:=congrArg List.length HPT2.out.eq
    rw [zV,zV] at hyl2
    have hm40:m.length≤40:=by
     have h1:=congrArg List.length HM.out
     rw [zV] at h1
     have:=HSO.out.pks.many
     omega
    have HYP:=Hh (show ys1.map (·.p)=s.l from HPT1.out.eq.trans HM.out)
    have HBR:=Hh (show Calls Tryz.prog 11 #[.slice A1 m.length cp1] wd (qPt ys1 wd) from by
     have h1:=qMM (cap:=cp1) HPT1d.out.packs (by omega)
     rwa [hyl1] at h1)
    have HREF:=Hh (fun (W:World) (hb:Below wd.heap.size wd W)=>(fun y hy=>⟨(HPT1d.out.refs y hy).1,((HPT1d.out.refs y hy).2.strs y.cap).later hb⟩:∀ y∈ys1,y.p.refs.length≤y.cap∧Strs W (.slice y.a y.p.refs.length y.cap) y.p.refs))
    obtain ⟨zbd,zA,zcap,zzs,zR,zrc,hx3⟩:=HSD.out.sto.open
    have HRO:=Hh (fun (W:World) (hb:Below wd.heap.size wd W)=>qNt (hx3.below hb) (by rw [HRT.out];have:=qCt HSO.out;omega))
    rw [HRT.out] at HRO
    have hrf1:s.roots.length≤1000:=by have:=qCt HSO.out;omega
    clear hx3
    go_upto_region 19 with fail
    go_upto_region 20 with (first
     | (go_at_call 11;refine HBR.out.mono ?_;rintro ev we ⟨A5,cp5,rfl,hr5,hb5⟩;have HR5:=Hh hr5;have HB5:=Hh hb5;clear hr5 hb5)
     | (go_at_call 12;refine (HRO.out _ HB5.out).mono ?_;rintro ev wf ⟨A6,cp6,rfl,hr6,hb6⟩;have HR6:=Hh hr6;have HB56:=Hh hb6;have HB6:=Hh (HB5.out.trans (hb6.mono HB5.out.size));have hcw:=qOT HYP.out HSO.out.pks (qDj HR5.out HB56.out) (HREF.out _ HB6.out) (qBG HR6.out) hrf1 HSO.out.roots;rw [hyl1] at hcw;have HCW:=Hh hcw;clear hr6 hb6 hcw)
     | (go_at_call 10;refine HCW.out.mono ?_;rintro ev wg ⟨v7,rfl,hr7,hb7⟩;have HR7:=Hh hr7;have HB7:=Hh (HB6.out.trans (hb7.mono HB6.out.size));clear hr7 hb7)
     | fail)
    obtain ⟨A7,cp7,e7⟩:=Stl.owns_slice _ HR7.out
    subst e7
    have HX8:=Hh (zL1 wg (.cells #[.int .i64 0,.int .i64 (-1)] 37))
    have HB8:=Hh (HB7.out.alloc HB7.out.size (.cells #[.int .i64 0,.int .i64 (-1)] 37))
    have HR8:=Hh (HR7.out.alloc (.cells #[.int .i64 0,.int .i64 (-1)] 37))
    generalize wg.alloc (.cells #[.int .i64 0,.int .i64 (-1)] 37)=wh at *
    have x0:wh.cell? ⟨wg.heap.size,0,none⟩=some (.int .i64 0):=zK1 wh _ 0 _ _ _ HX8.out
    have HCLN:=Hh (show (closure s.l s.roots).length≤1000 from by rw [← HCN.out];have h1:=zU (fun p:Pk=>(closure s.l s.roots).contains p.name) s.l;have:=HSO.out.pks.many;omega)
    have HCNT:=Hh (show m2.length=(closure s.l s.roots).length from by
     rw [HM2E.out,← HCN.out,← HM.out,List.filter_map,zV]
     rfl)
    go_upto_region 24 with fail
    clear x0
    have HPA1:=Hh (HPT1d.out.packs.later HB8.out)
    have HPA2:=Hh (HPT2d.out.packs.later HB8.out)
    have HND:=Hh (show ∀ (j k:Nat) y z q,ys1[j]?=some y→ys2[k]?=some z→m[j]?=some q→m2[k]?=some q→NodeAt wh q.2 y.node∧NodeAt wh q.2 z.node from fun j k y z q h1 h2 h3 h4=>⟨NodeAt.later HB8.out _ _ (NodeP.at _ _ (HPT1d.out.node j y q h1 h3)),NodeAt.later HB8.out _ _ (NodeP.at _ _ (HPT2d.out.node k z q h2 h4))⟩)
    have HEQ1:=Hh HPT1.out.eq
    have HEQ2:=Hh HPT2.out.eq
    have HWB:=Hh (HEW.out.trans (HB8.out.mono HEW.out.size))
    have hwl:=HCLN.out
    clear HCN HGC HGC2 HP1 HP2 HD1 HD2 HBR HRO HREF HCW
    generalize closure s.l s.roots=want at *
    have HFA:=Hh (fun (i:Nat) (q:Pk×Nd) (h1:m[i]?=some q) (h2:want.contains q.1.name=true)=>(show m2[((m.take i).filter fun x=>want.contains x.1.name).length]?=some q from by rw [HM2E.out];exact qIY (fun x:Pk×Nd=>want.contains x.1.name) m i q h1 h2))
    have HFSN:=Hh (fun (i:Nat) (q:Pk×Nd) (h1:m[i]?=some q)=>qJC (fun x:Pk×Nd=>want.contains x.1.name) h1)
    have HCE:=Hh (show ((m.take m.length).filter fun x=>want.contains x.1.name).length=want.length from by rw [zn,← HM2E.out];exact HCNT.out)
    go_loopw [18,19] (fun kv a wr=>∃ i k:Nat,kv=.int .i64 k∧a=.int .i64 i∧i≤m.length∧k≤i∧k=((m.take i).filter fun x=>want.contains x.1.name).length∧Hid (Below wh.heap.size wh wr)) (fun _ a _=>m.length-(intOf a).toNat)
    case atStart=>exact ⟨0,0,rfl,rfl,zy _,zr _,rfl,Hh (zC _ _)⟩
    case round =>
     obtain ⟨i,k,rfl,rfl,hi,hki,hk,HB⟩:=hrel
     have HK:=Hh hk
     clear hk
     by_cases hil:i<m.length
     ·have i1:(i:Int)<(m.length:Int):=by omega
      have i2:(0:Int)≤(i:Int):=by omega
      have hy1:i<ys1.length:=by omega
      obtain ⟨g1,o1,hA1,hg1,p0,p1,p2,p3,p4,p5⟩:=(HPA1.out.later HB.out).at hy1
      subst hA1
      have hmi:m[i]?=some m[i]:=zM hil
      have hyi:ys1[i]?=some ys1[i]:=zM hy1
      have hnm:ys1[i].p=m[i].1:=by
       have h1:=congrArg (fun l:List Pk=>l[i]?) HEQ1.out
       simp only [zO,hmi,hyi,zB1,zC1] at h1
       exact h1
      have HFi:=Hh (HFA.out i _ hmi)
      have HFs:=Hh (HFSN.out i _ hmi)
      have HMI:=Hh hmi
      have HYI:=Hh hyi
      rw [hnm] at p0
      clear hnm hmi hyi p1
      generalize ys1[i]=y at *
      generalize m[i]=q at *
      have HIT:=Hh (qCI q.1.name (.slice A7 want.length cp7) want (by omega) wr ((qI8 HR8.out).later HB.out))
      cases hct:want.contains q.1.name with
      | false =>
       rw [hct] at HIT HFs
       clear hct
       go_wp2_with (go_at_call 13;refine HIT.out.mono ?_;rintro ev wz ⟨rfl,hwz⟩;have hwz:=hwz.symm;subst hwz)
       go_roundw
       case rel=>exact ⟨i+1,k,rfl,by go_num,hil,by omega,by rw [HFs.out,HK.out];rfl,HB⟩
       case measure=>simp [intOf];omega
      | true =>
       rw [hct] at HIT HFs
       have hm2k:=HFi.out hct
       rw [← HK.out] at hm2k
       clear hct
       have hk2:k<m2.length:=(zN.1 hm2k).1
       have k1:(k:Int)<(m2.length:Int):=by omega
       have k2:(0:Int)≤(k:Int):=by omega
       have k3:¬ (m2.length:Int)≤(k:Int):=by omega
       have hz2:k<ys2.length:=by omega
       obtain ⟨g2,o2,hA2,hg2,r0,r1,r2,r3,r4,r5⟩:=(HPA2.out.later HB.out).at hz2
       subst hA2
       have hzk:ys2[k]?=some ys2[k]:=zM hz2
       have hnz:ys2[k].p=q.1:=by
        have h1:=congrArg (fun l:List Pk=>l[k]?) HEQ2.out
        simp only [zO,hm2k,hzk,zB1,zC1] at h1
        exact h1
       rw [hnz] at r0
       have HNN:=Hh (HND.out i k y _ q HYI.out hzk HMI.out hm2k)
       clear hnz hzk r1
       generalize ys2[k]=z at *
       have HSM:=Hh (show Calls Tryz.prog 14 #[.agg #[.string z.t0,.string z.t1,.bool z.t2,.slice z.t3 z.t4 z.t5],.agg #[.string y.t0,.string y.t1,.bool y.t2,.slice y.t3 y.t4 y.t5]] wr.drew (fun e w'=>e=.returned (.bool true)∧Below wr.drew.heap.size wr.drew w') from by
        have h1:=qKl wh _ q.2 q.2 (zr _) z.node y.node wr.drew (HB.out.trans (((zC wr.heap.size wr).drew).mono HB.out.size)) HNN.out.2 HNN.out.1
        rwa [(qId q.2 q.2).2 rfl] at h1)
       have HDRW:=Hh (zC wr.heap.size wr).drew
       generalize q.1.name=nm at *
       have hs10:(fun w':World=>w'.cell? ⟨g2,o2+k*6,none⟩=some (.string ⟨nm.toArray⟩)∧w'.cell? ⟨g2,o2+k*6+2,none⟩=some (.string z.t0)∧w'.cell? ⟨g2,o2+k*6+2+1,none⟩=some (.string z.t1)∧w'.cell? ⟨g2,o2+k*6+2+2,none⟩=some (.bool z.t2)∧w'.cell? ⟨g2,o2+k*6+2+3,none⟩=some (.slice z.t3 z.t4 z.t5)∧w'.cell? ⟨g1,o1+i*6,none⟩=some (.string ⟨nm.toArray⟩)∧w'.cell? ⟨g1,o1+i*6+2,none⟩=some (.string y.t0)∧w'.cell? ⟨g1,o1+i*6+2+1,none⟩=some (.string y.t1)∧w'.cell? ⟨g1,o1+i*6+2+2,none⟩=some (.bool y.t2)∧w'.cell? ⟨g1,o1+i*6+2+3,none⟩=some (.slice y.t3 y.t4 y.t5)) wr:=⟨r0,r2,r3,r4,r5,p0,p2,p3,p4,p5⟩
       have HS10:=Hh hs10
       have HL1:=Hh hg1
       have HL2:=Hh hg2
       go_upto_region 29 with (go_at_call 13;refine HIT.out.mono ?_;rintro ev wz ⟨rfl,hwz⟩;have hwz:=hwz.symm;subst hwz)
       go_region_held3 (fun w'=>w'.cell? ⟨g2,o2+k*6,none⟩=some (.string ⟨nm.toArray⟩)∧w'.cell? ⟨g2,o2+k*6+2,none⟩=some (.string z.t0)∧w'.cell? ⟨g2,o2+k*6+2+1,none⟩=some (.string z.t1)∧w'.cell? ⟨g2,o2+k*6+2+2,none⟩=some (.bool z.t2)∧w'.cell? ⟨g2,o2+k*6+2+3,none⟩=some (.slice z.t3 z.t4 z.t5)∧w'.cell? ⟨g1,o1+i*6,none⟩=some (.string ⟨nm.toArray⟩)∧w'.cell? ⟨g1,o1+i*6+2,none⟩=some (.string y.t0)∧w'.cell? ⟨g1,o1+i*6+2+1,none⟩=some (.string y.t1)∧w'.cell? ⟨g1,o1+i*6+2+2,none⟩=some (.bool y.t2)∧w'.cell? ⟨g1,o1+i*6+2+3,none⟩=some (.slice y.t3 y.t4 y.t5))
        (first
         | exact hs10
         | exact HS11.out
         | go_keep)
        (first
         | (go_at_call 14;refine HSM.out.mono ?_;rintro ev w6 ⟨rfl,hb6'⟩;have hb6:Below wr.heap.size wr w6:=HDRW.out.trans hb6';have HB6:=Hh (HB.out.trans (hb6.mono HB.out.size));have HS11:=Hh (show w6.cell? ⟨g2,o2+k*6,none⟩=some (.string ⟨nm.toArray⟩)∧w6.cell? ⟨g2,o2+k*6+2,none⟩=some (.string z.t0)∧w6.cell? ⟨g2,o2+k*6+2+1,none⟩=some (.string z.t1)∧w6.cell? ⟨g2,o2+k*6+2+2,none⟩=some (.bool z.t2)∧w6.cell? ⟨g2,o2+k*6+2+3,none⟩=some (.slice z.t3 z.t4 z.t5)∧w6.cell? ⟨g1,o1+i*6,none⟩=some (.string ⟨nm.toArray⟩)∧w6.cell? ⟨g1,o1+i*6+2,none⟩=some (.string y.t0)∧w6.cell? ⟨g1,o1+i*6+2+1,none⟩=some (.string y.t1)∧w6.cell? ⟨g1,o1+i*6+2+2,none⟩=some (.bool y.t2)∧w6.cell? ⟨g1,o1+i*6+2+3,none⟩=some (.slice y.t3 y.t4 y.t5) from ⟨(hb6.cell (p:=⟨g2,o2+k*6,none⟩) HL2.out).trans r0,(hb6.cell (p:=⟨g2,o2+k*6+2,none⟩) HL2.out).trans r2,(hb6.cell (p:=⟨g2,o2+k*6+2+1,none⟩) HL2.out).trans r3,(hb6.cell (p:=⟨g2,o2+k*6+2+2,none⟩) HL2.out).trans r4,(hb6.cell (p:=⟨g2,o2+k*6+2+3,none⟩) HL2.out).trans r5,(hb6.cell (p:=⟨g1,o1+i*6,none⟩) HL1.out).trans p0,(hb6.cell (p:=⟨g1,o1+i*6+2,none⟩) HL1.out).trans p2,(hb6.cell (p:=⟨g1,o1+i*6+2+1,none⟩) HL1.out).trans p3,(hb6.cell (p:=⟨g1,o1+i*6+2+2,none⟩) HL1.out).trans p4,(hb6.cell (p:=⟨g1,o1+i*6+2+3,none⟩) HL1.out).trans p5⟩);clear hb6 hb6')
         | fail)
       go_wp2
       go_roundw
       case rel=>exact ⟨i+1,k+1,by go_num,by go_num,hil,by omega,by rw [HFs.out,HK.out];rfl,HB6⟩
       case measure=>simp [intOf];omega
     ·have i1:¬ (i:Int)<(m.length:Int):=by omega
      obtain rfl:i=m.length:=by omega
      have hke:k=want.length:=HK.out.trans HCE.out
      have hm2l:m2.length=want.length:=HCNT.out
      rw [hke,hm2l]
      go_wp2
      go_ret
      exact ⟨rfl,HWB.out.trans (HB.out.mono HWB.out.size)⟩
end Go.Proofs.YthogfjmnnaoldaaGreatDoor
namespace Go.Proofs.YthogfjmnnaoldaaGreatDoor
open Go.ChangeShapes Go.ChangeMaps Go.WideShapes Go.ChangeAt Go.RowKit
def Fit (L:List Nat):Prop:=∀ x∈L,x≤reachBytes
section
variable {H:Type} {enc:TypeId×Value→H} {W:World}
noncomputable abbrev qQ0 (enc:TypeId×Value→H) (W:World):=DataW.trod enc Tryz.prog W 0 (fun _=>true) true
theorem qOx:Tryz.prog.bytesOf 9=16:=by kernel_rfl
theorem qKP:Tryz.prog.cellsOf 9=1:=by kernel_rfl
theorem qO7 (s:ByteArray):Value.string s=Value.string ⟨s.data.toList.toArray⟩:=by simp
def qRb (w:World) (A:Option Addr) (c:Nat) (l:List (List UInt8)):Prop:=Strs w (.slice A l.length c) l∧(A=none→l.length=0∧c=0)∧c≤140737488355328∧l.length≤c
theorem qHr {fuel:Nat} {cs:List Value} {d:DataW H} {ps:List MemPlace} (h:qQ0 enc W fuel 22 cs=some (d,ps)) (hfit:Fit (d.weights Tryz.prog 22)) :
  ∃ (A:Option Addr) (c:Nat) (l:List (List UInt8)),cs=[.slice A l.length c]∧qRb W A c l:=by
 rcases Deep.open_strs Tryz.underlying22 Tryz.underlying9 qKP h with ⟨rfl,_⟩ | ⟨a,len,cap,m,Sx,rfl,_,hl,_,hm,hx,hcell⟩
 ·exact ⟨none,0,[],rfl,⟨none,0,rfl,fun h=>absurd rfl h⟩,fun _=>⟨rfl,rfl⟩,by omega,zr _⟩
 ·obtain rfl:m=cap:=by simpa using hm
  simp only [Prod.mk.injEq] at hx
  obtain ⟨rfl,rfl⟩:=hx
  simp only [DataW.weights,Tryz.underlying22,zV,List.length_range,qOx] at hfit
  have fw:(len+(m-len))*16≤reachBytes:=hfit _ (List.mem_cons_self ..)
  have hcap:m*16≤140737488351232:=by rw [show len+(m-len)=m by omega] at fw;exact fw
  refine ⟨some a,m,(List.range len).map fun i=>(Sx i).data.toList,by simp,⟨some a,m,by simp,fun hn=>?_⟩,(fun h=>by cases h),by omega,by simpa using hl⟩
  have hpos:0<len:=by
   rcases Nat.eq_zero_or_pos len with h | h
   ·subst h;exact absurd rfl hn
   ·exact h
  have h0:=(hcell 0 (by omega)).1
  rw [show a.add 0=a by simp [Addr.add]] at h0
  have hs:=World.cell?_spot h0
  obtain ⟨b,off,sp⟩:=a
  simp only at hs
  subst hs
  refine ⟨b,off,rfl,?_,fun j x hj=>?_⟩
  ·rcases zw b W.heap.size with h' | h'
   ·exact h'
   ·simp [World.cell?,Array.getElem?_eq_none h'] at h0
  ·have hjl:j<len:=by
    rcases zw j len with h' | h'
    ·exact h'
    ·rw [List.getElem?_eq_none (by simpa using h')] at hj;cases hj
   rw [zO,List.getElem?_range hjl] at hj
   simp only [zB1,zC1] at hj
   subst hj
   have:=(hcell j (by omega)).1
   rw [add_plain] at this
   rw [this,qO7]
end
namespace Gone
theorem qQC:Tryz.prog.cellsOf 373=1:=by kernel_rfl
theorem star: "*"++ "errors.errorString"= "*errors.errorString":=by decide
theorem rowE (u:TypeId) (h:Tryz.prog.typeName? 3 u=some "*errors.errorString"):u=371 :=
 typeName_ptr_named (nm:= "errors.errorString") (by rw [star];kernel_rfl) (by kernel_rfl) (by decide) u (by rw [star];exact h)
theorem qI1 {W:World} {n:String} {g:Nat} {p:Addr} (hg:Tryz.prog.globalNamed n=some g) (h:W.var? Tryz.prog n=some #[.iface 371 (.pointer (some p))]):errAt W g p:=by
 have hc:=World.var?_cell hg h 0
 refine ⟨by simpa using hc,?_⟩
 rcases zw g W.heap.size with h' | h'
 ·exact h'
 ·simp [World.cell?,Array.getElem?_eq_none h'] at hc
def sentinel (x:String×Nat×List UInt8):String×DataW Unit:=(x.1,.iface "*errors.errorString" (.ptr (.agg [.lit (.string x.2.2)])))
theorem qIS {W:World}:∀ (l:List (String×Nat×List UInt8)) (r:List (String×DataW Unit)) (ps:List MemPlace),DataW.LaidVars Tryz.prog W (l.map sentinel++r) ps→ps.Nodup →
  (∀ b off,MemPlace.cell b off∈ps→(∃ c t,W.heap[b]?=some (.cells c t (0,0)))∧∀ u v,W.cell? ⟨b,off,none⟩=some (.iface u v)→Value.okWide Tryz.prog W .any 0 u v) →
  (∀ x∈l,Tryz.prog.globalNamed x.1=some x.2.1∧(Tryz.prog.globals[x.2.1]?).map (·.type)=some 27) →
  ∃ qs:List Addr,qs.length=l.length∧(∀ (j:Nat) x a,l[j]?=some x→qs[j]?=some a→errAt W x.2.1 a)∧(∀ a∈qs,MemPlace.cell a.block a.off∈ps)∧(∀ a∈qs,∃ cs ts,W.heap[a.block]?=some (.cells cs ts (0,0)))∧qs.Pairwise (·≠·)
 | [],_,_,_,_,_,_=>⟨[],rfl,by simp,by simp,by simp,List.Pairwise.nil⟩
 | x::l,r,ps,h,hnd,hrows,hgs=>by
  obtain ⟨g0,t0,cs0,f0,p0,q0,hg0,ht0,hv0,hd0,hq,e0⟩:=h
  obtain ⟨hg,ht⟩:=hgs x (List.mem_cons_self ..)
  obtain rfl:=Option.some.inj (hg.symm.trans hg0)
  obtain rfl:=Option.some.inj (ht.symm.trans ht0)
  subst e0
  obtain ⟨qs,h1,h2,h3,h4,h5⟩:=qIS l r q0 hq (List.Nodup.sublist (List.sublist_append_right _ _) hnd) (fun b off hm=>hrows b off (List.mem_append_right _ hm)) (fun y hy=>hgs y (List.mem_cons_of_mem _ hy))
  obtain ⟨l0⟩:=cs0
  have ok0:∀ u v,l0=[.iface u v]→Value.okWide Tryz.prog W .any 0 u v:=fun u v e=>by
   subst e
   exact (hrows x.2.1 0 (by simp [MemPlace.row])).2 u v (by simpa using World.var?_cell hg0 hv0 0)
  obtain ⟨a0,s0,rfl,hc0,hs0,hz0,rfl⟩:=errorString_of_trod Tryz.underlying27 rowE Tryz.underlying371 Tryz.underlying373 rfl rfl Tryz.underlying9 qQC qKP hd0 ok0
  have hb0:=(hrows a0.block a0.off (by simp [MemPlace.row])).1
  refine ⟨a0::qs,by simp [h1],?_,?_,?_,?_⟩
  ·intro j y a hj ha
   cases j with
   | zero =>
    simp only [List.getElem?_cons_zero,zC1] at hj ha
    subst hj ha
    exact qI1 hg0 hv0
   | succ j=>exact h2 j y a (by simpa using hj) (by simpa using ha)
  ·intro a ha
   rcases za.1 ha with rfl | ha
   ·exact List.mem_append_left _ (List.mem_append_right _ (by simp [MemPlace.row]))
   ·exact List.mem_append_right _ (h3 a ha)
  ·intro a ha
   rcases za.1 ha with rfl | ha
   ·exact hb0
   ·exact h4 a ha
  ·refine zk.2 ⟨fun a ha e=>?_,h5⟩
   subst e
   have:=(List.nodup_append.1 hnd).2.2 (MemPlace.cell a0.block a0.off) (List.mem_append_right _ (by simp [MemPlace.row])) _ (h3 _ ha)
   exact this rfl
def listed:List (String×Nat×List UInt8):=[
 ("stillroom/api.ErrText",2,[115,116,105,108,108,114,111,111,109,58,32,116,101,120,116]),
 ("stillroom/api.ErrBound",0,[115,116,105,108,108,114,111,111,109,58,32,98,111,117,110,100]),
 ("stillroom/api.ErrShape",1,[115,116,105,108,108,114,111,111,109,58,32,115,104,97,112,101]),
 ("stillroom/api.ErrKind",14,[115,116,105,108,108,114,111,111,109,58,32,107,105,110,100]),
 ("stillroom/api.ErrName",5,[115,116,105,108,108,114,111,111,109,58,32,110,97,109,101]),
 ("stillroom/api.ErrNone",4,[115,116,105,108,108,114,111,111,109,58,32,110,111,110,101]),
 ("stillroom/api.ErrExist",6,[115,116,105,108,108,114,111,111,109,58,32,101,120,105,115,116]),
 ("stillroom/api.ErrFull",3,[115,116,105,108,108,114,111,111,109,58,32,102,117,108,108]),
 ("stillroom/api.ErrDeep",11,[115,116,105,108,108,114,111,111,109,58,32,100,101,101,112]),
 ("stillroom/api.ErrOrder",12,[115,116,105,108,108,114,111,111,109,58,32,111,114,100,101,114]),
 ("stillroom/api.ErrSum",9,[115,116,105,108,108,114,111,111,109,58,32,115,117,109]),
 ("stillroom/api.ErrOff",7,[115,116,105,108,108,114,111,111,109,58,32,111,102,102]),
 ("strconv.ErrRange",16,[118,97,108,117,101,32,111,117,116,32,111,102,32,114,97,110,103,101]),
 ("strconv.ErrSyntax",15,[105,110,118,97,108,105,100,32,115,121,110,116,97,120])]
theorem qH5:∀ x∈listed,Tryz.prog.globalNamed x.1=some x.2.1∧(Tryz.prog.globals[x.2.1]?).map (·.type)=some 27:=by
 have h:(listed.all fun x=>Tryz.prog.globalNamed x.1==some x.2.1&&((Tryz.prog.globals[x.2.1]?).map (·.type)==some 27))=true:=by kernel_rfl
 intro x hx
 have:=List.all_eq_true.1 h x hx
 simpa using this
def ix (c:Nat):Nat:=if c≤11 then c-1 else 11
theorem qFF:∀ c,c<14→1≤c→(listed[ix c]?).map (·.2.1)=some (qCz c):=by decide
theorem qNf:Rows.storeGoneRow.laid.filter (fun x=>x.2.handleName?.isNone)=("math/bits.deBruijn32tab",Rows.laid_math_bits_deBruijn32tab)::("math/bits.deBruijn64tab",Rows.laid_math_bits_deBruijn64tab)::("internal/strconv.uint64pow10",Rows.laid_internal_strconv_uint64pow10)::("unicode/utf8.acceptRanges",Rows.laid_unicode_utf8_acceptRanges)::(listed.map sentinel++[("unicode/utf8.first",Rows.laid_unicode_utf8_first)]):=by kernel_rfl
theorem qJS:Rows.storeGoneRow.laid.filter (fun x=>x.2.handleName?.isSome)=[("errors.errorType",Rows.laid_errors_errorType)]:=by kernel_rfl
theorem et:Tryz.prog.globalNamed "errors.errorType"=some 8:=by kernel_rfl
theorem rt:(Tryz.prog.cutTypes.find? (·.1== "internal/reflectlite.rtype")).map (·.2)=some 239:=by kernel_rfl
theorem size:Tryz.prog.types.size=413:=by kernel_rfl
theorem qQT:((List.range 413).filter fun t=>Tryz.prog.rowNamed t [101,114,114,111,114])=[27]:=by kernel_rfl
theorem qGg {W:World} (h:handlesMet Tryz.prog [("errors.errorType",Rows.laid_errors_errorType)] W):W.cell? ⟨8,0,none⟩=some (.iface 239 (.agg #[.pointer (some ⟨21,27,none⟩)])):=by
 obtain ⟨name,u,ty,e1,e2,e3,e4,e5⟩:=h _ (zi.2 rfl)
 have en:name=[101,114,114,111,114]:=(Option.some.inj e1).symm
 subst en
 obtain rfl:=Option.some.inj (rt.symm.trans e2)
 have hm:ty∈(List.range 413).filter fun t=>Tryz.prog.rowNamed t [101,114,114,111,114]:=zb.2 ⟨List.mem_range.2 (by rw [← size];exact e3),e4⟩
 rw [qQT] at hm
 obtain rfl:=zi.1 hm
 have hh:typeHandle Tryz.prog 27=.pointer (some ⟨21,27,none⟩):=by kernel_rfl
 rw [hh] at e5
 simpa using World.var?_cell et e5 0
theorem errs {W:World} (hL:laidMetH Tryz.prog Rows.storeGoneRow.laid W) (hS:W.ShapedOpen Tryz.prog):∃ p,Errs W p∧LibVars W:=by
 obtain ⟨hd,hh⟩:=laidMetH_iff.1 hL
 rw [qNf] at hd
 rw [qJS] at hh
 have hpow:=laidMet.tail (laidMet.tail hd)
 obtain ⟨ps,hv,hnd,hrows⟩:=laidMet.tail (laidMet.tail (laidMet.tail (laidMet.tail hd)))
 obtain ⟨qs,h1,h2,_,h4,h5⟩:=qIS listed _ ps hv hnd hrows qH5
 have hc:=qGg hh
 have hlen:qs.length=14:=h1
 have hixl:∀ c,1≤c→c≤13→ix c<14:=fun c _ _=>by unfold ix;split<;>omega
 have hget:∀ j,j<14→qs[j]?=some (qs.getD j default):=fun j hj=>by
  simp [List.getD,zM (show j<qs.length by omega)]
 refine ⟨fun c=>qs.getD (ix c) default,⟨fun c h1' h2'=>?_,fun c h1' h2'=>h4 _ (List.mem_of_getElem? (hget _ (hixl c h1' h2'))),fun c d c1 cd d1 e=>?_,hc,?_⟩,⟨?_,?_,?_,?_⟩⟩
 ·obtain ⟨x,hx,hg⟩:=Option.map_eq_some_iff.1 (qFF c (by omega) h1')
  rw [← hg]
  exact h2 (ix c) x _ hx (hget _ (hixl c h1' h2'))
 ·have hne:ix c≠ix d:=fun e2=>by
   have a1:=qFF c (by omega) c1
   have a2:=qFF d (by omega) (by omega)
   rw [e2,a2] at a1
   exact e (Option.some.inj a1).symm
  have l1:ix c<qs.length:=by have:=hixl c c1 (by omega);omega
  have l2:ix d<qs.length:=by have:=hixl d (by omega) d1;omega
  have g1:=hget _ (hixl c c1 (by omega))
  have g2:=hget _ (hixl d (by omega) d1)
  rw [zM l1] at g1
  rw [zM l2] at g2
  rcases Nat.lt_or_gt_of_ne hne with h | h
  ·have h6:=List.pairwise_iff_getElem.1 h5 _ _ l1 l2 h
   rw [Option.some.inj g1,Option.some.inj g2] at h6
   exact h6
  ·have h6:=List.pairwise_iff_getElem.1 h5 _ _ l2 l1 h
   rw [Option.some.inj g1,Option.some.inj g2] at h6
   exact fun e3=>h6 e3.symm
 ·rcases zw 8 W.heap.size with h' | h'
  ·exact h'
  ·simp [World.cell?,Array.getElem?_eq_none h'] at hc
 ·exact Go.Proofs.cell_of_shapedOpen_int (zero:=#[.int .i64 0]) (t:=3) hS (of_decide_eq_true (by kernel_rfl)) (by kernel_rfl) rfl (by kernel_rfl) (by kernel_rfl) Tryz.underlying3
 ·exact ⟨_,(h2 13 _ _ rfl (hget 13 (by omega))).1,.inr ⟨_,_,rfl⟩⟩
 ·exact ⟨_,(h2 12 _ _ rfl (hget 12 (by omega))).1,.inr ⟨_,_,rfl⟩⟩
 ·exact Lib.tabIs_of_head (g:=13) (t:=340) (e:=184) (n:=20) (by kernel_rfl) (by kernel_rfl) Tryz.underlying340 Tryz.underlying184 (by kernel_rfl) (by kernel_rfl) hpow
end Gone
end Go.Proofs.YthogfjmnnaoldaaGreatDoor
