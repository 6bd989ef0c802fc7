/- Texts of this claim, merged: Same, SameGet. -/
import Derived.Test.YtceklhjomhjipaaGreatDoorKm47
set_option maxHeartbeats 16000000
set_option maxRecDepth 1000000
set_option linter.all false
namespace Go.Proofs.YtceklhjomhjipaaGreatDoor
open Go.RowKit Go.Sort Go.Shelf Stl
def qMF (w0:World) (x y:Nd):Prop:=∀ (vs us:List Value) (W:World),Below w0.heap.size w0 W→NodeAt w0 x vs→NodeAt w0 y us→Calls Tryz.prog 57 #[.agg vs.toArray,.agg us.toArray] W fun e w'=>e=.returned (.bool (qCO x y))∧Below W.heap.size W w'
theorem qN3 (w0:World) (nm nm':List UInt8) (x y:Nd) (vs us:List Value) (hS:qMF w0 x y) (hx:NodeAt w0 x vs) (hy:NodeAt w0 y us) (w:World) (hb:Below w0.heap.size w0 w) :
  Calls Tryz.prog 106 #[Value.agg ([Value.string ⟨nm.toArray⟩]++vs).toArray,Value.agg ([Value.string ⟨nm'.toArray⟩]++us).toArray] w fun e w'=>e=.returned (.bool (nm==nm'&&qCO x y))∧Below w.heap.size w w':=by
 have HS:=Hh (hS vs us)
 have HX:=Hh hx
 have HY:=Hh hy
 obtain ⟨k,d,e,ks⟩:=x
 obtain ⟨k',d',e',ks'⟩:=y
 obtain ⟨A,c,rfl,_,_⟩:=hx.open
 obtain ⟨A',c',rfl,_,_⟩:=hy.open
 generalize qCO (.mk k d e ks) (.mk k' d' e' ks')=r at HS ⊢
 simp only [zE,zi]
 have hb1:Below w.heap.size w ((w.alloc (.cells #[.string ⟨nm.toArray⟩,.string ⟨k.toArray⟩,.string ⟨d.toArray⟩,.bool e,.slice A ks.length c] 161)).alloc (.cells #[.string ⟨nm'.toArray⟩,.string ⟨k'.toArray⟩,.string ⟨d'.toArray⟩,.bool e',.slice A' ks'.length c'] 161)):=((zB _ w).alloc (zq _) _).alloc (by simp) _
 have HB1:=Hh hb1
 have HSA:=Hh (HS.out _ (hb.trans (hb1.mono hb.size)) HX.out HY.out)
 clear hS hx hy hb hb1
 cases hq:nm==nm' with
 | false =>
  go_enter Tryz.func106,Tryz.ntmps106
  go_wp2_with fail
  go_ret
  exact ⟨rfl,HB1.out⟩
 | true =>
  go_enter Tryz.func106,Tryz.ntmps106
  go_wp2_with (go_at_call 57;refine HSA.out.mono ?_;rintro ev w2 ⟨rfl,hb2⟩;have HB2:=Hh (HB1.out.trans (hb2.mono HB1.out.size));clear hb2)
  go_ret
  exact ⟨by simp,HB2.out⟩
theorem qLZ (w0:World) (A A':Option Addr) (c c':Nat) (ks ks':List (List UInt8×Nd)) (hl:ks.length≤140737488355328) (hl':ks'.length≤140737488355328) (hk:KidsOf w0 A ks) (hk':KidsOf w0 A' ks')
  (hS:∀ (j:Nat) (h:j<ks.length) (h':j<ks'.length),qMF w0 ks[j].2 ks'[j].2) (w:World) (hb:Below w0.heap.size w0 w) :
  Calls Tryz.prog 105 #[.slice A ks.length c,.slice A' ks'.length c',.func (.func 106) #[] #[]] w fun e w'=>e=.returned (.bool (qA1 ks ks'))∧Below w.heap.size w w':=by
 have HK:=Hh hk
 have HK':=Hh hk'
 have HS:=Hh hS
 have HB0:=Hh hb
 obtain ⟨r,hr⟩:∃ r,r=qA1 ks ks':=⟨_,rfl⟩
 rw [← hr]
 have HR:=Hh hr
 clear hk hk' hS hb hr
 by_cases hlen:ks.length=ks'.length
 ·have i0:(ks.length:Int)=(ks'.length:Int):=by omega
  have HLEN:=Hh hlen
  clear hlen
  go_enter Tryz.func105,Tryz.ntmps105
  go_upto_region 3 with fail
  clear i0
  go_upto_region 4 with fail
  go_loopw [17] (fun a wr=>∃ j:Nat,j≤ks.length∧a=.int .i64 j∧Hid (Below w.heap.size w wr)∧Hid (r=qA1 (ks.drop j) (ks'.drop j))) (fun a _=>ks.length-(intOf a).toNat)
  case atStart=>exact ⟨0,zx _,rfl,Hh (zB _ _),HR⟩
  case round =>
   obtain ⟨j,hj,rfl,HB,HRJ⟩:=hrel
   by_cases hjl:j<ks.length
   ·have hjl':j<ks'.length:=by have:=HLEN.out;omega
    have i1:(j:Int)<(ks.length:Int):=by omega
    have i3:(j:Int)<(ks'.length:Int):=by omega
    have i2:(0:Int)≤(j:Int):=by omega
    have hb0r:=HB0.out.trans (HB.out.mono HB0.out.size)
    obtain ⟨b,off,rfl,hlt,⟨h0,hl0⟩,v0,v1,v2,v3,c1,c2,c3,c4,hn⟩:=HK.out.at hjl
    obtain ⟨b',off',rfl,hlt',⟨h0',hl0'⟩,u0,u1,u2,u3,c1',c2',c3',c4',hn'⟩:=HK'.out.at hjl'
    have up:∀ (bb i:Nat) v,bb<w0.heap.size→w0.cell? ⟨bb,i,none⟩=some v→wr.cell? ⟨bb,i,none⟩=some v:=fun bb i v hbb hv=>(hb0r.cell (p:=⟨bb,i,none⟩) hbb).trans hv
    have HSJ:=Hh (HS.out j hjl hjl')
    have HRN:=Hh (show r=((ks[j].1==ks'[j].1&&qCO ks[j].2 ks'[j].2)&&qA1 (ks.drop (j+1)) (ks'.drop (j+1))) by
     rw [HRJ.out,zF hjl,zF hjl',qA1])
    generalize ks[j]=kd at h0 hl0 hn HSJ HRN
    generalize ks'[j]=kd' at h0' hl0' hn' HSJ HRN
    obtain ⟨nm,x⟩:=kd
    obtain ⟨nm',y⟩:=kd'
    simp only at h0 hl0 hn HSJ HRN h0' hl0' hn'
    obtain ⟨kx,dx,ex,ksx⟩:=x
    obtain ⟨ky,dy,ey,ksy⟩:=y
    obtain ⟨A3,cc3,e3,_,_⟩:=hn.open
    obtain ⟨A4,cc4,e4,_,_⟩:=hn'.open
    simp only [zD,and_true] at e3 e4
    obtain ⟨rfl,rfl,rfl,rfl⟩:=e3
    obtain ⟨rfl,rfl,rfl,rfl⟩:=e4
    replace h0:=up _ _ _ hlt h0
    replace c1:=up _ _ _ hlt c1
    replace c2:=up _ _ _ hlt c2
    replace c3:=up _ _ _ hlt c3
    replace c4:=up _ _ _ hlt c4
    replace h0':=up _ _ _ hlt' h0'
    replace c1':=up _ _ _ hlt' c1'
    replace c2':=up _ _ _ hlt' c2'
    replace c3':=up _ _ _ hlt' c3'
    replace c4':=up _ _ _ hlt' c4'
    have HN:=Hh hn
    have HN':=Hh hn'
    have HBR:=Hh hb0r
    clear up hn hn' hb0r
    have hb4:Below wr.heap.size wr ((wr.alloc (.cells #[.string ⟨nm.toArray⟩,.string ⟨kx.toArray⟩,.string ⟨dx.toArray⟩,.bool ex,.slice A3 ksx.length cc3] 161)).alloc (.cells #[.string ⟨nm'.toArray⟩,.string ⟨ky.toArray⟩,.string ⟨dy.toArray⟩,.bool ey,.slice A4 ksy.length cc4] 161)):=((zB _ wr).alloc (zq _) _).alloc (by simp) _
    have HX1:=Hh (qAj (wr.alloc (.cells #[.string ⟨nm.toArray⟩,.string ⟨kx.toArray⟩,.string ⟨dx.toArray⟩,.bool ex,.slice A3 ksx.length cc3] 161)) (.cells #[.string ⟨nm'.toArray⟩,.string ⟨ky.toArray⟩,.string ⟨dy.toArray⟩,.bool ey,.slice A4 ksy.length cc4] 161) (zK1 wr (.cells #[.string ⟨nm.toArray⟩,.string ⟨kx.toArray⟩,.string ⟨dx.toArray⟩,.bool ex,.slice A3 ksx.length cc3] 161)))
    have hx2:=zK1 (wr.alloc (.cells #[.string ⟨nm.toArray⟩,.string ⟨kx.toArray⟩,.string ⟨dx.toArray⟩,.bool ex,.slice A3 ksx.length cc3] 161)) (.cells #[.string ⟨nm'.toArray⟩,.string ⟨ky.toArray⟩,.string ⟨dy.toArray⟩,.bool ey,.slice A4 ksy.length cc4] 161)
    rw [show (wr.alloc (.cells #[.string ⟨nm.toArray⟩,.string ⟨kx.toArray⟩,.string ⟨dx.toArray⟩,.bool ex,.slice A3 ksx.length cc3] 161)).heap.size=wr.heap.size+1 by simp] at hx2
    have HX2:=Hh hx2
    have HSM:=Hh (qN3 w0 nm nm' (.mk kx dx ex ksx) (.mk ky dy ey ksy) _ _ HSJ.out HN.out HN'.out _ (HBR.out.trans (hb4.mono HBR.out.size)))
    simp only [zE,zi] at HSM
    have HB4:=Hh (HB.out.trans (hb4.mono HB.out.size))
    clear hx2 hb4
    go_upto_region 6 with fail
    have hlr':b'<wr.heap.size:=zu hlt' HBR.out.size
    have hup:∀ (i:Nat) v,wr.cell? ⟨b',i,none⟩=some v→(wr.alloc (.cells #[.string ⟨nm.toArray⟩,.string ⟨kx.toArray⟩,.string ⟨dx.toArray⟩,.bool ex,.slice A3 ksx.length cc3] 161)).cell? ⟨b',i,none⟩=some v:=fun i v hv=>(zD1 (a:=⟨b',i,none⟩) (Below.heap_alloc _ _ b' hlr')).trans hv
    replace h0':=hup _ _ h0'
    replace c1':=hup _ _ c1'
    replace c2':=hup _ _ c2'
    replace c3':=hup _ _ c3'
    replace c4':=hup _ _ c4'
    clear hup
    go_upto_region 7 with fail
    clear h0 c1 c2 c3 c4 h0' c1' c2' c3' c4'
    generalize (wr.alloc (.cells #[.string ⟨nm.toArray⟩,.string ⟨kx.toArray⟩,.string ⟨dx.toArray⟩,.bool ex,.slice A3 ksx.length cc3] 161)).alloc (.cells #[.string ⟨nm'.toArray⟩,.string ⟨ky.toArray⟩,.string ⟨dy.toArray⟩,.bool ey,.slice A4 ksy.length cc4] 161)=w4 at *
    have y0:=ce0 HX1.out
    have y1:=ce1 HX1.out
    have y2:=ce2 HX1.out
    have y3:=ce3 HX1.out
    have y4:=ce4 HX1.out
    have z0:=ce0 HX2.out
    have z1:=ce1 HX2.out
    have z2:=ce2 HX2.out
    have z3:=ce3 HX2.out
    have z4:=ce4 HX2.out
    generalize (nm==nm'&&qCO (.mk kx dx ex ksx) (.mk ky dy ey ksy))=bb at HSM HRN
    cases bb with
    | true =>
     have HRM:=Hh (show r=qA1 (ks.drop (j+1)) (ks'.drop (j+1)) by rw [HRN.out,Bool.true_and])
     go_wp2_with (go_at_call 106;refine HSM.out.mono ?_;rintro ev w5 ⟨rfl,hb5⟩;have HB5:=Hh (HB4.out.trans (hb5.mono HB4.out.size));clear hb5)
     clear y0 y1 y2 y3 y4 z0 z1 z2 z3 z4
     go_roundw
     case rel=>exact ⟨j+1,hjl,by go_num,HB5,HRM⟩
     case measure=>simp [intOf];omega
    | false =>
     have HRM:=Hh (show r=false by rw [HRN.out,Bool.false_and])
     go_wp2_with (go_at_call 106;refine HSM.out.mono ?_;rintro ev w5 ⟨rfl,hb5⟩;have HB5:=Hh (HB4.out.trans (hb5.mono HB4.out.size));clear hb5)
     go_ret
     exact ⟨by rw [HRM.out];rfl,HB5.out⟩
   ·have i1:¬ (j:Int)<(ks.length:Int):=by omega
    have HRM:=Hh (show r=true by rw [HRJ.out,zG (by omega),zG (by have:=HLEN.out;omega)];rfl)
    go_wp2
    go_ret
    exact ⟨by rw [HRM.out];rfl,HB.out⟩
 ·have i0:¬ (ks.length:Int)=(ks'.length:Int):=by omega
  have HRM:=Hh (show r=false by
   rw [HR.out,Bool.eq_false_iff]
   intro h
   rw [(qDQ ks ks').1 h] at hlen
   exact hlen rfl)
  go_enter Tryz.func105,Tryz.ntmps105
  go_wp2
  go_ret
  exact ⟨by rw [HRM.out];rfl,zB _ _⟩
theorem qKK (a b:List UInt8):((a==b)=true)∨((a==b)=false):=by cases a==b<;>simp
theorem qKM (w0:World):∀ (N:Nat) (x y:Nd),Stl.wt x≤N→qMF w0 x y
 | 0,x,y,hN=>by obtain ⟨k,d,e,ks⟩:=x;simp [Stl.wt] at hN
 | N+1,.mk k d e ks,.mk k' d' e' ks',hN=>by
  intro vs us w hb hx hy
  have HX:=Hh hx
  have HY:=Hh hy
  obtain ⟨A,c,rfl,hbd,hko⟩:=hx.open
  obtain ⟨A',c',rfl,hbd',hko'⟩:=hy.open
  have hb1:Below w.heap.size w ((w.alloc (.cells #[.string ⟨k.toArray⟩,.string ⟨d.toArray⟩,.bool e,.slice A ks.length c] 114)).alloc (.cells #[.string ⟨k'.toArray⟩,.string ⟨d'.toArray⟩,.bool e',.slice A' ks'.length c'] 114)):=((zB _ w).alloc (zq _) _).alloc (by simp) _
  have HX1:=Hh (qAj (w.alloc (.cells #[.string ⟨k.toArray⟩,.string ⟨d.toArray⟩,.bool e,.slice A ks.length c] 114)) (.cells #[.string ⟨k'.toArray⟩,.string ⟨d'.toArray⟩,.bool e',.slice A' ks'.length c'] 114) (zK1 w (.cells #[.string ⟨k.toArray⟩,.string ⟨d.toArray⟩,.bool e,.slice A ks.length c] 114)))
  have hx2:=zK1 (w.alloc (.cells #[.string ⟨k.toArray⟩,.string ⟨d.toArray⟩,.bool e,.slice A ks.length c] 114)) (.cells #[.string ⟨k'.toArray⟩,.string ⟨d'.toArray⟩,.bool e',.slice A' ks'.length c'] 114)
  rw [show (w.alloc (.cells #[.string ⟨k.toArray⟩,.string ⟨d.toArray⟩,.bool e,.slice A ks.length c] 114)).heap.size=w.heap.size+1 by simp] at hx2
  have HX2:=Hh hx2
  have HEQ:=Hh (qLZ w0 A A' c c' ks ks' hbd.2.1 hbd'.2.1 hko hko' (fun j h h'=>qKM w0 N ks[j].2 ks'[j].2 (zr (Stl.wt_mem ks j h) (by simp only [Stl.wt] at hN;omega))) _ (hb.trans (hb1.mono hb.size)))
  have HB1:=Hh hb1
  have HR:=Hh (show qCO (.mk k d e ks) (.mk k' d' e' ks')=(k==k'&&d==d'&&e==e'&&qA1 ks ks') by rw [qCO])
  generalize qCO (.mk k d e ks) (.mk k' d' e' ks')=r at HR ⊢
  generalize qA1 ks ks'=sk at HEQ HR
  clear hx hy hbd hbd' hko hko' hb1 hx2 hN hb
  go_enter Tryz.func57,Tryz.ntmps57
  go_upto_region 1 with fail
  generalize (w.alloc (.cells #[.string ⟨k.toArray⟩,.string ⟨d.toArray⟩,.bool e,.slice A ks.length c] 114)).alloc (.cells #[.string ⟨k'.toArray⟩,.string ⟨d'.toArray⟩,.bool e',.slice A' ks'.length c'] 114)=w4 at *
  have y0:=ce0 HX1.out
  have y1:=ce1 HX1.out
  have y2:=ce2 HX1.out
  have y3:=ce3 HX1.out
  have z0:=ce0 HX2.out
  have z1:=ce1 HX2.out
  have z2:=ce2 HX2.out
  have z3:=ce3 HX2.out
  rcases qKK k k' with hk | hk
  ·rcases qKK d d' with hd | hd
   ·rw [hk,hd] at HR
    cases e<;>cases e'
    ·go_wp2_with (go_at_call 105;refine HEQ.out.mono ?_;rintro ev w2 ⟨rfl,hb2⟩;have HB2:=Hh (HB1.out.trans (hb2.mono HB1.out.size));clear hb2)
     go_ret
     exact ⟨by rw [HR.out];simp,HB2.out⟩
    ·go_wp2_with fail
     go_ret
     exact ⟨by rw [HR.out];rfl,HB1.out⟩
    ·go_wp2_with fail
     go_ret
     exact ⟨by rw [HR.out];rfl,HB1.out⟩
    ·go_wp2_with (go_at_call 105;refine HEQ.out.mono ?_;rintro ev w2 ⟨rfl,hb2⟩;have HB2:=Hh (HB1.out.trans (hb2.mono HB1.out.size));clear hb2)
     go_ret
     exact ⟨by rw [HR.out];simp,HB2.out⟩
   ·rw [hk,hd] at HR
    go_wp2_with fail
    go_ret
    exact ⟨by rw [HR.out];rfl,HB1.out⟩
  ·rw [hk] at HR
   go_wp2_with fail
   go_ret
   exact ⟨by rw [HR.out];rfl,HB1.out⟩
theorem qN5 {B:Nat} {e:TypeId} {k:Nat} {v:Value} {n:Nat} {xs:List Value} {w w':World} (h:w.ownsRow B e k v n xs) (hb:Below w.heap.size w w'):w'.ownsRow B e k v n xs :=
 h.kept (row:=none) ⟨hb.os,hb.tape,hb.output,hb.size,fun j hj _=>hb.block j hj⟩ (by cases hv:v.ownBlock<;>simp)
def qJX (r:Except Nat Nd):Nd:=match r with | .ok n=>n | .error _=>.mk [] [] false []
def qRj (p:Nat→Addr) (r:Except Nat Nd):Value:=match r with | .ok _=>.nilIface | .error cd=>qAB p cd
theorem qMg (w:World):NodeAt w (.mk [] [] false []) [.string ⟨#[]⟩,.string ⟨#[]⟩,.bool false,.slice none 0 0]:=by
 unfold NodeAt
 exact ⟨none,0,rfl,⟨zq _,by decide,by decide,by decide⟩,fun h=>absurd rfl h⟩
theorem qKT {w:World} {c:Nat→Col} {b:Nat} {d:Stl.Dirs} {p:Nat→Addr} (h:DirsAt w c b d) (hd:DirsGood d) (k:Nat) (hk:k≤1000000) (hE:Errs w p) {e:Ent} (he:qAi d.l k=some e) :
  Calls Tryz.prog 56 #[.pointer (some ⟨b,0,none⟩),.int .i64 k] w fun ev w'=>Below w.heap.size w w'∧∃ (a0 a1:ByteArray) (a2:Bool) (A:Option Addr) (m cp:Nat) (er:Value),ev=.returned (.tuple #[.agg #[.string a0,.string a1,.bool a2,.slice A m cp],er])∧er=qRj p (d.get k)∧(er=.nilIface∨∃ u v,er=.iface u v)∧NodeAt w' (qJX (d.get k)) [.string a0,.string a1,.bool a2,.slice A m cp]:=by
 refine (qKu h hd k hk hE he).mono ?_
 rintro ev w' ⟨hb,⟨a0,a1,a2,A,m,cp,er,rfl,hm⟩,hz⟩
 refine ⟨hb,?_⟩
 cases hr:d.get k with
 | ok n =>
  rw [hr] at hm
  exact ⟨a0,a1,a2,A,m,cp,er,rfl,hm.1,.inl hm.1,NodeP.at _ _ hm.2⟩
 | error cd =>
  rw [hr] at hm
  obtain ⟨er',hz'⟩:=hz cd hr
  injection hz' with hz'
  injection hz' with hz'
  have h0:=congrArg (fun x:Array Value=>x[0]?) hz'
  simp only [List.getElem?_toArray,List.getElem?_cons_zero,zB1,Value.agg.injEq,Array.mk.injEq,zD,Value.string.injEq,Value.bool.injEq,zC1,and_true] at h0
  obtain ⟨rfl,rfl,rfl,rfl,rfl,rfl⟩:=h0
  exact ⟨_,_,_,_,_,_,er,rfl,hm.1,.inr ⟨_,_,hm.1.trans (qAc p hm.2)⟩,qMg _⟩
theorem qNO {s:Sto} (hg:qAS s) {q:Pk} (hq:q∈s.l):∃ e,qAi s.d.l q.k=some e:=by
 have h2:q.k∈s.d.l.map (·.k):=by rw [← hg.ok.ks];exact ze.2 ⟨q,hq,rfl⟩
 obtain ⟨e,he,hk⟩:=ze.1 h2
 exact ⟨e,hk▸qAt hg.ok.dirs.keys he⟩
section
variable {w:World} {A:Option Addr} {zs:List PkX} {c:Nat→Col} {b:Nat} {s:Sto} {bd:Nat} {cap:Nat} {R:Option Addr} {rc tp:Nat} {p:Nat→Addr}
theorem qIf (h:StoX w c b s bd A cap zs R rc tp) (hg:qAS s) :
  Calls Tryz.prog 25 #[.pointer (some ⟨b,0,none⟩)] w (qMl w s.d.t):=by
 have hin:s.d.t.l.length≤1000000:=by have:=hg.good.inos;omega
 have HG:=Hh hg
 have c0:=ce0 h.own
 obtain ⟨bt,bm,nd,fm,hd⟩:=h.dirs
 have HTB:=Hh (qB3 hd)
 have HT:=Hh hd.tab
 have HAL:=Hh (qFC hd.tab hin)
 obtain ⟨i0,hi,hz0,hz1,hz2⟩:=qPp.info
 have Hi:=Hh hi
 have Hz0:=Hh hz0
 have Hz1:=Hh hz1
 have Hz2:=Hh hz2
 clear hi hz0 hz1 hz2 h hd
 have hal:∀ n∈s.d.t.all,n≤1000000:=fun n hn=>by have:=qDR (all_some hn);omega
 have HN:=Hh hal
 have HSM:=Hh (fun n (hn:n∈s.d.t.all)=>all_some hn)
 have hall:s.d.t.all.length≤1000000:=by
  have:=zS (fun n=>(s.d.t.at_ n).isSome) (List.range s.d.t.l.length)
  rw [List.length_range] at this
  unfold Tab.all
  omega
 clear hal
 go_enter Tryz.func25,Tryz.ntmps25
 go_upto_region 4 with (first
  | (go_at_call 52;refine HTB.out.mono ?_;rintro ev wz ⟨rfl,hwz⟩;have hwz:=hwz.symm;subst hwz)
  | (go_at_call 53;refine HAL.out.mono ?_;rintro ev w2 ⟨A2,cap2,rfl,hr2,hb2⟩;have HR2:=Hh hr2;have HB2:=Hh hb2;clear hr2 hb2))
 clear c0
 have HIN:=Hh (qK0 HR2.out)
 have HTK:=Hh (fun (j:Nat) (hj:j<s.d.t.all.length)=>(zo hj:s.d.t.all.take (j+1)=s.d.t.all.take j++[s.d.t.all[j]]))
 have HOK:=Hh (show qBl s.d.t from hg.ok.dirs.tab)
 clear hg HTB HAL
 go_loopw [3,17] (fun v a wr=>∃ (j:Nat) (ys:List SX),a=.int .i64 j∧j≤s.d.t.all.length∧Hid (StaSt w2 wr s.d.t j v ys)) (fun _ a _=>s.d.t.all.length-(intOf a).toNat)
 case atStart=>exact ⟨0,[],rfl,zx _,Hh ⟨zB _ _,zF1 _ _ _ _,rfl,by simp⟩⟩
 case round =>
  obtain ⟨j,ys,rfl,hj,HS⟩:=hrel
  by_cases hjl:j<s.d.t.all.length
  ·have i1:(j:Int)<(s.d.t.all.length:Int):=by omega
   have i2:(0:Int)≤(j:Int):=by omega
   obtain ⟨b0,off,hA,hlt,q0⟩:=(HIN.out.later HS.out.below).at hjl
   subst hA
   have hx:=HSM.out _ (zO hjl)
   have hn:=HN.out _ (zO hjl)
   have HTJ:=Hh (HTK.out j hjl)
   have hbw:Below w.heap.size w wr:=HB2.out.trans (HS.out.below.mono HB2.out.size)
   have hst:=qBS (HT.out.ext (Ext.of_below hbw c S0) rfl (fun _ _=>rfl)) HOK.out _ hn hx
   generalize s.d.t.all[j]=n at *
   have HXE:=Hh (show qJ5 s.d.t n=qJ5 s.d.t n from rfl)
   obtain ⟨x,hxe⟩:∃ x,x=qJ5 s.d.t n:=⟨_,rfl⟩
   rw [← hxe] at hst hx
   have HXN:=Hh hxe
   simp only [qFw,qAz] at hst
   have HST:=Hh hst
   obtain ⟨Ao,co,e3⟩:=Stl.owns_slice _ HS.out.row
   subst e3
   clear hx hn hbw hst hxe
   go_upto_region 7 with (go_at_call 54;refine HST.out.mono ?_;rintro ev w4 ⟨A4,cap4,rfl,hr4,hb4⟩;have HR4:=Hh hr4;have HB4:=Hh hb4;clear hr4 hb4)
   have hb5:=(zB w4.heap.size w4).alloc (zq _) (.cells #[.int .i64 x.bytes,.int .i64 x.links,.bool x.exec,.slice A4 x.blocks.length cap4,.int .u32 x.sum.toNat] 71)
   have HY5:=Hh (zK1 w4 (.cells #[.int .i64 x.bytes,.int .i64 x.links,.bool x.exec,.slice A4 x.blocks.length cap4,.int .u32 x.sum.toNat] 71))
   have HBR5:=Hh (HB4.out.trans (hb5.mono HB4.out.size))
   have HB5:=Hh (HS.out.below.trans (HBR5.out.mono HS.out.below.size))
   have HR5:=Hh (qN5 (HR4.out.mono HS.out.below.size) hb5)
   have HO5:=Hh (qN5 HS.out.row HBR5.out)
   clear hb5 q0
   generalize w4.alloc (.cells #[.int .i64 x.bytes,.int .i64 x.links,.bool x.exec,.slice A4 x.blocks.length cap4,.int .u32 x.sum.toNat] 71)=w5 at *
   have r0:=ce0 HY5.out
   have r1:=ce1 HY5.out
   have r2:=ce2 HY5.out
   have r3:=ce3 HY5.out
   have r4:=ce4 HY5.out
   have HO6:=Hh (HO5.out.alloc (.cells #[.int .i64 x.bytes,.int .i64 x.links,.bool x.exec,.slice A4 x.blocks.length cap4,.int .u32 x.sum.toNat] 71))
   have HB6:=Hh (HB5.out.alloc HB5.out.size (.cells #[.int .i64 x.bytes,.int .i64 x.links,.bool x.exec,.slice A4 x.blocks.length cap4,.int .u32 x.sum.toNat] 71))
   go_wp2_with (at_builtin;refine Stl.wpList_app _ rfl _ _ 67 rfl w2.heap.size 71 i0 _ 5 56 Tryz.underlying67 Hi.out Hz0.out Hz1.out Hz2.out rfl (by decide) (.slice Ao j co) j _ rfl HO6.out (some ⟨w5.heap.size,0,none⟩) 1 1 [.int .i64 x.bytes,.int .i64 x.links,.bool x.exec,.slice A4 x.blocks.length cap4,.int .u32 x.sum.toNat] rfl rfl (fun h=>by cases h) (qAH _ _ _) (by simp [Value.oneCell']) (by unfold maxLen;omega) (by omega) (zr HB5.out.size (by simp)) ?_;intro A7 c7 w7 hown7 hgr7 hat7;have HO7:=Hh hown7;have HG7:=Hh hgr7;have HB7:=Hh (HB6.out.grown hgr7 HB6.out.size (fun k hk=>(HO6.out.lt k hk).1));clear hown7 hgr7 hat7)
   go_roundw
   case rel =>
    have keep:∀ {v:Value} {n:Nat} {xs:List Value},w5.ownsRow w2.heap.size 3 1 v n xs→w7.ownsRow w2.heap.size 3 1 v n xs:=fun hr=>(hr.alloc _).kept HG7.out (qGV (hr.alloc _) HO6.out (by decide))
    refine ⟨j+1,ys++[⟨x,A4,cap4⟩],by go_num,hjl,Hh ⟨HB7.out,?_,?_,?_⟩⟩
    ·rw [List.flatMap_append]
     exact HO7.out
    ·rw [zU,HS.out.eq,HTJ.out,zU,HXN.out]
     rfl
    ·intro z hz
     rcases zX.1 hz with hz | hz
     ·exact keep (qN5 (HS.out.ints z hz) HBR5.out)
     ·rw [zh.1 hz]
      exact keep HR5.out
   case measure=>simp [intOf];omega
  ·have i1:¬ (j:Int)<(s.d.t.all.length:Int):=by omega
   obtain rfl:j=s.d.t.all.length:=by omega
   obtain ⟨A3,c3,e3⟩:=Stl.owns_slice _ HS.out.row
   subst e3
   have heq:=HS.out.eq
   rw [zm] at heq
   have hyl:ys.length=s.d.t.all.length:=by have:=congrArg List.length heq;simpa using this
   have HEND:=Hh (show qMl w s.d.t (.returned (.slice A3 s.d.t.all.length c3)) wr from ⟨A3,c3,ys,by rw [hyl],StaSt.shut (by have h:=HS.out;rwa [← hyl] at h),heq,HB2.out.trans (HS.out.below.mono HB2.out.size)⟩)
   clear heq hyl
   go_wp2
   go_ret
   exact HEND.out
end
theorem qMn {w:World} {T:Tab} {A A2:Option Addr} {c c2:Nat} {ys zs:List SX} (h1:StatsAt w A ys) (h2:StatsAt w A2 zs) (e1:ys.map (·.x)=qDk T) (e2:zs.map (·.x)=qDk T) (hb:∀ x∈qDk T,x.blocks.length≤1000000) (hs:(qDk T).length≤1000000) :
  Calls Tryz.prog 24 #[.slice A ys.length c,.slice A2 zs.length c2,.func (.func 26) #[] #[]] w fun e w'=>e=.returned (.bool true)∧Below w.heap.size w w':=by
 have hz:zs.length=ys.length:=by have:=congrArg List.length (e2.trans e1.symm);simpa using this
 rw [hz]
 exact qJD A A2 c c2 ys zs (e1.trans e2.symm) (by have:=congrArg List.length e1;simp only [zT] at this;omega) (fun y hy=>hb _ (by rw [← e1];exact zf hy)) w h1 h2
end Go.Proofs.YtceklhjomhjipaaGreatDoor
