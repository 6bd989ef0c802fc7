/- Texts of this claim, merged: LawKept, Same. -/
import Derived.Test.YthogfjmnnaoldaaGreatDoorGm47
set_option maxHeartbeats 16000000
set_option maxRecDepth 1000000
set_option linter.all false
namespace Go.Proofs.YthogfjmnnaoldaaGreatDoor
open Go.RowKit Go.Sort Go.Shelf Stl
structure StAt (w:World) (c:Nat→Col) (b tp:Nat) (p:Nat→Addr) (s:Sto) (t:Stl.Tape):Prop where
 sto:StoAt w c b s tp
 tape:TapeAt w c tp t
 env:Env w c p
theorem StAt.ext {w w2:World} {c c2:Nat→Col} {b tp:Nat} {p:Nat→Addr} {s:Sto} {t:Stl.Tape} (h:StAt w c b tp p s t) (e:Ext w w2 c c2 S0):StAt w2 c2 b tp p s t :=
 ⟨h.sto.ext e rfl (fun _ _=>rfl),h.tape.ext e rfl rfl,h.env.ext e rfl⟩
theorem qHC {i:Nat} {s:Sto} {t:Stl.Tape} (h:qG2 i s t) (hi:i≤300):qAX s:=by
 have h1:=h.disk
 have h2:=h.inos
 have h3:=h.next
 have h4:=h.ents
 exact ⟨h.sto,⟨h.sto.dirs,by omega,by omega,by omega,by omega⟩,by omega⟩
def qQr (p:Nat→Addr) (w:World) (c:Nat→Col) (b tp:Nat) (s:Sto) (t:Stl.Tape) (line:List UInt8) (ev:Ending) (w':World):Prop :=
 ∃ (a:ByteArray) (er:Value) (c2:Nat→Col),ev=.returned (.tuple #[.string a,er])∧Ext w w' c c2 Sdo∧StAt w' c2 b tp p (qAE s t line).2.1 (qAE s t line).2.2 ∧
  match (qAE s t line).1 with
  | .error cd=>er=qAN p cd∧cd≠0∧a=⟨#[]⟩
  | .ok x=>er=.nilIface∧a=⟨x.toArray⟩
theorem qFW {w:World} {c:Nat→Col} {b tp:Nat} {p:Nat→Addr} {s:Sto} {t:Stl.Tape} (h:StAt w c b tp p s t) {i:Nat} (hr:qG2 i s t) (hi:i≤300) (line:List UInt8) (hl:line.length≤250) :
  Calls Tryz.prog 8 #[.pointer (some ⟨b,0,none⟩),.string ⟨line.toArray⟩] w (qQr p w c b tp s t line):=by
 obtain ⟨bd,A,cap,zs,R,rc,hx⟩:=h.sto.open
 have h1:=qB5 hl
 have h2:=hr.len
 refine (qQL hx h.tape (qHC hr hi) h.env line (by omega) hr.off hr.cut (by omega)).mono ?_
 rintro ev w' ⟨a,er,c2,rfl,he,hs,ht,hm⟩
 exact ⟨a,er,c2,rfl,he,⟨hs,ht,h.env.ext he rfl⟩,hm⟩
theorem qOs (w:World) (p:Nat→Addr) (hE:Errs w p) (hV:LibVars w) :
  Calls Tryz.prog 4 #[] w fun e w'=>e=.returned (.bool true)∧Below w.heap.size w w':=by
 have HEN:=Hh (show Env w (fun _=>Col.ro) p from ⟨w,hE,hV,zC _ _,fun _ _=>rfl⟩)
 have HNW:=Hh (qIt 8 (by decide) (by decide) w (fun _=>.ro))
 have r0:qG2 0 kP0.1 kP0.2:=qNu (by decide)
 have r1:=qGV r0 (by decide) (line:=kl1) (by decide)
 have r2:=qGV r1 (by decide) (line:=kl2) (by decide)
 have r3:=qGV r2 (by decide) (line:=kl3) (by decide)
 have K1:=Hh qRd
 have K2:=Hh qRa
 have K3:=Hh qQ6
 have K4:=Hh qQ5
 have R0:=Hh r0
 have R1:=Hh r1
 have R2:=Hh r2
 have R3:=Hh r3
 clear r0 r1 r2 r3 hE hV
 go_enter Tryz.func4,Tryz.ntmps4
 go_upto_region 4 with (go_at_call 6;refine HNW.out.mono ?_;rintro ev w1 ⟨b,tp,c1,rfl,_,he1,hs1,ht1⟩;have HE1:=Hh he1;have HS1:=Hh (show StAt w1 c1 b tp p kP0.1 kP0.2 from ⟨hs1,ht1,HEN.out.ext he1 rfl⟩);clear he1 hs1 ht1)
 have HD1:=Hh (qFW HS1.out R0.out (by decide) kl1 (by decide))
 go_upto_region 5 with (go_at_call 8;refine HD1.out.mono ?_;rintro ev w2 ⟨a2,er2,c2,rfl,he2,hs2,hm2⟩;rw [K1.out] at hm2;obtain ⟨rfl,rfl⟩:=hm2;have HE2:=Hh he2;have HS2:=Hh hs2;clear he2 hs2)
 have HD2:=Hh (qFW HS2.out R1.out (by decide) kl2 (by decide))
 go_upto_region 6 with (go_at_call 8;refine HD2.out.mono ?_;rintro ev w3 ⟨a3,er3,c3,rfl,he3,hs3,hm3⟩;have hm3':er3=.nilIface∧a3=⟨#[111,107]⟩:=(by { have h1:(qAE (qAE kP0.1 kP0.2 kl1).2.1 (qAE kP0.1 kP0.2 kl1).2.2 kl2).1=.ok [111,107]:=K2.out;rw [h1] at hm3;exact hm3 });obtain ⟨rfl,rfl⟩:=hm3';have HE3:=Hh he3;have HS3:=Hh hs3;clear he3 hs3 hm3)
 have HD3:=Hh (qFW HS3.out R2.out (by decide) kl3 (by decide))
 go_upto_region 7 with (go_at_call 8;refine HD3.out.mono ?_;rintro ev w4 ⟨a4,er4,c4,rfl,he4,hs4,hm4⟩;have hm4':er4=.nilIface∧a4=⟨#[97]⟩:=(by { have h1:(qAE (qAE (qAE kP0.1 kP0.2 kl1).2.1 (qAE kP0.1 kP0.2 kl1).2.2 kl2).2.1 (qAE (qAE kP0.1 kP0.2 kl1).2.1 (qAE kP0.1 kP0.2 kl1).2.2 kl2).2.2 kl3).1=.ok [97]:=K3.out;rw [h1] at hm4;exact hm4 });obtain ⟨rfl,rfl⟩:=hm4';have HE4:=Hh he4;have HS4:=Hh hs4;clear he4 hs4 hm4)
 have HD4:=Hh (qFW HS4.out R3.out (by decide) kl4 (by decide))
 go_upto_region 8 with (go_at_call 8;refine HD4.out.mono ?_;rintro ev w5 ⟨a5,er5,c5,rfl,he5,hs5,hm5⟩;have hm5':er5=.nilIface∧a5=⟨#[120,121]⟩:=(by { have h1:=K4.out;unfold kD at h1;rw [h1] at hm5;exact hm5 });obtain ⟨rfl,rfl⟩:=hm5';have HE5:=Hh he5;clear he5 hs5 hm5)
 have HBF:=Hh (show Below w.heap.size w w5 from ((((HE1.out.mono (S':=Sdo) (fun _ _=>rfl)).trans HE2.out).trans HE3.out).trans HE4.out |>.trans HE5.out).below (zr _) (fun _ _=>rfl))
 clear HD1 HD2 HD3 HD4 HNW
 go_wp2
 go_ret
 exact ⟨rfl,HBF.out⟩
def qNj (w0:World) (x y:Nd):Prop:=∀ (vs us:List Value) (W:World),Below w0.heap.size w0 W→NodeAt w0 x vs→NodeAt w0 y us→Calls Tryz.prog 14 #[.agg vs.toArray,.agg us.toArray] W fun e w'=>e=.returned (.bool (qCQ x y))∧Below W.heap.size W w'
theorem qNO (w0:World) (nm nm':List UInt8) (x y:Nd) (vs us:List Value) (hS:qNj w0 x y) (hx:NodeAt w0 x vs) (hy:NodeAt w0 y us) (w:World) (hb:Below w0.heap.size w0 w) :
  Calls Tryz.prog 33 #[Value.agg ([Value.string ⟨nm.toArray⟩]++vs).toArray,Value.agg ([Value.string ⟨nm'.toArray⟩]++us).toArray] w fun e w'=>e=.returned (.bool (nm==nm'&&qCQ x y))∧Below w.heap.size w w':=by
 have HS:=Hh (hS vs us)
 have HX:=Hh hx
 have HY:=Hh hy
 obtain ⟨k,d,e,ks⟩:=x
 obtain ⟨k',d',e',ks'⟩:=y
 obtain ⟨A,c,rfl,_,_⟩:=hx.open
 obtain ⟨A',c',rfl,_,_⟩:=hy.open
 generalize qCQ (.mk k d e ks) (.mk k' d' e' ks')=r at HS ⊢
 simp only [zF,zj]
 have hb1:Below w.heap.size w ((w.alloc (.cells #[.string ⟨nm.toArray⟩,.string ⟨k.toArray⟩,.string ⟨d.toArray⟩,.bool e,.slice A ks.length c] 81)).alloc (.cells #[.string ⟨nm'.toArray⟩,.string ⟨k'.toArray⟩,.string ⟨d'.toArray⟩,.bool e',.slice A' ks'.length c'] 81)):=((zC _ w).alloc (zr _) _).alloc (by simp) _
 have HB1:=Hh hb1
 have HSA:=Hh (HS.out _ (hb.trans (hb1.mono hb.size)) HX.out HY.out)
 clear hS hx hy hb hb1
 cases hq:nm==nm' with
 | false =>
  go_enter Tryz.func33,Tryz.ntmps33
  go_wp2_with fail
  go_ret
  exact ⟨rfl,HB1.out⟩
 | true =>
  go_enter Tryz.func33,Tryz.ntmps33
  go_wp2_with (go_at_call 14;refine HSA.out.mono ?_;rintro ev w2 ⟨rfl,hb2⟩;have HB2:=Hh (HB1.out.trans (hb2.mono HB1.out.size));clear hb2)
  go_ret
  exact ⟨by simp,HB2.out⟩
theorem qLu (w0:World) (A A':Option Addr) (c c':Nat) (ks ks':List (List UInt8×Nd)) (hl:ks.length≤140737488355328) (hl':ks'.length≤140737488355328) (hk:KidsOf w0 A ks) (hk':KidsOf w0 A' ks')
  (hS:∀ (j:Nat) (h:j<ks.length) (h':j<ks'.length),qNj w0 ks[j].2 ks'[j].2) (w:World) (hb:Below w0.heap.size w0 w) :
  Calls Tryz.prog 32 #[.slice A ks.length c,.slice A' ks'.length c',.func (.func 33) #[] #[]] w fun e w'=>e=.returned (.bool (qAY ks ks'))∧Below w.heap.size w w':=by
 have HK:=Hh hk
 have HK':=Hh hk'
 have HS:=Hh hS
 have HB0:=Hh hb
 obtain ⟨r,hr⟩:∃ r,r=qAY ks ks':=⟨_,rfl⟩
 rw [← hr]
 have HR:=Hh hr
 clear hk hk' hS hb hr
 by_cases hlen:ks.length=ks'.length
 ·have i0:(ks.length:Int)=(ks'.length:Int):=by omega
  have HLEN:=Hh hlen
  clear hlen
  go_enter Tryz.func32,Tryz.ntmps32
  go_upto_region 3 with fail
  clear i0
  go_upto_region 4 with fail
  go_loopw [17] (fun a wr=>∃ j:Nat,j≤ks.length∧a=.int .i64 j∧Hid (Below w.heap.size w wr)∧Hid (r=qAY (ks.drop j) (ks'.drop j))) (fun a _=>ks.length-(intOf a).toNat)
  case atStart=>exact ⟨0,zy _,rfl,Hh (zC _ _),HR⟩
  case round =>
   obtain ⟨j,hj,rfl,HB,HRJ⟩:=hrel
   by_cases hjl:j<ks.length
   ·have hjl':j<ks'.length:=by have:=HLEN.out;omega
    have i1:(j:Int)<(ks.length:Int):=by omega
    have i3:(j:Int)<(ks'.length:Int):=by omega
    have i2:(0:Int)≤(j:Int):=by omega
    have hb0r:=HB0.out.trans (HB.out.mono HB0.out.size)
    obtain ⟨b,off,rfl,hlt,⟨h0,hl0⟩,v0,v1,v2,v3,c1,c2,c3,c4,hn⟩:=HK.out.at hjl
    obtain ⟨b',off',rfl,hlt',⟨h0',hl0'⟩,u0,u1,u2,u3,c1',c2',c3',c4',hn'⟩:=HK'.out.at hjl'
    have up:∀ (bb i:Nat) v,bb<w0.heap.size→w0.cell? ⟨bb,i,none⟩=some v→wr.cell? ⟨bb,i,none⟩=some v:=fun bb i v hbb hv=>(hb0r.cell (p:=⟨bb,i,none⟩) hbb).trans hv
    have HSJ:=Hh (HS.out j hjl hjl')
    have HRN:=Hh (show r=((ks[j].1==ks'[j].1&&qCQ ks[j].2 ks'[j].2)&&qAY (ks.drop (j+1)) (ks'.drop (j+1))) by
     rw [HRJ.out,zG hjl,zG hjl',qAY])
    generalize ks[j]=kd at h0 hl0 hn HSJ HRN
    generalize ks'[j]=kd' at h0' hl0' hn' HSJ HRN
    obtain ⟨nm,x⟩:=kd
    obtain ⟨nm',y⟩:=kd'
    simp only at h0 hl0 hn HSJ HRN h0' hl0' hn'
    obtain ⟨kx,dx,ex,ksx⟩:=x
    obtain ⟨ky,dy,ey,ksy⟩:=y
    obtain ⟨A3,cc3,e3,_,_⟩:=hn.open
    obtain ⟨A4,cc4,e4,_,_⟩:=hn'.open
    simp only [zE,and_true] at e3 e4
    obtain ⟨rfl,rfl,rfl,rfl⟩:=e3
    obtain ⟨rfl,rfl,rfl,rfl⟩:=e4
    replace h0:=up _ _ _ hlt h0
    replace c1:=up _ _ _ hlt c1
    replace c2:=up _ _ _ hlt c2
    replace c3:=up _ _ _ hlt c3
    replace c4:=up _ _ _ hlt c4
    replace h0':=up _ _ _ hlt' h0'
    replace c1':=up _ _ _ hlt' c1'
    replace c2':=up _ _ _ hlt' c2'
    replace c3':=up _ _ _ hlt' c3'
    replace c4':=up _ _ _ hlt' c4'
    have HN:=Hh hn
    have HN':=Hh hn'
    have HBR:=Hh hb0r
    clear up hn hn' hb0r
    have hb4:Below wr.heap.size wr ((wr.alloc (.cells #[.string ⟨nm.toArray⟩,.string ⟨kx.toArray⟩,.string ⟨dx.toArray⟩,.bool ex,.slice A3 ksx.length cc3] 81)).alloc (.cells #[.string ⟨nm'.toArray⟩,.string ⟨ky.toArray⟩,.string ⟨dy.toArray⟩,.bool ey,.slice A4 ksy.length cc4] 81)):=((zC _ wr).alloc (zr _) _).alloc (by simp) _
    have HX1:=Hh (qAm (wr.alloc (.cells #[.string ⟨nm.toArray⟩,.string ⟨kx.toArray⟩,.string ⟨dx.toArray⟩,.bool ex,.slice A3 ksx.length cc3] 81)) (.cells #[.string ⟨nm'.toArray⟩,.string ⟨ky.toArray⟩,.string ⟨dy.toArray⟩,.bool ey,.slice A4 ksy.length cc4] 81) (zL1 wr (.cells #[.string ⟨nm.toArray⟩,.string ⟨kx.toArray⟩,.string ⟨dx.toArray⟩,.bool ex,.slice A3 ksx.length cc3] 81)))
    have hx2:=zL1 (wr.alloc (.cells #[.string ⟨nm.toArray⟩,.string ⟨kx.toArray⟩,.string ⟨dx.toArray⟩,.bool ex,.slice A3 ksx.length cc3] 81)) (.cells #[.string ⟨nm'.toArray⟩,.string ⟨ky.toArray⟩,.string ⟨dy.toArray⟩,.bool ey,.slice A4 ksy.length cc4] 81)
    rw [show (wr.alloc (.cells #[.string ⟨nm.toArray⟩,.string ⟨kx.toArray⟩,.string ⟨dx.toArray⟩,.bool ex,.slice A3 ksx.length cc3] 81)).heap.size=wr.heap.size+1 by simp] at hx2
    have HX2:=Hh hx2
    have HSM:=Hh (qNO w0 nm nm' (.mk kx dx ex ksx) (.mk ky dy ey ksy) _ _ HSJ.out HN.out HN'.out _ (HBR.out.trans (hb4.mono HBR.out.size)))
    simp only [zF,zj] at HSM
    have HB4:=Hh (HB.out.trans (hb4.mono HB.out.size))
    clear hx2 hb4
    go_upto_region 6 with fail
    have hlr':b'<wr.heap.size:=zv hlt' HBR.out.size
    have hup:∀ (i:Nat) v,wr.cell? ⟨b',i,none⟩=some v→(wr.alloc (.cells #[.string ⟨nm.toArray⟩,.string ⟨kx.toArray⟩,.string ⟨dx.toArray⟩,.bool ex,.slice A3 ksx.length cc3] 81)).cell? ⟨b',i,none⟩=some v:=fun i v hv=>(zE1 (a:=⟨b',i,none⟩) (Below.heap_alloc _ _ b' hlr')).trans hv
    replace h0':=hup _ _ h0'
    replace c1':=hup _ _ c1'
    replace c2':=hup _ _ c2'
    replace c3':=hup _ _ c3'
    replace c4':=hup _ _ c4'
    clear hup
    go_upto_region 7 with fail
    clear h0 c1 c2 c3 c4 h0' c1' c2' c3' c4'
    generalize (wr.alloc (.cells #[.string ⟨nm.toArray⟩,.string ⟨kx.toArray⟩,.string ⟨dx.toArray⟩,.bool ex,.slice A3 ksx.length cc3] 81)).alloc (.cells #[.string ⟨nm'.toArray⟩,.string ⟨ky.toArray⟩,.string ⟨dy.toArray⟩,.bool ey,.slice A4 ksy.length cc4] 81)=w4 at *
    have y0:w4.cell? ⟨wr.heap.size,0,none⟩=some (.string ⟨nm.toArray⟩):=zK1 w4 _ 0 _ _ _ HX1.out
    have y1:w4.cell? ⟨wr.heap.size,1,none⟩=some (.string ⟨kx.toArray⟩):=zK1 w4 _ 1 _ _ _ HX1.out
    have y2:w4.cell? ⟨wr.heap.size,2,none⟩=some (.string ⟨dx.toArray⟩):=zK1 w4 _ 2 _ _ _ HX1.out
    have y3:w4.cell? ⟨wr.heap.size,3,none⟩=some (.bool ex):=zK1 w4 _ 3 _ _ _ HX1.out
    have y4:w4.cell? ⟨wr.heap.size,4,none⟩=some (.slice A3 ksx.length cc3):=zK1 w4 _ 4 _ _ _ HX1.out
    have z0:w4.cell? ⟨wr.heap.size+1,0,none⟩=some (.string ⟨nm'.toArray⟩):=zK1 w4 _ 0 _ _ _ HX2.out
    have z1:w4.cell? ⟨wr.heap.size+1,1,none⟩=some (.string ⟨ky.toArray⟩):=zK1 w4 _ 1 _ _ _ HX2.out
    have z2:w4.cell? ⟨wr.heap.size+1,2,none⟩=some (.string ⟨dy.toArray⟩):=zK1 w4 _ 2 _ _ _ HX2.out
    have z3:w4.cell? ⟨wr.heap.size+1,3,none⟩=some (.bool ey):=zK1 w4 _ 3 _ _ _ HX2.out
    have z4:w4.cell? ⟨wr.heap.size+1,4,none⟩=some (.slice A4 ksy.length cc4):=zK1 w4 _ 4 _ _ _ HX2.out
    generalize (nm==nm'&&qCQ (.mk kx dx ex ksx) (.mk ky dy ey ksy))=bb at HSM HRN
    cases bb with
    | true =>
     have HRM:=Hh (show r=qAY (ks.drop (j+1)) (ks'.drop (j+1)) by rw [HRN.out,Bool.true_and])
     go_wp2_with (go_at_call 33;refine HSM.out.mono ?_;rintro ev w5 ⟨rfl,hb5⟩;have HB5:=Hh (HB4.out.trans (hb5.mono HB4.out.size));clear hb5)
     clear y0 y1 y2 y3 y4 z0 z1 z2 z3 z4
     go_roundw
     case rel=>exact ⟨j+1,hjl,by go_num,HB5,HRM⟩
     case measure=>simp [intOf];omega
    | false =>
     have HRM:=Hh (show r=false by rw [HRN.out,Bool.false_and])
     go_wp2_with (go_at_call 33;refine HSM.out.mono ?_;rintro ev w5 ⟨rfl,hb5⟩;have HB5:=Hh (HB4.out.trans (hb5.mono HB4.out.size));clear hb5)
     go_ret
     exact ⟨by rw [HRM.out];rfl,HB5.out⟩
   ·have i1:¬ (j:Int)<(ks.length:Int):=by omega
    have HRM:=Hh (show r=true by rw [HRJ.out,zH (by omega),zH (by have:=HLEN.out;omega)];rfl)
    go_wp2
    go_ret
    exact ⟨by rw [HRM.out];rfl,HB.out⟩
 ·have i0:¬ (ks.length:Int)=(ks'.length:Int):=by omega
  have HRM:=Hh (show r=false by
   rw [HR.out,Bool.eq_false_iff]
   intro h
   rw [(qDO ks ks').1 h] at hlen
   exact hlen rfl)
  go_enter Tryz.func32,Tryz.ntmps32
  go_wp2
  go_ret
  exact ⟨by rw [HRM.out];rfl,zC _ _⟩
theorem qKb (a b:List UInt8):((a==b)=true)∨((a==b)=false):=by cases a==b<;>simp
theorem qKl (w0:World):∀ (N:Nat) (x y:Nd),Stl.wt x≤N→qNj w0 x y
 | 0,x,y,hN=>by obtain ⟨k,d,e,ks⟩:=x;simp [Stl.wt] at hN
 | N+1,.mk k d e ks,.mk k' d' e' ks',hN=>by
  intro vs us w hb hx hy
  have HX:=Hh hx
  have HY:=Hh hy
  obtain ⟨A,c,rfl,hbd,hko⟩:=hx.open
  obtain ⟨A',c',rfl,hbd',hko'⟩:=hy.open
  have hb1:Below w.heap.size w ((w.alloc (.cells #[.string ⟨k.toArray⟩,.string ⟨d.toArray⟩,.bool e,.slice A ks.length c] 45)).alloc (.cells #[.string ⟨k'.toArray⟩,.string ⟨d'.toArray⟩,.bool e',.slice A' ks'.length c'] 45)):=((zC _ w).alloc (zr _) _).alloc (by simp) _
  have HX1:=Hh (qAm (w.alloc (.cells #[.string ⟨k.toArray⟩,.string ⟨d.toArray⟩,.bool e,.slice A ks.length c] 45)) (.cells #[.string ⟨k'.toArray⟩,.string ⟨d'.toArray⟩,.bool e',.slice A' ks'.length c'] 45) (zL1 w (.cells #[.string ⟨k.toArray⟩,.string ⟨d.toArray⟩,.bool e,.slice A ks.length c] 45)))
  have hx2:=zL1 (w.alloc (.cells #[.string ⟨k.toArray⟩,.string ⟨d.toArray⟩,.bool e,.slice A ks.length c] 45)) (.cells #[.string ⟨k'.toArray⟩,.string ⟨d'.toArray⟩,.bool e',.slice A' ks'.length c'] 45)
  rw [show (w.alloc (.cells #[.string ⟨k.toArray⟩,.string ⟨d.toArray⟩,.bool e,.slice A ks.length c] 45)).heap.size=w.heap.size+1 by simp] at hx2
  have HX2:=Hh hx2
  have HEQ:=Hh (qLu w0 A A' c c' ks ks' hbd.2.1 hbd'.2.1 hko hko' (fun j h h'=>qKl w0 N ks[j].2 ks'[j].2 (zt (Stl.wt_mem ks j h) (by simp only [Stl.wt] at hN;omega))) _ (hb.trans (hb1.mono hb.size)))
  have HB1:=Hh hb1
  have HR:=Hh (show qCQ (.mk k d e ks) (.mk k' d' e' ks')=(k==k'&&d==d'&&e==e'&&qAY ks ks') by rw [qCQ])
  generalize qCQ (.mk k d e ks) (.mk k' d' e' ks')=r at HR ⊢
  generalize qAY ks ks'=sk at HEQ HR
  clear hx hy hbd hbd' hko hko' hb1 hx2 hN hb
  go_enter Tryz.func14,Tryz.ntmps14
  go_upto_region 1 with fail
  generalize (w.alloc (.cells #[.string ⟨k.toArray⟩,.string ⟨d.toArray⟩,.bool e,.slice A ks.length c] 45)).alloc (.cells #[.string ⟨k'.toArray⟩,.string ⟨d'.toArray⟩,.bool e',.slice A' ks'.length c'] 45)=w4 at *
  have y0:w4.cell? ⟨w.heap.size,0,none⟩=some (.string ⟨k.toArray⟩):=zK1 w4 _ 0 _ _ _ HX1.out
  have y1:w4.cell? ⟨w.heap.size,1,none⟩=some (.string ⟨d.toArray⟩):=zK1 w4 _ 1 _ _ _ HX1.out
  have y2:w4.cell? ⟨w.heap.size,2,none⟩=some (.bool e):=zK1 w4 _ 2 _ _ _ HX1.out
  have y3:w4.cell? ⟨w.heap.size,3,none⟩=some (.slice A ks.length c):=zK1 w4 _ 3 _ _ _ HX1.out
  have z0:w4.cell? ⟨w.heap.size+1,0,none⟩=some (.string ⟨k'.toArray⟩):=zK1 w4 _ 0 _ _ _ HX2.out
  have z1:w4.cell? ⟨w.heap.size+1,1,none⟩=some (.string ⟨d'.toArray⟩):=zK1 w4 _ 1 _ _ _ HX2.out
  have z2:w4.cell? ⟨w.heap.size+1,2,none⟩=some (.bool e'):=zK1 w4 _ 2 _ _ _ HX2.out
  have z3:w4.cell? ⟨w.heap.size+1,3,none⟩=some (.slice A' ks'.length c'):=zK1 w4 _ 3 _ _ _ HX2.out
  rcases qKb k k' with hk | hk
  ·rcases qKb d d' with hd | hd
   ·rw [hk,hd] at HR
    cases e<;>cases e'
    ·go_wp2_with (go_at_call 32;refine HEQ.out.mono ?_;rintro ev w2 ⟨rfl,hb2⟩;have HB2:=Hh (HB1.out.trans (hb2.mono HB1.out.size));clear hb2)
     go_ret
     exact ⟨by rw [HR.out];simp,HB2.out⟩
    ·go_wp2_with fail
     go_ret
     exact ⟨by rw [HR.out];rfl,HB1.out⟩
    ·go_wp2_with fail
     go_ret
     exact ⟨by rw [HR.out];rfl,HB1.out⟩
    ·go_wp2_with (go_at_call 32;refine HEQ.out.mono ?_;rintro ev w2 ⟨rfl,hb2⟩;have HB2:=Hh (HB1.out.trans (hb2.mono HB1.out.size));clear hb2)
     go_ret
     exact ⟨by rw [HR.out];simp,HB2.out⟩
   ·rw [hk,hd] at HR
    go_wp2_with fail
    go_ret
    exact ⟨by rw [HR.out];rfl,HB1.out⟩
  ·rw [hk] at HR
   go_wp2_with fail
   go_ret
   exact ⟨by rw [HR.out];rfl,HB1.out⟩
end Go.Proofs.YthogfjmnnaoldaaGreatDoor
