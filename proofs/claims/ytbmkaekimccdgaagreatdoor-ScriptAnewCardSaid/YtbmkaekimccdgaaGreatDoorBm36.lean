/- Lemmas. -/
import Derived.Test.YtbmkaekimccdgaaGreatDoorBm35
set_option maxHeartbeats 16000000
set_option maxRecDepth 1000000
set_option linter.all false
namespace Go.Proofs.YtbmkaekimccdgaaGreatDoor
open Go.RowKit Go.Sort Go.Shelf Stl
theorem qIf {f n:Nat}{c:UInt8}{rs:List UInt8}(hn:¬ 200<n+1)(hc:c=100):jM (f+1) (c::rs) n=wT f rs (n+1):=by
 subst hc;unfold jM wT;rw[zL1 hn];simp only[if_true]
 cases vH rs with
 | none=>rfl
 | some q =>
  obtain⟨k,r1⟩:=q;simp only
  cases vR (jM f) k r1 (n+1) with
  | error e=>rfl
  | ok q=>rfl
theorem qA8 {f n:Nat}{c:UInt8}{rs:List UInt8}(hn:¬ 200<n+1)(hc:c≠100)(h3:c=108∨c=102∨c=120):jM (f+1) (c::rs) n=match qP rs with | none=>.error 1 | some (d,s2)=>.ok (.mk (if c=108 then kLink else kFile) d (c=120) [],s2,n+1):=by
 unfold jM;rw[zL1 hn];simp only[zL1 hc,zM1 h3]
 cases qP rs with
 | none=>rfl
 | some q=>rfl
theorem qEP {f n:Nat}{c:UInt8}{rs:List UInt8}(hn:¬ 200<n+1)(hc:c≠100)(h3:¬ (c=108∨c=102∨c=120)):jM (f+1) (c::rs) n=.error 1:=by
 unfold jM;rw[zL1 hn];simp only[zL1 hc,zL1 h3]
theorem qC3 {P:Nat→Prop}{w:World}{k d:List UInt8}{e:Bool}(hk:k.length≤140737488355328)(hd:d.length≤140737488355328):NodeP P w (.mk k d e []) [.string ⟨k.toArray⟩,.string ⟨d.toArray⟩,.bool e,.slice none 0 0]:=by
 unfold NodeP;exact⟨none,0,rfl,⟨zo _,zw _,hk,hd⟩,fun h=>absurd rfl h⟩
theorem dE {w:World}{r x n:Nat}{s:List UInt8}{u0 u1 u2 u3:Value}(h:RdAt w r s n)(hx:r≠x):RdAt ((((w.setCell ⟨x,0,none⟩ u0).setCell ⟨x,1,none⟩ u1).setCell ⟨x,2,none⟩ u2).setCell ⟨x,3,none⟩ u3) r s n:=by
 unfold RdAt at h ⊢;rw[zA _ ⟨x,3,none⟩ _ r hx,zA _ ⟨x,2,none⟩ _ r hx,zA _ ⟨x,1,none⟩ _ r hx,zA _ ⟨x,0,none⟩ _ r hx];exact h
theorem dJ {a b:UInt8}{v:Int}(h:((a.toNat:Nat):Int)=v)(hb:((b.toNat:Nat):Int)=v):a=b:=UInt8.toNat_inj.1 (by omega)
section
variable {p:Nat→Addr}
theorem qJn:dS p 0:=by
 intro deep hd r s n w hr hE hs hn;obtain rfl:deep=9:=by omega
 have HX:=Hh (show jM 0 s n=.error 9 from rfl);have hrl:r<w.heap.size:=qA hr;have HEW:=Hh hE;have c1:=ce1 hr;have f1:=qC hr 1;have hba:Below (w.setCell ⟨r,1,none⟩ (.int .i64 ((n:Int)+1))).heap.size (w.setCell ⟨r,1,none⟩ (.int .i64 ((n:Int)+1))) ((w.setCell ⟨r,1,none⟩ (.int .i64 ((n:Int)+1))).alloc (.cells #[.string ⟨#[]⟩,.string ⟨#[]⟩,.bool false,.slice none 0 0] 134)):=(zB _ _).alloc (zo _) _;have hza:(w.setCell ⟨r,1,none⟩ (.int .i64 ((n:Int)+1))).heap.size=w.heap.size:=by simp[World.setCell]
 have HZ1:=Hh (show ((w.setCell ⟨r,1,none⟩ (.int .i64 ((n:Int)+1))).alloc (.cells #[.string ⟨#[]⟩,.string ⟨#[]⟩,.bool false,.slice none 0 0] 134)).heap[w.heap.size]?=some (.cells #[.string ⟨#[]⟩,.string ⟨#[]⟩,.bool false,.slice none 0 0] 134 (0,0)) from by
  have:=zK1 (w.setCell ⟨r,1,none⟩ (.int .i64 ((n:Int)+1))) (.cells #[.string ⟨#[]⟩,.string ⟨#[]⟩,.bool false,.slice none 0 0] 134)
  rw[hza] at this
  exact this)
 have hra:RdAt (w.setCell ⟨r,1,none⟩ (.int .i64 ((n:Int)+1))) r s (n+1):=by
  have:=qH hr 1 (.int .i64 ((n:Int)+1));simpa[RdAt] using this
 have HR1:=Hh (hra.later hba);have HE1:=Hh (((Ext.refl w (RC r) (S1 .tape)).setCell (a:=⟨r,1,none⟩) (fun _=>by rw[oK];rfl) (.int .i64 ((n:Int)+1))).trans (jY hba));have HV1:=Hh (hE.ext HE1.o);have hsz1:((w.setCell ⟨r,1,none⟩ (.int .i64 ((n:Int)+1))).alloc (.cells #[.string ⟨#[]⟩,.string ⟨#[]⟩,.bool false,.slice none 0 0] 134)).heap.size=w.heap.size+1:=by simp[World.setCell]
 clear hr hE hba hra hza;go_enter Tryz.func170,Tryz.ntmps170;go_upto_region 2 with fail;generalize (w.setCell ⟨r,1,none⟩ (.int .i64 ((n:Int)+1))).alloc (.cells #[.string ⟨#[]⟩,.string ⟨#[]⟩,.bool false,.slice none 0 0] 134)=w1 at *;clear c1 f1;go_upto_region 3 with fail;obtain⟨z0,z1,z2,z3⟩:=cq HZ1.o;have f0:w1.frozen? ⟨w.heap.size,0,none⟩=false:=qC HZ1.o 0;have f1:w1.frozen? ⟨w.heap.size,1,none⟩=false:=qC HZ1.o 1;have f2:w1.frozen? ⟨w.heap.size,2,none⟩=false:=qC HZ1.o 2;have f3:w1.frozen? ⟨w.heap.size,3,none⟩=false:=qC HZ1.o 3;have hg:w1.cell? ⟨8,0,none⟩=some (.iface 376 (.pointer (some (p 9)))):=HV1.o.errs.cell 9 (by decide) (by decide);have hgne:w.heap.size≠8:=by
  have h0:=lt_of_cell (HEW.o.errs.cell 9 (by decide) (by decide));simp[wA] at h0;omega
 have hgne':8≠w.heap.size:=hgne.symm
 go_region
 obtain⟨w9,E9,HF,HEF⟩:=wM HZ1.o HE1.o (fun h=>absurd h (zr w.heap.size)) (.string ⟨#[]⟩) (.string ⟨#[]⟩) (.bool false) (.slice none 0 0);clear z0 z1 z2 z3 f0 f1 f2 f3 hg hgne hgne';go_wp2_with fail;rw[E9.o];obtain⟨r0,r1,r2,r3⟩:=cq HF.o;refine zH1 (v:=.tuple #[.agg #[.string ⟨#[]⟩,.string ⟨#[]⟩,.bool false,.slice none 0 0],.iface 376 (.pointer (some (p 9)))]) ?_ rfl ⟨HEF.o,?_⟩
 ·simp[results,Tryz.results170,go_sem,r0,r1,r2,r3]
 ·rw[HX.o];exact⟨_,_,_,_,_,_,_,rfl,(qD p (by decide)).symm,by decide⟩
theorem qKo {f:Nat}(IH:dS p f):dS p (f+1):=by
 intro deep hd r s n w hr hE hs hn;have HIH:=Hh IH;have HHN:=Hh hn;have i8:¬ (8:Int)<(deep:Int):=by omega
 clear IH;have hrl:r<w.heap.size:=qA hr;have HEW:=Hh hE;have c1:=ce1 hr;have f1:=qC hr 1;have hba:Below (w.setCell ⟨r,1,none⟩ (.int .i64 ((n:Int)+1))).heap.size (w.setCell ⟨r,1,none⟩ (.int .i64 ((n:Int)+1))) ((w.setCell ⟨r,1,none⟩ (.int .i64 ((n:Int)+1))).alloc (.cells #[.string ⟨#[]⟩,.string ⟨#[]⟩,.bool false,.slice none 0 0] 134)):=(zB _ _).alloc (zo _) _;have hza:(w.setCell ⟨r,1,none⟩ (.int .i64 ((n:Int)+1))).heap.size=w.heap.size:=by simp[World.setCell]
 have HZ1:=Hh (show ((w.setCell ⟨r,1,none⟩ (.int .i64 ((n:Int)+1))).alloc (.cells #[.string ⟨#[]⟩,.string ⟨#[]⟩,.bool false,.slice none 0 0] 134)).heap[w.heap.size]?=some (.cells #[.string ⟨#[]⟩,.string ⟨#[]⟩,.bool false,.slice none 0 0] 134 (0,0)) from by
  have:=zK1 (w.setCell ⟨r,1,none⟩ (.int .i64 ((n:Int)+1))) (.cells #[.string ⟨#[]⟩,.string ⟨#[]⟩,.bool false,.slice none 0 0] 134)
  rw[hza] at this
  exact this)
 have hra:RdAt (w.setCell ⟨r,1,none⟩ (.int .i64 ((n:Int)+1))) r s (n+1):=by
  have:=qH hr 1 (.int .i64 ((n:Int)+1));simpa[RdAt] using this
 have HR1:=Hh (hra.later hba);have HE1:=Hh (((Ext.refl w (RC r) (S1 .tape)).setCell (a:=⟨r,1,none⟩) (fun _=>by rw[oK];rfl) (.int .i64 ((n:Int)+1))).trans (jY hba));have HV1:=Hh (hE.ext HE1.o);have hsz1:((w.setCell ⟨r,1,none⟩ (.int .i64 ((n:Int)+1))).alloc (.cells #[.string ⟨#[]⟩,.string ⟨#[]⟩,.bool false,.slice none 0 0] 134)).heap.size=w.heap.size+1:=by simp[World.setCell]
 clear hr hE hba hra hza;go_enter Tryz.func170,Tryz.ntmps170;go_upto_region 2 with fail;generalize (w.setCell ⟨r,1,none⟩ (.int .i64 ((n:Int)+1))).alloc (.cells #[.string ⟨#[]⟩,.string ⟨#[]⟩,.bool false,.slice none 0 0] 134)=w1 at *;clear c1 f1;have c1:=ce1 HR1.o;by_cases h200:200<n+1
 ·have HX:=Hh (show jM (f+1) s n=.error 8 by unfold jM;rw[zM1 h200]);have i200:(200:Int)<(n:Int)+1:=by omega
  clear h200 hn;go_upto_region 5 with fail;clear c1;obtain⟨z0,z1,z2,z3⟩:=cq HZ1.o;have f0:w1.frozen? ⟨w.heap.size,0,none⟩=false:=qC HZ1.o 0;have f1:w1.frozen? ⟨w.heap.size,1,none⟩=false:=qC HZ1.o 1;have f2:w1.frozen? ⟨w.heap.size,2,none⟩=false:=qC HZ1.o 2;have f3:w1.frozen? ⟨w.heap.size,3,none⟩=false:=qC HZ1.o 3;have hg:w1.cell? ⟨7,0,none⟩=some (.iface 376 (.pointer (some (p 8)))):=HV1.o.errs.cell 8 (by decide) (by decide);have hgne:w.heap.size≠7:=by
   have h0:=lt_of_cell (HEW.o.errs.cell 8 (by decide) (by decide));simp[wA] at h0;omega
  have hgne':7≠w.heap.size:=hgne.symm
  go_region
  obtain⟨w9,E9,HF,HEF⟩:=wM HZ1.o HE1.o (fun h=>absurd h (zr w.heap.size)) (.string ⟨#[]⟩) (.string ⟨#[]⟩) (.bool false) (.slice none 0 0);clear z0 z1 z2 z3 f0 f1 f2 f3 hg hgne hgne';go_wp2_with fail;rw[E9.o];obtain⟨r0,r1,r2,r3⟩:=cq HF.o;refine zH1 (v:=.tuple #[.agg #[.string ⟨#[]⟩,.string ⟨#[]⟩,.bool false,.slice none 0 0],.iface 376 (.pointer (some (p 8)))]) ?_ rfl ⟨HEF.o,?_⟩
  ·simp[results,Tryz.results170,go_sem,r0,r1,r2,r3]
  ·rw[HX.o];exact⟨_,_,_,_,_,_,_,rfl,(qD p (by decide)).symm,by decide⟩
 have i200:¬ (200:Int)<(n:Int)+1:=by omega
 have H200:=Hh h200;clear h200 hn
 cases s with
 | nil =>
  have HX:=Hh (show jM (f+1) [] n=.error 1 by unfold jM;rw[zL1 H200.o]);have c0:=ce0 HR1.o;go_upto_region 7 with fail;clear c1 c0;obtain⟨z0,z1,z2,z3⟩:=cq HZ1.o;have f0:w1.frozen? ⟨w.heap.size,0,none⟩=false:=qC HZ1.o 0;have f1:w1.frozen? ⟨w.heap.size,1,none⟩=false:=qC HZ1.o 1;have f2:w1.frozen? ⟨w.heap.size,2,none⟩=false:=qC HZ1.o 2;have f3:w1.frozen? ⟨w.heap.size,3,none⟩=false:=qC HZ1.o 3;have hg:w1.cell? ⟨1,0,none⟩=some (.iface 376 (.pointer (some (p 1)))):=HV1.o.errs.cell 1 (by decide) (by decide);have hgne:w.heap.size≠1:=by
   have h0:=lt_of_cell (HEW.o.errs.cell 1 (by decide) (by decide));simp[wA] at h0;omega
  have hgne':1≠w.heap.size:=hgne.symm
  go_region
  obtain⟨w9,E9,HF,HEF⟩:=wM HZ1.o HE1.o (fun h=>absurd h (zr w.heap.size)) (.string ⟨#[]⟩) (.string ⟨#[]⟩) (.bool false) (.slice none 0 0);clear z0 z1 z2 z3 f0 f1 f2 f3 hg hgne hgne';go_wp2_with fail;rw[E9.o];obtain⟨r0,r1,r2,r3⟩:=cq HF.o;refine zH1 (v:=.tuple #[.agg #[.string ⟨#[]⟩,.string ⟨#[]⟩,.bool false,.slice none 0 0],.iface 376 (.pointer (some (p 1)))]) ?_ rfl ⟨HEF.o,?_⟩
  ·simp[results,Tryz.results170,go_sem,r0,r1,r2,r3]
  ·rw[HX.o];exact⟨_,_,_,_,_,_,_,rfl,(qD p (by decide)).symm,by decide⟩
 | cons c rs =>
  obtain⟨s0,hs0⟩:∃ s0,s0=c::rs:=⟨_,rfl⟩;have hrs:rs.length≤20000:=by simp at hs;omega
  rw[← hs0] at HR1 hs;have c0:=ce0 HR1.o;have f0:w1.frozen? ⟨r,0,none⟩=false:=qC HR1.o 0;have hne:(s0==[])=false:=by rw[hs0];rfl
  have hpf:0<(ByteArray.mk s0.toArray).size:=by rw[hs0];simp[ByteArray.size]
  have hl1:(1:Int)≤(s0.length:Int):=by rw[hs0];simp;omega
  have hl0:(0:Int)<(s0.length:Int):=by omega
  have hx1:(⟨s0.toArray⟩:ByteArray).extract 1 s0.length=⟨rs.toArray⟩:=by
   rw[extract_drop,hs0];rfl
  have hcb:(ByteArray.mk s0.toArray)[0]'hpf=c:=by
   subst hs0;rfl
  have HCB:=Hh hcb;have HS0:=Hh hs0;clear hs0;have HSZ:=Hh hsz1;clear hcb hsz1;go_upto_region 10 with fail;generalize (ByteArray.mk s0.toArray)[0]'hpf=cb at *;have HR2:=Hh (show RdAt (w1.setCell ⟨r,0,none⟩ (.string ⟨rs.toArray⟩)) r rs (n+1) from by
   have:=qH HR1.o 0 (.string ⟨rs.toArray⟩)
   simpa[RdAt] using this)
  have HE2:=Hh (HE1.o.setCell (a:=⟨r,0,none⟩) (fun _=>by rw[oK];rfl) (.string ⟨rs.toArray⟩));have HZ2:=Hh ((vJ (w:=w1) (b:=r) (j:=0) (u:=.string ⟨rs.toArray⟩)).block w.heap.size (by have:=HSZ.o;omega) (fun h=>by injection h with h;omega) |>.trans HZ1.o);have HS2:=Hh (show (w1.setCell ⟨r,0,none⟩ (.string ⟨rs.toArray⟩)).heap.size=w.heap.size+1 by rw[← HSZ.o];simp[World.setCell]);clear c0 f0 c1 hne hpf hl1 hl0 hx1;generalize w1.setCell ⟨r,0,none⟩ (.string ⟨rs.toArray⟩)=w2 at *;have HV2:=Hh (HEW.o.ext HE2.o);by_cases hc100:c=100
  ·have HX:=Hh (show jM (f+1) (c::rs) n=wT f rs (n+1) from qIf H200.o hc100);have hn120:¬ ((cb.toNat:Nat):Int)=120:=by rw[HCB.o,hc100];decide
   have e100:((cb.toNat:Nat):Int)=100:=by rw[HCB.o,hc100];rfl
   go_upto_region 14 with fail;have hb3:=(zB w2.heap.size w2).alloc (zo _) (.cells #[.string ⟨#[102,105,108,101]⟩,.string ⟨#[]⟩,.bool false,.slice none 0 0] 134);have HR3:=Hh (HR2.o.later hb3);have HE3:=Hh (HE2.o.trans (jY hb3));have HV3:=Hh (HV2.o.below hb3);have HZ3:=Hh ((hb3.block _ (qA HZ2.o)).trans HZ2.o);have H73:=Hh (show (w2.alloc (.cells #[.string ⟨#[102,105,108,101]⟩,.string ⟨#[]⟩,.bool false,.slice none 0 0] 134)).heap[w2.heap.size]?=some (.cells #[.string ⟨#[102,105,108,101]⟩,.string ⟨#[]⟩,.bool false,.slice none 0 0] 134 (0,0)) from zK1 w2 _);have HS3:=Hh (show (w2.alloc (.cells #[.string ⟨#[102,105,108,101]⟩,.string ⟨#[]⟩,.bool false,.slice none 0 0] 134)).heap.size=w.heap.size+2 by have:=HS2.o;simp;omega);clear hb3;generalize w2.alloc (.cells #[.string ⟨#[102,105,108,101]⟩,.string ⟨#[]⟩,.bool false,.slice none 0 0] 134)=w3 at *;have HDR:=Hh (qNn HIH.o deep (by omega) r rs (n+1) w3 HR3.o HV3.o hrs (by have:=H200.o;omega));go_wp2_with (go_at_call 231;refine HDR.o.mono ?_;rintro ev w4 ⟨he4,a0,a1,a2,A5,m5,cp5,er,rfl,hm⟩;have HE4:=Hh he4;have HM:=Hh hm;have HZ4:=Hh (HE4.o.kept HZ3.o (vG (by omega)) rfl).1;have z0:w4.cell? ⟨w.heap.size,0,none⟩=some (.string ⟨#[]⟩):=zJ1 w4 _ 0 _ _ _ HZ4.o;have z1:w4.cell? ⟨w.heap.size,1,none⟩=some (.string ⟨#[]⟩):=zJ1 w4 _ 1 _ _ _ HZ4.o;have z2:w4.cell? ⟨w.heap.size,2,none⟩=some (.bool false):=zJ1 w4 _ 2 _ _ _ HZ4.o;have z3:w4.cell? ⟨w.heap.size,3,none⟩=some (.slice none 0 0):=zJ1 w4 _ 3 _ _ _ HZ4.o;have f0:w4.frozen? ⟨w.heap.size,0,none⟩=false:=qC HZ4.o 0;have f1:w4.frozen? ⟨w.heap.size,1,none⟩=false:=qC HZ4.o 1;have f2:w4.frozen? ⟨w.heap.size,2,none⟩=false:=qC HZ4.o 2;have f3:w4.frozen? ⟨w.heap.size,3,none⟩=false:=qC HZ4.o 3;clear he4 hm);have HE4':=Hh (HE3.o.trans HE4.o);obtain⟨w9,E9,HF,HEF⟩:=mS HZ4.o HE4'.o (fun h=>absurd h (zr w.heap.size)) (.string a0) (.string a1) (.bool a2) (.slice A5 m5 cp5);clear z0 z1 z2 z3 f0 f1 f2 f3;have HPO:=Hh (show ∀ ev,ev=.returned (.tuple #[.agg #[.string a0,.string a1,.bool a2,.slice A5 m5 cp5],er])→qKj p r w.heap.size (wT f rs (n+1)) ev w9 from fun ev he=>by
    rw[← E9.o]
    have hm:=HM.o
    have hs3:=HS3.o
    refine⟨a0,a1,a2,A5,m5,cp5,er,he,?_⟩
    cases hdr:wT f rs (n+1) with
    | error cd=>rw[hdr] at hm;exact hm
    | ok q =>
     obtain⟨nd,s',n'⟩:=q
     rw[hdr] at hm
     obtain⟨h1,h2,h3⟩:=hm
     exact⟨h1,dE h2 (by omega),NodeP.go (zo _) (fun b _ hp=>⟨rfl,by omega⟩) _ _ (NodeP.set4 (x:=w.heap.size) (u0:=.string a0) (u1:=.string a1) (u2:=.bool a2) (u3:=.slice A5 m5 cp5) h3 (fun b hb=>by omega))⟩)
   rw[E9.o];obtain⟨r0,r1,r2,r3⟩:=cq HF.o;refine zH1 (v:=.tuple #[.agg #[.string a0,.string a1,.bool a2,.slice A5 m5 cp5],er]) ?_ rfl ⟨HEF.o,?_⟩
   ·simp[results,Tryz.results170,go_sem,r0,r1,r2,r3]
   ·rw[HX.o];exact HPO.o _ rfl
  by_cases hc108:c=108
  ·have hn120:¬ ((cb.toNat:Nat):Int)=120:=by rw[HCB.o,hc108];decide
   have hn100:¬ ((cb.toNat:Nat):Int)=100:=by rw[HCB.o,hc108];decide
   have e108:((cb.toNat:Nat):Int)=108:=by rw[HCB.o,hc108];rfl
   have HX0:=Hh (show jM (f+1) (c::rs) n=match qP rs with | none=>.error 1 | some (d,s2)=>.ok (.mk kLink d false [],s2,n+1) by
    rw[qA8 H200.o hc100 (by simp[hc108])]
    subst hc108
    rfl)
   go_upto_region 16 with fail;have hb3:=(zB w2.heap.size w2).alloc (zo _) (.cells #[.string ⟨#[102,105,108,101]⟩,.string ⟨#[]⟩,.bool false,.slice none 0 0] 134);have HR3:=Hh (HR2.o.later hb3);have HE3:=Hh (HE2.o.trans (jY hb3));have HV3:=Hh (HV2.o.below hb3);have HZ3:=Hh ((hb3.block _ (qA HZ2.o)).trans HZ2.o);have H73:=Hh (show (w2.alloc (.cells #[.string ⟨#[102,105,108,101]⟩,.string ⟨#[]⟩,.bool false,.slice none 0 0] 134)).heap[w2.heap.size]?=some (.cells #[.string ⟨#[102,105,108,101]⟩,.string ⟨#[]⟩,.bool false,.slice none 0 0] 134 (0,0)) from zK1 w2 _);have HS3:=Hh (show (w2.alloc (.cells #[.string ⟨#[102,105,108,101]⟩,.string ⟨#[]⟩,.bool false,.slice none 0 0] 134)).heap.size=w.heap.size+2 by have:=HS2.o;simp;omega);clear hb3;generalize w2.alloc (.cells #[.string ⟨#[102,105,108,101]⟩,.string ⟨#[]⟩,.bool false,.slice none 0 0] 134)=w3 at *;have hb7a:w.heap.size<w2.heap.size:=by have:=HS2.o;omega
   generalize hb7:w2.heap.size=b7 at *;clear hb7;have q0:=ce0 H73.o;have g0:w3.frozen? ⟨b7,0,none⟩=false:=qC H73.o 0;go_upto_region 19 with fail;have HR4:=Hh (show RdAt (w3.setCell ⟨b7,0,none⟩ (.string ⟨#[108,105,110,107]⟩)) r rs (n+1) from (vJ.block r (qA HR3.o) (fun h=>by injection h with h;omega)).trans HR3.o);have HE4:=Hh (HE3.o.setCell (a:=⟨b7,0,none⟩) (fun h=>absurd h (Nat.not_lt.2 (Nat.le_of_lt hb7a))) (.string ⟨#[108,105,110,107]⟩));have HZ4:=Hh ((vJ (w:=w3) (b:=b7) (j:=0) (u:=.string ⟨#[108,105,110,107]⟩)).block w.heap.size (qA HZ3.o) (fun h=>by injection h with h;omega) |>.trans HZ3.o);have H74:=Hh (show (w3.setCell ⟨b7,0,none⟩ (.string ⟨#[108,105,110,107]⟩)).heap[b7]?=some (.cells #[.string ⟨#[108,105,110,107]⟩,.string ⟨#[]⟩,.bool false,.slice none 0 0] 134 (0,0)) from qH H73.o 0 (.string ⟨#[108,105,110,107]⟩));clear q0 g0;generalize w3.setCell ⟨b7,0,none⟩ (.string ⟨#[108,105,110,107]⟩)=w4 at *;have HV4:=Hh (HEW.o.ext HE4.o)
   cases hcn:qP rs with
   | none =>
    have HX:=Hh (HX0.o.trans (by rw[hcn]));have HC:=Hh hcn;clear hcn;go_upto_region 21 with (go_at_call 232;refine(yM HR4.o HV4.o hrs).mono ?_;rintro ev w5 ⟨he5,hn5⟩;obtain rfl:=hn5.isNo HC.o;have HE5:=Hh he5;clear he5 hn5);have HZ5:=Hh (HE5.o.kept HZ4.o (vG (by omega)) rfl).1;have HE5':=Hh (HE4.o.trans HE5.o);have HV5:=Hh (HV4.o.ext HE5.o);obtain⟨z0,z1,z2,z3⟩:=cq HZ5.o;have f0:w5.frozen? ⟨w.heap.size,0,none⟩=false:=qC HZ5.o 0;have f1:w5.frozen? ⟨w.heap.size,1,none⟩=false:=qC HZ5.o 1;have f2:w5.frozen? ⟨w.heap.size,2,none⟩=false:=qC HZ5.o 2;have f3:w5.frozen? ⟨w.heap.size,3,none⟩=false:=qC HZ5.o 3;have hg:w5.cell? ⟨1,0,none⟩=some (.iface 376 (.pointer (some (p 1)))):=HV5.o.errs.cell 1 (by decide) (by decide);have hgne:w.heap.size≠1:=by
     have h0:=lt_of_cell (HEW.o.errs.cell 1 (by decide) (by decide));simp[wA] at h0;omega
    have hgne':1≠w.heap.size:=hgne.symm
    go_region
    obtain⟨w9,E9,HF,HEF⟩:=wM HZ5.o HE5'.o (fun h=>absurd h (zr w.heap.size)) (.string ⟨#[]⟩) (.string ⟨#[]⟩) (.bool false) (.slice none 0 0);clear z0 z1 z2 z3 f0 f1 f2 f3 hg hgne hgne';go_wp2_with fail;rw[E9.o];obtain⟨r0,r1,r2,r3⟩:=cq HF.o;refine zH1 (v:=.tuple #[.agg #[.string ⟨#[]⟩,.string ⟨#[]⟩,.bool false,.slice none 0 0],.iface 376 (.pointer (some (p 1)))]) ?_ rfl ⟨HEF.o,?_⟩
    ·simp[results,Tryz.results170,go_sem,r0,r1,r2,r3]
    ·rw[HX.o];exact⟨_,_,_,_,_,_,_,rfl,(qD p (by decide)).symm,by decide⟩
   | some q =>
    obtain⟨d,s2⟩:=q;have HX:=Hh (HX0.o.trans (by rw[hcn]));have HC:=Hh hcn;have hdl:=(yL hcn).1;clear hcn;go_upto_region 22 with (go_at_call 232;refine(yM HR4.o HV4.o hrs).mono ?_;rintro ev w5 ⟨he5,hn5⟩;obtain⟨rfl,hr5⟩:=hn5.isYes HC.o;have HE5:=Hh he5;have HR5:=Hh hr5;clear he5 hn5 hr5);have HZ5:=Hh (HE5.o.kept HZ4.o (vG (by omega)) rfl).1;have H75:=Hh (HE5.o.kept H74.o (vG (by omega)) rfl).1;have q1:=ce1 H75.o;have g1:w5.frozen? ⟨b7,1,none⟩=false:=qC H75.o 1;go_upto_region 23 with fail;have HR6:=Hh (show RdAt (w5.setCell ⟨b7,1,none⟩ (.string ⟨d.toArray⟩)) r s2 (n+1) from (vJ.block r (qA HR5.o) (fun h=>by injection h with h;omega)).trans HR5.o);have HE6:=Hh ((HE4.o.trans HE5.o).setCell (a:=⟨b7,1,none⟩) (fun h=>absurd h (Nat.not_lt.2 (Nat.le_of_lt hb7a))) (.string ⟨d.toArray⟩));have HZ6:=Hh ((vJ (w:=w5) (b:=b7) (j:=1) (u:=.string ⟨d.toArray⟩)).block w.heap.size (qA HZ5.o) (fun h=>by injection h with h;omega) |>.trans HZ5.o);have H76:=Hh (show (w5.setCell ⟨b7,1,none⟩ (.string ⟨d.toArray⟩)).heap[b7]?=some (.cells #[.string ⟨#[108,105,110,107]⟩,.string ⟨d.toArray⟩,.bool false,.slice none 0 0] 134 (0,0)) from qH H75.o 1 (.string ⟨d.toArray⟩));clear q1 g1;generalize w5.setCell ⟨b7,1,none⟩ (.string ⟨d.toArray⟩)=w6 at *;obtain⟨z0,z1,z2,z3⟩:=cq HZ6.o;have f0:w6.frozen? ⟨w.heap.size,0,none⟩=false:=qC HZ6.o 0;have f1:w6.frozen? ⟨w.heap.size,1,none⟩=false:=qC HZ6.o 1;have f2:w6.frozen? ⟨w.heap.size,2,none⟩=false:=qC HZ6.o 2;have f3:w6.frozen? ⟨w.heap.size,3,none⟩=false:=qC HZ6.o 3;obtain⟨y0,y1,y2,y3⟩:=cq H76.o;go_wp2_with fail;obtain⟨w9,E9,HF,HEF⟩:=mS HZ6.o HE6.o (fun h=>absurd h (zr w.heap.size)) (.string ⟨#[108,105,110,107]⟩) (.string ⟨d.toArray⟩) (.bool false) (.slice none 0 0);clear z0 z1 z2 z3 f0 f1 f2 f3 y0 y1 y2 y3;have HPO:=Hh (show RdAt w9 r s2 (n+1) from by rw[← E9.o];exact dE HR6.o (by omega));rw[E9.o];obtain⟨r0,r1,r2,r3⟩:=cq HF.o;refine zH1 (v:=.tuple #[.agg #[.string ⟨#[108,105,110,107]⟩,.string ⟨d.toArray⟩,.bool false,.slice none 0 0],.nilIface]) ?_ rfl ⟨HEF.o,?_⟩
    ·simp[results,Tryz.results170,go_sem,r0,r1,r2,r3]
    ·rw[HX.o];exact⟨_,_,_,_,_,_,_,rfl,rfl,HPO.o,qC3 (k:=kLink) (by decide) (by omega)⟩
  by_cases hc102:c=102
  ·have hn120:¬ ((cb.toNat:Nat):Int)=120:=by rw[HCB.o,hc102];decide
   have hn100:¬ ((cb.toNat:Nat):Int)=100:=by rw[HCB.o,hc102];decide
   have hn108:¬ ((cb.toNat:Nat):Int)=108:=by rw[HCB.o,hc102];decide
   have e102:((cb.toNat:Nat):Int)=102:=by rw[HCB.o,hc102];rfl
   have HX0:=Hh (show jM (f+1) (c::rs) n=match qP rs with | none=>.error 1 | some (d,s2)=>.ok (.mk kFile d false [],s2,n+1) by
    rw[qA8 H200.o hc100 (by simp[hc102])]
    subst hc102
    rfl)
   go_upto_region 19 with fail;have hb3:=(zB w2.heap.size w2).alloc (zo _) (.cells #[.string ⟨#[102,105,108,101]⟩,.string ⟨#[]⟩,.bool false,.slice none 0 0] 134);have HR3:=Hh (HR2.o.later hb3);have HE3:=Hh (HE2.o.trans (jY hb3));have HV3:=Hh (HV2.o.below hb3);have HZ3:=Hh ((hb3.block _ (qA HZ2.o)).trans HZ2.o);have H73:=Hh (show (w2.alloc (.cells #[.string ⟨#[102,105,108,101]⟩,.string ⟨#[]⟩,.bool false,.slice none 0 0] 134)).heap[w2.heap.size]?=some (.cells #[.string ⟨#[102,105,108,101]⟩,.string ⟨#[]⟩,.bool false,.slice none 0 0] 134 (0,0)) from zK1 w2 _);have HS3:=Hh (show (w2.alloc (.cells #[.string ⟨#[102,105,108,101]⟩,.string ⟨#[]⟩,.bool false,.slice none 0 0] 134)).heap.size=w.heap.size+2 by have:=HS2.o;simp;omega);clear hb3;generalize w2.alloc (.cells #[.string ⟨#[102,105,108,101]⟩,.string ⟨#[]⟩,.bool false,.slice none 0 0] 134)=w3 at *;have hb7a:w.heap.size<w2.heap.size:=by have:=HS2.o;omega
   generalize hb7:w2.heap.size=b7 at *;clear hb7;have HR4:=HR3;have HE4:=HE3;have HZ4:=HZ3;have H74:=H73;have HV4:=HV3;obtain⟨w4,hw4⟩:∃ w4,w4=w3:=⟨_,rfl⟩;rw[← hw4] at HR4 HE4 HZ4 H74 HV4;rw[← hw4];clear hw4
   cases hcn:qP rs with
   | none =>
    have HX:=Hh (HX0.o.trans (by rw[hcn]));have HC:=Hh hcn;clear hcn;go_upto_region 21 with (go_at_call 232;refine(yM HR4.o HV4.o hrs).mono ?_;rintro ev w5 ⟨he5,hn5⟩;obtain rfl:=hn5.isNo HC.o;have HE5:=Hh he5;clear he5 hn5);have HZ5:=Hh (HE5.o.kept HZ4.o (vG (by omega)) rfl).1;have HE5':=Hh (HE4.o.trans HE5.o);have HV5:=Hh (HV4.o.ext HE5.o);obtain⟨z0,z1,z2,z3⟩:=cq HZ5.o;have f0:w5.frozen? ⟨w.heap.size,0,none⟩=false:=qC HZ5.o 0;have f1:w5.frozen? ⟨w.heap.size,1,none⟩=false:=qC HZ5.o 1;have f2:w5.frozen? ⟨w.heap.size,2,none⟩=false:=qC HZ5.o 2;have f3:w5.frozen? ⟨w.heap.size,3,none⟩=false:=qC HZ5.o 3;have hg:w5.cell? ⟨1,0,none⟩=some (.iface 376 (.pointer (some (p 1)))):=HV5.o.errs.cell 1 (by decide) (by decide);have hgne:w.heap.size≠1:=by
     have h0:=lt_of_cell (HEW.o.errs.cell 1 (by decide) (by decide));simp[wA] at h0;omega
    have hgne':1≠w.heap.size:=hgne.symm
    go_region
    obtain⟨w9,E9,HF,HEF⟩:=wM HZ5.o HE5'.o (fun h=>absurd h (zr w.heap.size)) (.string ⟨#[]⟩) (.string ⟨#[]⟩) (.bool false) (.slice none 0 0);clear z0 z1 z2 z3 f0 f1 f2 f3 hg hgne hgne';go_wp2_with fail;rw[E9.o];obtain⟨r0,r1,r2,r3⟩:=cq HF.o;refine zH1 (v:=.tuple #[.agg #[.string ⟨#[]⟩,.string ⟨#[]⟩,.bool false,.slice none 0 0],.iface 376 (.pointer (some (p 1)))]) ?_ rfl ⟨HEF.o,?_⟩
    ·simp[results,Tryz.results170,go_sem,r0,r1,r2,r3]
    ·rw[HX.o];exact⟨_,_,_,_,_,_,_,rfl,(qD p (by decide)).symm,by decide⟩
   | some q =>
    obtain⟨d,s2⟩:=q;have HX:=Hh (HX0.o.trans (by rw[hcn]));have HC:=Hh hcn;have hdl:=(yL hcn).1;clear hcn;go_upto_region 22 with (go_at_call 232;refine(yM HR4.o HV4.o hrs).mono ?_;rintro ev w5 ⟨he5,hn5⟩;obtain⟨rfl,hr5⟩:=hn5.isYes HC.o;have HE5:=Hh he5;have HR5:=Hh hr5;clear he5 hn5 hr5);have HZ5:=Hh (HE5.o.kept HZ4.o (vG (by omega)) rfl).1;have H75:=Hh (HE5.o.kept H74.o (vG (by omega)) rfl).1;have q1:=ce1 H75.o;have g1:w5.frozen? ⟨b7,1,none⟩=false:=qC H75.o 1;go_upto_region 23 with fail;have HR6:=Hh (show RdAt (w5.setCell ⟨b7,1,none⟩ (.string ⟨d.toArray⟩)) r s2 (n+1) from (vJ.block r (qA HR5.o) (fun h=>by injection h with h;omega)).trans HR5.o);have HE6:=Hh ((HE4.o.trans HE5.o).setCell (a:=⟨b7,1,none⟩) (fun h=>absurd h (Nat.not_lt.2 (Nat.le_of_lt hb7a))) (.string ⟨d.toArray⟩));have HZ6:=Hh ((vJ (w:=w5) (b:=b7) (j:=1) (u:=.string ⟨d.toArray⟩)).block w.heap.size (qA HZ5.o) (fun h=>by injection h with h;omega) |>.trans HZ5.o);have H76:=Hh (show (w5.setCell ⟨b7,1,none⟩ (.string ⟨d.toArray⟩)).heap[b7]?=some (.cells #[.string ⟨#[102,105,108,101]⟩,.string ⟨d.toArray⟩,.bool false,.slice none 0 0] 134 (0,0)) from qH H75.o 1 (.string ⟨d.toArray⟩));clear q1 g1;generalize w5.setCell ⟨b7,1,none⟩ (.string ⟨d.toArray⟩)=w6 at *;obtain⟨z0,z1,z2,z3⟩:=cq HZ6.o;have f0:w6.frozen? ⟨w.heap.size,0,none⟩=false:=qC HZ6.o 0;have f1:w6.frozen? ⟨w.heap.size,1,none⟩=false:=qC HZ6.o 1;have f2:w6.frozen? ⟨w.heap.size,2,none⟩=false:=qC HZ6.o 2;have f3:w6.frozen? ⟨w.heap.size,3,none⟩=false:=qC HZ6.o 3;obtain⟨y0,y1,y2,y3⟩:=cq H76.o;go_wp2_with fail;obtain⟨w9,E9,HF,HEF⟩:=mS HZ6.o HE6.o (fun h=>absurd h (zr w.heap.size)) (.string ⟨#[102,105,108,101]⟩) (.string ⟨d.toArray⟩) (.bool false) (.slice none 0 0);clear z0 z1 z2 z3 f0 f1 f2 f3 y0 y1 y2 y3;have HPO:=Hh (show RdAt w9 r s2 (n+1) from by rw[← E9.o];exact dE HR6.o (by omega));rw[E9.o];obtain⟨r0,r1,r2,r3⟩:=cq HF.o;refine zH1 (v:=.tuple #[.agg #[.string ⟨#[102,105,108,101]⟩,.string ⟨d.toArray⟩,.bool false,.slice none 0 0],.nilIface]) ?_ rfl ⟨HEF.o,?_⟩
    ·simp[results,Tryz.results170,go_sem,r0,r1,r2,r3]
    ·rw[HX.o];exact⟨_,_,_,_,_,_,_,rfl,rfl,HPO.o,qC3 (k:=kFile) (by decide) (by omega)⟩
  by_cases hc120:c=120
  ·have e120:((cb.toNat:Nat):Int)=120:=by rw[HCB.o,hc120];rfl
   have hn100:¬ ((cb.toNat:Nat):Int)=100:=by rw[HCB.o,hc120];decide
   have hn108:¬ ((cb.toNat:Nat):Int)=108:=by rw[HCB.o,hc120];decide
   have hn102:¬ ((cb.toNat:Nat):Int)=102:=by rw[HCB.o,hc120];decide
   have HX0:=Hh (show jM (f+1) (c::rs) n=match qP rs with | none=>.error 1 | some (d,s2)=>.ok (.mk kFile d true [],s2,n+1) by
    rw[qA8 H200.o hc100 (by simp[hc120])]
    subst hc120
    rfl)
   go_upto_region 19 with fail;have hb3:=(zB w2.heap.size w2).alloc (zo _) (.cells #[.string ⟨#[102,105,108,101]⟩,.string ⟨#[]⟩,.bool true,.slice none 0 0] 134);have HR3:=Hh (HR2.o.later hb3);have HE3:=Hh (HE2.o.trans (jY hb3));have HV3:=Hh (HV2.o.below hb3);have HZ3:=Hh ((hb3.block _ (qA HZ2.o)).trans HZ2.o);have H73:=Hh (show (w2.alloc (.cells #[.string ⟨#[102,105,108,101]⟩,.string ⟨#[]⟩,.bool true,.slice none 0 0] 134)).heap[w2.heap.size]?=some (.cells #[.string ⟨#[102,105,108,101]⟩,.string ⟨#[]⟩,.bool true,.slice none 0 0] 134 (0,0)) from zK1 w2 _);have HS3:=Hh (show (w2.alloc (.cells #[.string ⟨#[102,105,108,101]⟩,.string ⟨#[]⟩,.bool true,.slice none 0 0] 134)).heap.size=w.heap.size+2 by have:=HS2.o;simp;omega);clear hb3;generalize w2.alloc (.cells #[.string ⟨#[102,105,108,101]⟩,.string ⟨#[]⟩,.bool true,.slice none 0 0] 134)=w3 at *;have hb7a:w.heap.size<w2.heap.size:=by have:=HS2.o;omega
   generalize hb7:w2.heap.size=b7 at *;clear hb7;have HR4:=HR3;have HE4:=HE3;have HZ4:=HZ3;have H74:=H73;have HV4:=HV3;obtain⟨w4,hw4⟩:∃ w4,w4=w3:=⟨_,rfl⟩;rw[← hw4] at HR4 HE4 HZ4 H74 HV4;rw[← hw4];clear hw4
   cases hcn:qP rs with
   | none =>
    have HX:=Hh (HX0.o.trans (by rw[hcn]));have HC:=Hh hcn;clear hcn;go_upto_region 21 with (go_at_call 232;refine(yM HR4.o HV4.o hrs).mono ?_;rintro ev w5 ⟨he5,hn5⟩;obtain rfl:=hn5.isNo HC.o;have HE5:=Hh he5;clear he5 hn5);have HZ5:=Hh (HE5.o.kept HZ4.o (vG (by omega)) rfl).1;have HE5':=Hh (HE4.o.trans HE5.o);have HV5:=Hh (HV4.o.ext HE5.o);obtain⟨z0,z1,z2,z3⟩:=cq HZ5.o;have f0:w5.frozen? ⟨w.heap.size,0,none⟩=false:=qC HZ5.o 0;have f1:w5.frozen? ⟨w.heap.size,1,none⟩=false:=qC HZ5.o 1;have f2:w5.frozen? ⟨w.heap.size,2,none⟩=false:=qC HZ5.o 2;have f3:w5.frozen? ⟨w.heap.size,3,none⟩=false:=qC HZ5.o 3;have hg:w5.cell? ⟨1,0,none⟩=some (.iface 376 (.pointer (some (p 1)))):=HV5.o.errs.cell 1 (by decide) (by decide);have hgne:w.heap.size≠1:=by
     have h0:=lt_of_cell (HEW.o.errs.cell 1 (by decide) (by decide));simp[wA] at h0;omega
    have hgne':1≠w.heap.size:=hgne.symm
    go_region
    obtain⟨w9,E9,HF,HEF⟩:=wM HZ5.o HE5'.o (fun h=>absurd h (zr w.heap.size)) (.string ⟨#[]⟩) (.string ⟨#[]⟩) (.bool false) (.slice none 0 0);clear z0 z1 z2 z3 f0 f1 f2 f3 hg hgne hgne';go_wp2_with fail;rw[E9.o];obtain⟨r0,r1,r2,r3⟩:=cq HF.o;refine zH1 (v:=.tuple #[.agg #[.string ⟨#[]⟩,.string ⟨#[]⟩,.bool false,.slice none 0 0],.iface 376 (.pointer (some (p 1)))]) ?_ rfl ⟨HEF.o,?_⟩
    ·simp[results,Tryz.results170,go_sem,r0,r1,r2,r3]
    ·rw[HX.o];exact⟨_,_,_,_,_,_,_,rfl,(qD p (by decide)).symm,by decide⟩
   | some q =>
    obtain⟨d,s2⟩:=q;have HX:=Hh (HX0.o.trans (by rw[hcn]));have HC:=Hh hcn;have hdl:=(yL hcn).1;clear hcn;go_upto_region 22 with (go_at_call 232;refine(yM HR4.o HV4.o hrs).mono ?_;rintro ev w5 ⟨he5,hn5⟩;obtain⟨rfl,hr5⟩:=hn5.isYes HC.o;have HE5:=Hh he5;have HR5:=Hh hr5;clear he5 hn5 hr5);have HZ5:=Hh (HE5.o.kept HZ4.o (vG (by omega)) rfl).1;have H75:=Hh (HE5.o.kept H74.o (vG (by omega)) rfl).1;have q1:=ce1 H75.o;have g1:w5.frozen? ⟨b7,1,none⟩=false:=qC H75.o 1;go_upto_region 23 with fail;have HR6:=Hh (show RdAt (w5.setCell ⟨b7,1,none⟩ (.string ⟨d.toArray⟩)) r s2 (n+1) from (vJ.block r (qA HR5.o) (fun h=>by injection h with h;omega)).trans HR5.o);have HE6:=Hh ((HE4.o.trans HE5.o).setCell (a:=⟨b7,1,none⟩) (fun h=>absurd h (Nat.not_lt.2 (Nat.le_of_lt hb7a))) (.string ⟨d.toArray⟩));have HZ6:=Hh ((vJ (w:=w5) (b:=b7) (j:=1) (u:=.string ⟨d.toArray⟩)).block w.heap.size (qA HZ5.o) (fun h=>by injection h with h;omega) |>.trans HZ5.o);have H76:=Hh (show (w5.setCell ⟨b7,1,none⟩ (.string ⟨d.toArray⟩)).heap[b7]?=some (.cells #[.string ⟨#[102,105,108,101]⟩,.string ⟨d.toArray⟩,.bool true,.slice none 0 0] 134 (0,0)) from qH H75.o 1 (.string ⟨d.toArray⟩));clear q1 g1;generalize w5.setCell ⟨b7,1,none⟩ (.string ⟨d.toArray⟩)=w6 at *;obtain⟨z0,z1,z2,z3⟩:=cq HZ6.o;have f0:w6.frozen? ⟨w.heap.size,0,none⟩=false:=qC HZ6.o 0;have f1:w6.frozen? ⟨w.heap.size,1,none⟩=false:=qC HZ6.o 1;have f2:w6.frozen? ⟨w.heap.size,2,none⟩=false:=qC HZ6.o 2;have f3:w6.frozen? ⟨w.heap.size,3,none⟩=false:=qC HZ6.o 3;obtain⟨y0,y1,y2,y3⟩:=cq H76.o;go_wp2_with fail;obtain⟨w9,E9,HF,HEF⟩:=mS HZ6.o HE6.o (fun h=>absurd h (zr w.heap.size)) (.string ⟨#[102,105,108,101]⟩) (.string ⟨d.toArray⟩) (.bool true) (.slice none 0 0);clear z0 z1 z2 z3 f0 f1 f2 f3 y0 y1 y2 y3;have HPO:=Hh (show RdAt w9 r s2 (n+1) from by rw[← E9.o];exact dE HR6.o (by omega));rw[E9.o];obtain⟨r0,r1,r2,r3⟩:=cq HF.o;refine zH1 (v:=.tuple #[.agg #[.string ⟨#[102,105,108,101]⟩,.string ⟨d.toArray⟩,.bool true,.slice none 0 0],.nilIface]) ?_ rfl ⟨HEF.o,?_⟩
    ·simp[results,Tryz.results170,go_sem,r0,r1,r2,r3]
    ·rw[HX.o];exact⟨_,_,_,_,_,_,_,rfl,rfl,HPO.o,qC3 (k:=kFile) (by decide) (by omega)⟩
  have HX:=Hh (show jM (f+1) (c::rs) n=.error 1 from qEP H200.o hc100 (by rintro (h | h | h);exact hc108 h;exact hc102 h;exact hc120 h));have hn100:¬ ((cb.toNat:Nat):Int)=100:=fun h=>hc100 (by rw[← HCB.o];exact dJ h rfl)
  have hn108:¬ ((cb.toNat:Nat):Int)=108:=fun h=>hc108 (by rw[← HCB.o];exact dJ h rfl)
  have hn102:¬ ((cb.toNat:Nat):Int)=102:=fun h=>hc102 (by rw[← HCB.o];exact dJ h rfl)
  have hn120:¬ ((cb.toNat:Nat):Int)=120:=fun h=>hc120 (by rw[← HCB.o];exact dJ h rfl)
  go_upto_region 12 with fail;have hbf:((((cb.toNat:Nat):Int))==120)=false:=by simpa using hn120
  rw[hbf];clear hbf;have hb3:=(zB w2.heap.size w2).alloc (zo _) (.cells #[.string ⟨#[102,105,108,101]⟩,.string ⟨#[]⟩,.bool false,.slice none 0 0] 134);have HR3:=Hh (HR2.o.later hb3);have HE3:=Hh (HE2.o.trans (jY hb3));have HV3:=Hh (HV2.o.below hb3);have HZ3:=Hh ((hb3.block _ (qA HZ2.o)).trans HZ2.o);have H73:=Hh (show (w2.alloc (.cells #[.string ⟨#[102,105,108,101]⟩,.string ⟨#[]⟩,.bool false,.slice none 0 0] 134)).heap[w2.heap.size]?=some (.cells #[.string ⟨#[102,105,108,101]⟩,.string ⟨#[]⟩,.bool false,.slice none 0 0] 134 (0,0)) from zK1 w2 _);have HS3:=Hh (show (w2.alloc (.cells #[.string ⟨#[102,105,108,101]⟩,.string ⟨#[]⟩,.bool false,.slice none 0 0] 134)).heap.size=w.heap.size+2 by have:=HS2.o;simp;omega);clear hb3;generalize w2.alloc (.cells #[.string ⟨#[102,105,108,101]⟩,.string ⟨#[]⟩,.bool false,.slice none 0 0] 134)=w3 at *;obtain⟨z0,z1,z2,z3⟩:=cq HZ3.o;have f0:w3.frozen? ⟨w.heap.size,0,none⟩=false:=qC HZ3.o 0;have f1:w3.frozen? ⟨w.heap.size,1,none⟩=false:=qC HZ3.o 1;have f2:w3.frozen? ⟨w.heap.size,2,none⟩=false:=qC HZ3.o 2;have f3:w3.frozen? ⟨w.heap.size,3,none⟩=false:=qC HZ3.o 3;have hg:w3.cell? ⟨1,0,none⟩=some (.iface 376 (.pointer (some (p 1)))):=HV3.o.errs.cell 1 (by decide) (by decide);have hgne:w.heap.size≠1:=by
   have h0:=lt_of_cell (HEW.o.errs.cell 1 (by decide) (by decide));simp[wA] at h0;omega
  have hgne':1≠w.heap.size:=hgne.symm
  go_region
  obtain⟨w9,E9,HF,HEF⟩:=wM HZ3.o HE3.o (fun h=>absurd h (zr w.heap.size)) (.string ⟨#[]⟩) (.string ⟨#[]⟩) (.bool false) (.slice none 0 0);clear z0 z1 z2 z3 f0 f1 f2 f3 hg hgne hgne';go_wp2_with fail;rw[E9.o];obtain⟨r0,r1,r2,r3⟩:=cq HF.o;refine zH1 (v:=.tuple #[.agg #[.string ⟨#[]⟩,.string ⟨#[]⟩,.bool false,.slice none 0 0],.iface 376 (.pointer (some (p 1)))]) ?_ rfl ⟨HEF.o,?_⟩
  ·simp[results,Tryz.results170,go_sem,r0,r1,r2,r3]
  ·rw[HX.o];exact⟨_,_,_,_,_,_,_,rfl,(qD p (by decide)).symm,by decide⟩
theorem qG9:∀ f,dS p f
 | 0=>qJn
 | f+1=>qKo (qG9 f)
end
end Go.Proofs.YtbmkaekimccdgaaGreatDoor
