/- Texts of this claim, merged: ReadNode. -/
import Derived.Test.YtceklhjomhjipaaGreatDoorKm39
set_option maxHeartbeats 16000000
set_option maxRecDepth 1000000
set_option linter.all false
namespace Go.Proofs.YtceklhjomhjipaaGreatDoor
open Go.RowKit Go.Sort Go.Shelf Stl
theorem qLJ {f n:Nat} {c:UInt8} {rs:List UInt8} (hn:¬ 200<n+1) (hc:c=100):qAL (f+1) (c::rs) n=qCo f rs (n+1):=by
 subst hc
 unfold qAL qCo
 rw [zL1 hn]
 simp only [if_true]
 cases qAW rs with
 | none=>rfl
 | some q =>
  obtain ⟨k,r1⟩:=q
  simp only
  cases qA9 (qAL f) k r1 (n+1) with
  | error e=>rfl
  | ok q=>rfl
theorem qDU {f n:Nat} {c:UInt8} {rs:List UInt8} (hn:¬ 200<n+1) (hc:c≠100) (h3:c=108∨c=102∨c=120):qAL (f+1) (c::rs) n=match qAl rs with | none=>.error 1 | some (d,s2)=>.ok (.mk (if c=108 then kLink else kFile) d (c=120) [],s2,n+1):=by
 unfold qAL
 rw [zL1 hn]
 simp only [zL1 hc,zM1 h3]
 cases qAl rs with
 | none=>rfl
 | some q=>rfl
theorem qJf {f n:Nat} {c:UInt8} {rs:List UInt8} (hn:¬ 200<n+1) (hc:c≠100) (h3:¬ (c=108∨c=102∨c=120)):qAL (f+1) (c::rs) n=.error 1:=by
 unfold qAL
 rw [zL1 hn]
 simp only [zL1 hc,zL1 h3]
theorem qFU {P:Nat→Prop} {w:World} {k d:List UInt8} {e:Bool} (hk:k.length≤140737488355328) (hd:d.length≤140737488355328):NodeP P w (.mk k d e []) [.string ⟨k.toArray⟩,.string ⟨d.toArray⟩,.bool e,.slice none 0 0]:=by
 unfold NodeP
 exact ⟨none,0,rfl,⟨zq _,zx _,hk,hd⟩,fun h=>absurd rfl h⟩
theorem qHq {w:World} {r x n:Nat} {s:List UInt8} {u0 u1 u2 u3:Value} (h:RdAt w r s n) (hx:r≠x):RdAt ((((w.setCell ⟨x,0,none⟩ u0).setCell ⟨x,1,none⟩ u1).setCell ⟨x,2,none⟩ u2).setCell ⟨x,3,none⟩ u3) r s n:=by
 unfold RdAt at h ⊢
 rw [zA _ ⟨x,3,none⟩ _ r hx,zA _ ⟨x,2,none⟩ _ r hx,zA _ ⟨x,1,none⟩ _ r hx,zA _ ⟨x,0,none⟩ _ r hx]
 exact h
theorem qHl {a b:UInt8} {v:Int} (h:((a.toNat:Nat):Int)=v) (hb:((b.toNat:Nat):Int)=v):a=b:=UInt8.toNat_inj.1 (by omega)
section
variable {p:Nat→Addr}
theorem qM7:qJi p 0:=by
 intro deep hd r s n w hr hE hs hn
 obtain rfl:deep=9:=by omega
 have HX:=Hh (show qAL 0 s n=.error 9 from rfl)
 have hrl:r<w.heap.size:=qAa hr
 have HEW:=Hh hE
 have c1:=ce1 hr
 have f1:w.frozen? ⟨r,1,none⟩=false:=qAb hr 1
 have hba:Below (w.setCell ⟨r,1,none⟩ (.int .i64 ((n:Int)+1))).heap.size (w.setCell ⟨r,1,none⟩ (.int .i64 ((n:Int)+1))) ((w.setCell ⟨r,1,none⟩ (.int .i64 ((n:Int)+1))).alloc (.cells #[.string ⟨#[]⟩,.string ⟨#[]⟩,.bool false,.slice none 0 0] 114)):=(zB _ _).alloc (zq _) _
 have hza:(w.setCell ⟨r,1,none⟩ (.int .i64 ((n:Int)+1))).heap.size=w.heap.size:=by simp [World.setCell]
 have HZ1:=Hh (show ((w.setCell ⟨r,1,none⟩ (.int .i64 ((n:Int)+1))).alloc (.cells #[.string ⟨#[]⟩,.string ⟨#[]⟩,.bool false,.slice none 0 0] 114)).heap[w.heap.size]?=some (.cells #[.string ⟨#[]⟩,.string ⟨#[]⟩,.bool false,.slice none 0 0] 114 (0,0)) from by
  have:=zK1 (w.setCell ⟨r,1,none⟩ (.int .i64 ((n:Int)+1))) (.cells #[.string ⟨#[]⟩,.string ⟨#[]⟩,.bool false,.slice none 0 0] 114)
  rw [hza] at this
  exact this)
 have hra:RdAt (w.setCell ⟨r,1,none⟩ (.int .i64 ((n:Int)+1))) r s (n+1):=by
  have:=qAd hr 1 (.int .i64 ((n:Int)+1))
  simpa [RdAt] using this
 have HR1:=Hh (hra.later hba)
 have HE1:=Hh (((Ext.refl w (RC r) (S1 .tape)).setCell (a:=⟨r,1,none⟩) (fun _=>by rw [qNZ];rfl) (.int .i64 ((n:Int)+1))).trans (qAK hba))
 have HV1:=Hh (hE.ext HE1.out)
 have hsz1:((w.setCell ⟨r,1,none⟩ (.int .i64 ((n:Int)+1))).alloc (.cells #[.string ⟨#[]⟩,.string ⟨#[]⟩,.bool false,.slice none 0 0] 114)).heap.size=w.heap.size+1:=by simp [World.setCell]
 clear hr hE hba hra hza
 go_enter Tryz.func124,Tryz.ntmps124
 go_upto_region 2 with fail
 generalize (w.setCell ⟨r,1,none⟩ (.int .i64 ((n:Int)+1))).alloc (.cells #[.string ⟨#[]⟩,.string ⟨#[]⟩,.bool false,.slice none 0 0] 114)=w1 at *
 clear c1 f1
 go_upto_region 3 with fail
 have z0:=ce0 HZ1.out
 have z1:=ce1 HZ1.out
 have z2:=ce2 HZ1.out
 have z3:=ce3 HZ1.out
 have f0:w1.frozen? ⟨w.heap.size,0,none⟩=false:=qAb HZ1.out 0
 have f1:w1.frozen? ⟨w.heap.size,1,none⟩=false:=qAb HZ1.out 1
 have f2:w1.frozen? ⟨w.heap.size,2,none⟩=false:=qAb HZ1.out 2
 have f3:w1.frozen? ⟨w.heap.size,3,none⟩=false:=qAb HZ1.out 3
 have hg:w1.cell? ⟨11,0,none⟩=some (.iface 377 (.pointer (some (p 9)))):=HV1.out.errs.cell 9 (by decide) (by decide)
 have hgne:w.heap.size≠11:=by
  have h0:=lt_of_cell (HEW.out.errs.cell 9 (by decide) (by decide))
  simp [qCq] at h0
  omega
 have hgne':11≠w.heap.size:=hgne.symm
 go_region
 have HF:=Hh (show ((((w1.setCell ⟨w.heap.size,0,none⟩ (.string ⟨#[]⟩)).setCell ⟨w.heap.size,1,none⟩ (.string ⟨#[]⟩)).setCell ⟨w.heap.size,2,none⟩ (.bool false)).setCell ⟨w.heap.size,3,none⟩ (.slice none 0 0)).drew.heap[w.heap.size]?=some (.cells #[.string ⟨#[]⟩,.string ⟨#[]⟩,.bool false,.slice none 0 0] 114 (0,0)) from (qAd (qAd (qAd (qAd HZ1.out 0 (.string ⟨#[]⟩)) 1 (.string ⟨#[]⟩)) 2 (.bool false)) 3 (.slice none 0 0)))
 have HEF:=Hh ((((HE1.out.setCell (a:=⟨w.heap.size,0,none⟩) (fun h=>absurd h (zt w.heap.size)) (.string ⟨#[]⟩)).setCell (a:=⟨w.heap.size,1,none⟩) (fun h=>absurd h (zt w.heap.size)) (.string ⟨#[]⟩)).setCell (a:=⟨w.heap.size,2,none⟩) (fun h=>absurd h (zt w.heap.size)) (.bool false)).setCell (a:=⟨w.heap.size,3,none⟩) (fun h=>absurd h (zt w.heap.size)) (.slice none 0 0)).drew
 clear z0 z1 z2 z3 f0 f1 f2 f3 hg hgne hgne'
 go_wp2_with fail
 generalize ((((w1.setCell ⟨w.heap.size,0,none⟩ (.string ⟨#[]⟩)).setCell ⟨w.heap.size,1,none⟩ (.string ⟨#[]⟩)).setCell ⟨w.heap.size,2,none⟩ (.bool false)).setCell ⟨w.heap.size,3,none⟩ (.slice none 0 0)).drew=w9 at *
 have r0:=ce0 HF.out
 have r1:=ce1 HF.out
 have r2:=ce2 HF.out
 have r3:=ce3 HF.out
 refine zH1 (v:=.tuple #[.agg #[.string ⟨#[]⟩,.string ⟨#[]⟩,.bool false,.slice none 0 0],.iface 377 (.pointer (some (p 9)))]) ?_ rfl ⟨HEF.out,?_⟩
 ·simp [results,Tryz.results124,go_sem,r0,r1,r2,r3]
 ·rw [HX.out]
  exact ⟨_,_,_,_,_,_,_,rfl,(qAc p (by decide)).symm,by decide⟩
theorem qNf {f:Nat} (IH:qJi p f):qJi p (f+1):=by
 intro deep hd r s n w hr hE hs hn
 have HIH:=Hh IH
 have HHN:=Hh hn
 have i8:¬ (8:Int)<(deep:Int):=by omega
 clear IH
 have hrl:r<w.heap.size:=qAa hr
 have HEW:=Hh hE
 have c1:=ce1 hr
 have f1:w.frozen? ⟨r,1,none⟩=false:=qAb hr 1
 have hba:Below (w.setCell ⟨r,1,none⟩ (.int .i64 ((n:Int)+1))).heap.size (w.setCell ⟨r,1,none⟩ (.int .i64 ((n:Int)+1))) ((w.setCell ⟨r,1,none⟩ (.int .i64 ((n:Int)+1))).alloc (.cells #[.string ⟨#[]⟩,.string ⟨#[]⟩,.bool false,.slice none 0 0] 114)):=(zB _ _).alloc (zq _) _
 have hza:(w.setCell ⟨r,1,none⟩ (.int .i64 ((n:Int)+1))).heap.size=w.heap.size:=by simp [World.setCell]
 have HZ1:=Hh (show ((w.setCell ⟨r,1,none⟩ (.int .i64 ((n:Int)+1))).alloc (.cells #[.string ⟨#[]⟩,.string ⟨#[]⟩,.bool false,.slice none 0 0] 114)).heap[w.heap.size]?=some (.cells #[.string ⟨#[]⟩,.string ⟨#[]⟩,.bool false,.slice none 0 0] 114 (0,0)) from by
  have:=zK1 (w.setCell ⟨r,1,none⟩ (.int .i64 ((n:Int)+1))) (.cells #[.string ⟨#[]⟩,.string ⟨#[]⟩,.bool false,.slice none 0 0] 114)
  rw [hza] at this
  exact this)
 have hra:RdAt (w.setCell ⟨r,1,none⟩ (.int .i64 ((n:Int)+1))) r s (n+1):=by
  have:=qAd hr 1 (.int .i64 ((n:Int)+1))
  simpa [RdAt] using this
 have HR1:=Hh (hra.later hba)
 have HE1:=Hh (((Ext.refl w (RC r) (S1 .tape)).setCell (a:=⟨r,1,none⟩) (fun _=>by rw [qNZ];rfl) (.int .i64 ((n:Int)+1))).trans (qAK hba))
 have HV1:=Hh (hE.ext HE1.out)
 have hsz1:((w.setCell ⟨r,1,none⟩ (.int .i64 ((n:Int)+1))).alloc (.cells #[.string ⟨#[]⟩,.string ⟨#[]⟩,.bool false,.slice none 0 0] 114)).heap.size=w.heap.size+1:=by simp [World.setCell]
 clear hr hE hba hra hza
 go_enter Tryz.func124,Tryz.ntmps124
 go_upto_region 2 with fail
 generalize (w.setCell ⟨r,1,none⟩ (.int .i64 ((n:Int)+1))).alloc (.cells #[.string ⟨#[]⟩,.string ⟨#[]⟩,.bool false,.slice none 0 0] 114)=w1 at *
 clear c1 f1
 have c1:=ce1 HR1.out
 by_cases h200:200<n+1
 ·have HX:=Hh (show qAL (f+1) s n=.error 8 by unfold qAL;rw [zM1 h200])
  have i200:(200:Int)<(n:Int)+1:=by omega
  clear h200 hn
  go_upto_region 5 with fail
  clear c1
  have z0:=ce0 HZ1.out
  have z1:=ce1 HZ1.out
  have z2:=ce2 HZ1.out
  have z3:=ce3 HZ1.out
  have f0:w1.frozen? ⟨w.heap.size,0,none⟩=false:=qAb HZ1.out 0
  have f1:w1.frozen? ⟨w.heap.size,1,none⟩=false:=qAb HZ1.out 1
  have f2:w1.frozen? ⟨w.heap.size,2,none⟩=false:=qAb HZ1.out 2
  have f3:w1.frozen? ⟨w.heap.size,3,none⟩=false:=qAb HZ1.out 3
  have hg:w1.cell? ⟨4,0,none⟩=some (.iface 377 (.pointer (some (p 8)))):=HV1.out.errs.cell 8 (by decide) (by decide)
  have hgne:w.heap.size≠4:=by
   have h0:=lt_of_cell (HEW.out.errs.cell 8 (by decide) (by decide))
   simp [qCq] at h0
   omega
  have hgne':4≠w.heap.size:=hgne.symm
  go_region
  have HF:=Hh (show ((((w1.setCell ⟨w.heap.size,0,none⟩ (.string ⟨#[]⟩)).setCell ⟨w.heap.size,1,none⟩ (.string ⟨#[]⟩)).setCell ⟨w.heap.size,2,none⟩ (.bool false)).setCell ⟨w.heap.size,3,none⟩ (.slice none 0 0)).drew.heap[w.heap.size]?=some (.cells #[.string ⟨#[]⟩,.string ⟨#[]⟩,.bool false,.slice none 0 0] 114 (0,0)) from (qAd (qAd (qAd (qAd HZ1.out 0 (.string ⟨#[]⟩)) 1 (.string ⟨#[]⟩)) 2 (.bool false)) 3 (.slice none 0 0)))
  have HEF:=Hh ((((HE1.out.setCell (a:=⟨w.heap.size,0,none⟩) (fun h=>absurd h (zt w.heap.size)) (.string ⟨#[]⟩)).setCell (a:=⟨w.heap.size,1,none⟩) (fun h=>absurd h (zt w.heap.size)) (.string ⟨#[]⟩)).setCell (a:=⟨w.heap.size,2,none⟩) (fun h=>absurd h (zt w.heap.size)) (.bool false)).setCell (a:=⟨w.heap.size,3,none⟩) (fun h=>absurd h (zt w.heap.size)) (.slice none 0 0)).drew
  clear z0 z1 z2 z3 f0 f1 f2 f3 hg hgne hgne'
  go_wp2_with fail
  generalize ((((w1.setCell ⟨w.heap.size,0,none⟩ (.string ⟨#[]⟩)).setCell ⟨w.heap.size,1,none⟩ (.string ⟨#[]⟩)).setCell ⟨w.heap.size,2,none⟩ (.bool false)).setCell ⟨w.heap.size,3,none⟩ (.slice none 0 0)).drew=w9 at *
  have r0:=ce0 HF.out
  have r1:=ce1 HF.out
  have r2:=ce2 HF.out
  have r3:=ce3 HF.out
  refine zH1 (v:=.tuple #[.agg #[.string ⟨#[]⟩,.string ⟨#[]⟩,.bool false,.slice none 0 0],.iface 377 (.pointer (some (p 8)))]) ?_ rfl ⟨HEF.out,?_⟩
  ·simp [results,Tryz.results124,go_sem,r0,r1,r2,r3]
  ·rw [HX.out]
   exact ⟨_,_,_,_,_,_,_,rfl,(qAc p (by decide)).symm,by decide⟩
 have i200:¬ (200:Int)<(n:Int)+1:=by omega
 have H200:=Hh h200
 clear h200 hn
 cases s with
 | nil =>
  have HX:=Hh (show qAL (f+1) [] n=.error 1 by unfold qAL;rw [zL1 H200.out])
  have c0:=ce0 HR1.out
  go_upto_region 7 with fail
  clear c1 c0
  have z0:=ce0 HZ1.out
  have z1:=ce1 HZ1.out
  have z2:=ce2 HZ1.out
  have z3:=ce3 HZ1.out
  have f0:w1.frozen? ⟨w.heap.size,0,none⟩=false:=qAb HZ1.out 0
  have f1:w1.frozen? ⟨w.heap.size,1,none⟩=false:=qAb HZ1.out 1
  have f2:w1.frozen? ⟨w.heap.size,2,none⟩=false:=qAb HZ1.out 2
  have f3:w1.frozen? ⟨w.heap.size,3,none⟩=false:=qAb HZ1.out 3
  have hg:w1.cell? ⟨3,0,none⟩=some (.iface 377 (.pointer (some (p 1)))):=HV1.out.errs.cell 1 (by decide) (by decide)
  have hgne:w.heap.size≠3:=by
   have h0:=lt_of_cell (HEW.out.errs.cell 1 (by decide) (by decide))
   simp [qCq] at h0
   omega
  have hgne':3≠w.heap.size:=hgne.symm
  go_region
  have HF:=Hh (show ((((w1.setCell ⟨w.heap.size,0,none⟩ (.string ⟨#[]⟩)).setCell ⟨w.heap.size,1,none⟩ (.string ⟨#[]⟩)).setCell ⟨w.heap.size,2,none⟩ (.bool false)).setCell ⟨w.heap.size,3,none⟩ (.slice none 0 0)).drew.heap[w.heap.size]?=some (.cells #[.string ⟨#[]⟩,.string ⟨#[]⟩,.bool false,.slice none 0 0] 114 (0,0)) from (qAd (qAd (qAd (qAd HZ1.out 0 (.string ⟨#[]⟩)) 1 (.string ⟨#[]⟩)) 2 (.bool false)) 3 (.slice none 0 0)))
  have HEF:=Hh ((((HE1.out.setCell (a:=⟨w.heap.size,0,none⟩) (fun h=>absurd h (zt w.heap.size)) (.string ⟨#[]⟩)).setCell (a:=⟨w.heap.size,1,none⟩) (fun h=>absurd h (zt w.heap.size)) (.string ⟨#[]⟩)).setCell (a:=⟨w.heap.size,2,none⟩) (fun h=>absurd h (zt w.heap.size)) (.bool false)).setCell (a:=⟨w.heap.size,3,none⟩) (fun h=>absurd h (zt w.heap.size)) (.slice none 0 0)).drew
  clear z0 z1 z2 z3 f0 f1 f2 f3 hg hgne hgne'
  go_wp2_with fail
  generalize ((((w1.setCell ⟨w.heap.size,0,none⟩ (.string ⟨#[]⟩)).setCell ⟨w.heap.size,1,none⟩ (.string ⟨#[]⟩)).setCell ⟨w.heap.size,2,none⟩ (.bool false)).setCell ⟨w.heap.size,3,none⟩ (.slice none 0 0)).drew=w9 at *
  have r0:=ce0 HF.out
  have r1:=ce1 HF.out
  have r2:=ce2 HF.out
  have r3:=ce3 HF.out
  refine zH1 (v:=.tuple #[.agg #[.string ⟨#[]⟩,.string ⟨#[]⟩,.bool false,.slice none 0 0],.iface 377 (.pointer (some (p 1)))]) ?_ rfl ⟨HEF.out,?_⟩
  ·simp [results,Tryz.results124,go_sem,r0,r1,r2,r3]
  ·rw [HX.out]
   exact ⟨_,_,_,_,_,_,_,rfl,(qAc p (by decide)).symm,by decide⟩
 | cons c rs =>
  obtain ⟨s0,hs0⟩:∃ s0,s0=c::rs:=⟨_,rfl⟩
  have hrs:rs.length≤20000:=by simp at hs;omega
  rw [← hs0] at HR1 hs
  have c0:=ce0 HR1.out
  have f0:w1.frozen? ⟨r,0,none⟩=false:=qAb HR1.out 0
  have hne:(s0==[])=false:=by rw [hs0];rfl
  have hpf:0<(ByteArray.mk s0.toArray).size:=by rw [hs0];simp [ByteArray.size]
  have hl1:(1:Int)≤(s0.length:Int):=by rw [hs0];simp;omega
  have hl0:(0:Int)<(s0.length:Int):=by omega
  have hx1:(⟨s0.toArray⟩:ByteArray).extract 1 s0.length=⟨rs.toArray⟩:=by
   rw [extract_drop,hs0]
   rfl
  have hcb:(ByteArray.mk s0.toArray)[0]'hpf=c:=by
   subst hs0
   rfl
  have HCB:=Hh hcb
  have HS0:=Hh hs0
  clear hs0
  have HSZ:=Hh hsz1
  clear hcb hsz1
  go_upto_region 10 with fail
  generalize (ByteArray.mk s0.toArray)[0]'hpf=cb at *
  have HR2:=Hh (show RdAt (w1.setCell ⟨r,0,none⟩ (.string ⟨rs.toArray⟩)) r rs (n+1) from by
   have:=qAd HR1.out 0 (.string ⟨rs.toArray⟩)
   simpa [RdAt] using this)
  have HE2:=Hh (HE1.out.setCell (a:=⟨r,0,none⟩) (fun _=>by rw [qNZ];rfl) (.string ⟨rs.toArray⟩))
  have HZ2:=Hh ((qAV (w:=w1) (b:=r) (j:=0) (u:=.string ⟨rs.toArray⟩)).block w.heap.size (by have:=HSZ.out;omega) (fun h=>by injection h with h;omega) |>.trans HZ1.out)
  have HS2:=Hh (show (w1.setCell ⟨r,0,none⟩ (.string ⟨rs.toArray⟩)).heap.size=w.heap.size+1 by rw [← HSZ.out];simp [World.setCell])
  clear c0 f0 c1 hne hpf hl1 hl0 hx1
  generalize w1.setCell ⟨r,0,none⟩ (.string ⟨rs.toArray⟩)=w2 at *
  have HV2:=Hh (HEW.out.ext HE2.out)
  by_cases hc100:c=100
  ·have HX:=Hh (show qAL (f+1) (c::rs) n=qCo f rs (n+1) from qLJ H200.out hc100)
   have hn120:¬ ((cb.toNat:Nat):Int)=120:=by rw [HCB.out,hc100];decide
   have e100:((cb.toNat:Nat):Int)=100:=by rw [HCB.out,hc100];rfl
   go_upto_region 14 with fail
   have hb3:=(zB w2.heap.size w2).alloc (zq _) (.cells #[.string ⟨#[102,105,108,101]⟩,.string ⟨#[]⟩,.bool false,.slice none 0 0] 114)
   have HR3:=Hh (HR2.out.later hb3)
   have HE3:=Hh (HE2.out.trans (qAK hb3))
   have HV3:=Hh (HV2.out.below hb3)
   have HZ3:=Hh ((hb3.block _ (qAa HZ2.out)).trans HZ2.out)
   have H73:=Hh (show (w2.alloc (.cells #[.string ⟨#[102,105,108,101]⟩,.string ⟨#[]⟩,.bool false,.slice none 0 0] 114)).heap[w2.heap.size]?=some (.cells #[.string ⟨#[102,105,108,101]⟩,.string ⟨#[]⟩,.bool false,.slice none 0 0] 114 (0,0)) from zK1 w2 _)
   have HS3:=Hh (show (w2.alloc (.cells #[.string ⟨#[102,105,108,101]⟩,.string ⟨#[]⟩,.bool false,.slice none 0 0] 114)).heap.size=w.heap.size+2 by have:=HS2.out;simp;omega)
   clear hb3
   generalize w2.alloc (.cells #[.string ⟨#[102,105,108,101]⟩,.string ⟨#[]⟩,.bool false,.slice none 0 0] 114)=w3 at *
   have HDR:=Hh (qP9 HIH.out deep (by omega) r rs (n+1) w3 HR3.out HV3.out hrs (by have:=H200.out;omega))
   go_wp2_with (go_at_call 185;refine HDR.out.mono ?_;rintro ev w4 ⟨he4,a0,a1,a2,A5,m5,cp5,er,rfl,hm⟩;have HE4:=Hh he4;have HM:=Hh hm;have HZ4:=Hh (HE4.out.kept HZ3.out (qAR (by omega)) rfl).1;have z0:w4.cell? ⟨w.heap.size,0,none⟩=some (.string ⟨#[]⟩):=zJ1 w4 _ 0 _ _ _ HZ4.out;have z1:w4.cell? ⟨w.heap.size,1,none⟩=some (.string ⟨#[]⟩):=zJ1 w4 _ 1 _ _ _ HZ4.out;have z2:w4.cell? ⟨w.heap.size,2,none⟩=some (.bool false):=zJ1 w4 _ 2 _ _ _ HZ4.out;have z3:w4.cell? ⟨w.heap.size,3,none⟩=some (.slice none 0 0):=zJ1 w4 _ 3 _ _ _ HZ4.out;have f0:w4.frozen? ⟨w.heap.size,0,none⟩=false:=qAb HZ4.out 0;have f1:w4.frozen? ⟨w.heap.size,1,none⟩=false:=qAb HZ4.out 1;have f2:w4.frozen? ⟨w.heap.size,2,none⟩=false:=qAb HZ4.out 2;have f3:w4.frozen? ⟨w.heap.size,3,none⟩=false:=qAb HZ4.out 3;clear he4 hm)
   have HE4':=Hh (HE3.out.trans HE4.out)
   have HF:=Hh (show ((((w4.setCell ⟨w.heap.size,0,none⟩ (.string a0)).setCell ⟨w.heap.size,1,none⟩ (.string a1)).setCell ⟨w.heap.size,2,none⟩ (.bool a2)).setCell ⟨w.heap.size,3,none⟩ (.slice A5 m5 cp5)).heap[w.heap.size]?=some (.cells #[.string a0,.string a1,.bool a2,.slice A5 m5 cp5] 114 (0,0)) from (qAd (qAd (qAd (qAd HZ4.out 0 (.string a0)) 1 (.string a1)) 2 (.bool a2)) 3 (.slice A5 m5 cp5)))
   have HEF:=Hh ((((HE4'.out.setCell (a:=⟨w.heap.size,0,none⟩) (fun h=>absurd h (zt w.heap.size)) (.string a0)).setCell (a:=⟨w.heap.size,1,none⟩) (fun h=>absurd h (zt w.heap.size)) (.string a1)).setCell (a:=⟨w.heap.size,2,none⟩) (fun h=>absurd h (zt w.heap.size)) (.bool a2)).setCell (a:=⟨w.heap.size,3,none⟩) (fun h=>absurd h (zt w.heap.size)) (.slice A5 m5 cp5))
   clear z0 z1 z2 z3 f0 f1 f2 f3
   have HPO:=Hh (show ∀ ev,ev=.returned (.tuple #[.agg #[.string a0,.string a1,.bool a2,.slice A5 m5 cp5],er])→qNj p r w.heap.size (qCo f rs (n+1)) ev ((((w4.setCell ⟨w.heap.size,0,none⟩ (.string a0)).setCell ⟨w.heap.size,1,none⟩ (.string a1)).setCell ⟨w.heap.size,2,none⟩ (.bool a2)).setCell ⟨w.heap.size,3,none⟩ (.slice A5 m5 cp5)) from fun ev he=>by
    have hm:=HM.out
    have hs3:=HS3.out
    refine ⟨a0,a1,a2,A5,m5,cp5,er,he,?_⟩
    cases hdr:qCo f rs (n+1) with
    | error cd=>rw [hdr] at hm;exact hm
    | ok q =>
     obtain ⟨nd,s',n'⟩:=q
     rw [hdr] at hm
     obtain ⟨h1,h2,h3⟩:=hm
     exact ⟨h1,qHq h2 (by omega),NodeP.go (zq _) (fun b _ hp=>⟨rfl,by omega⟩) _ _ (NodeP.set4 (x:=w.heap.size) (u0:=.string a0) (u1:=.string a1) (u2:=.bool a2) (u3:=.slice A5 m5 cp5) h3 (fun b hb=>by omega))⟩)
   generalize ((((w4.setCell ⟨w.heap.size,0,none⟩ (.string a0)).setCell ⟨w.heap.size,1,none⟩ (.string a1)).setCell ⟨w.heap.size,2,none⟩ (.bool a2)).setCell ⟨w.heap.size,3,none⟩ (.slice A5 m5 cp5))=w9 at *
   have r0:=ce0 HF.out
   have r1:=ce1 HF.out
   have r2:=ce2 HF.out
   have r3:=ce3 HF.out
   refine zH1 (v:=.tuple #[.agg #[.string a0,.string a1,.bool a2,.slice A5 m5 cp5],er]) ?_ rfl ⟨HEF.out,?_⟩
   ·simp [results,Tryz.results124,go_sem,r0,r1,r2,r3]
   ·rw [HX.out]
    exact HPO.out _ rfl
  by_cases hc108:c=108
  ·have hn120:¬ ((cb.toNat:Nat):Int)=120:=by rw [HCB.out,hc108];decide
   have hn100:¬ ((cb.toNat:Nat):Int)=100:=by rw [HCB.out,hc108];decide
   have e108:((cb.toNat:Nat):Int)=108:=by rw [HCB.out,hc108];rfl
   have HX0:=Hh (show qAL (f+1) (c::rs) n=match qAl rs with | none=>.error 1 | some (d,s2)=>.ok (.mk kLink d false [],s2,n+1) by
    rw [qDU H200.out hc100 (by simp [hc108])]
    subst hc108
    rfl)
   go_upto_region 16 with fail
   have hb3:=(zB w2.heap.size w2).alloc (zq _) (.cells #[.string ⟨#[102,105,108,101]⟩,.string ⟨#[]⟩,.bool false,.slice none 0 0] 114)
   have HR3:=Hh (HR2.out.later hb3)
   have HE3:=Hh (HE2.out.trans (qAK hb3))
   have HV3:=Hh (HV2.out.below hb3)
   have HZ3:=Hh ((hb3.block _ (qAa HZ2.out)).trans HZ2.out)
   have H73:=Hh (show (w2.alloc (.cells #[.string ⟨#[102,105,108,101]⟩,.string ⟨#[]⟩,.bool false,.slice none 0 0] 114)).heap[w2.heap.size]?=some (.cells #[.string ⟨#[102,105,108,101]⟩,.string ⟨#[]⟩,.bool false,.slice none 0 0] 114 (0,0)) from zK1 w2 _)
   have HS3:=Hh (show (w2.alloc (.cells #[.string ⟨#[102,105,108,101]⟩,.string ⟨#[]⟩,.bool false,.slice none 0 0] 114)).heap.size=w.heap.size+2 by have:=HS2.out;simp;omega)
   clear hb3
   generalize w2.alloc (.cells #[.string ⟨#[102,105,108,101]⟩,.string ⟨#[]⟩,.bool false,.slice none 0 0] 114)=w3 at *
   have hb7a:w.heap.size<w2.heap.size:=by have:=HS2.out;omega
   generalize hb7:w2.heap.size=b7 at *
   clear hb7
   have q0:=ce0 H73.out
   have g0:w3.frozen? ⟨b7,0,none⟩=false:=qAb H73.out 0
   go_upto_region 19 with fail
   have HR4:=Hh (show RdAt (w3.setCell ⟨b7,0,none⟩ (.string ⟨#[108,105,110,107]⟩)) r rs (n+1) from (qAV.block r (qAa HR3.out) (fun h=>by injection h with h;omega)).trans HR3.out)
   have HE4:=Hh (HE3.out.setCell (a:=⟨b7,0,none⟩) (fun h=>absurd h (Nat.not_lt.2 (Nat.le_of_lt hb7a))) (.string ⟨#[108,105,110,107]⟩))
   have HZ4:=Hh ((qAV (w:=w3) (b:=b7) (j:=0) (u:=.string ⟨#[108,105,110,107]⟩)).block w.heap.size (qAa HZ3.out) (fun h=>by injection h with h;omega) |>.trans HZ3.out)
   have H74:=Hh (show (w3.setCell ⟨b7,0,none⟩ (.string ⟨#[108,105,110,107]⟩)).heap[b7]?=some (.cells #[.string ⟨#[108,105,110,107]⟩,.string ⟨#[]⟩,.bool false,.slice none 0 0] 114 (0,0)) from qAd H73.out 0 (.string ⟨#[108,105,110,107]⟩))
   clear q0 g0
   generalize w3.setCell ⟨b7,0,none⟩ (.string ⟨#[108,105,110,107]⟩)=w4 at *
   have HV4:=Hh (HEW.out.ext HE4.out)
   cases hcn:qAl rs with
   | none =>
    have HX:=Hh (HX0.out.trans (by rw [hcn]))
    have HC:=Hh hcn
    clear hcn
    go_upto_region 21 with (go_at_call 186;refine (qA7 HR4.out HV4.out hrs).mono ?_;rintro ev w5 ⟨he5,hn5⟩;obtain rfl:=hn5.isNo HC.out;have HE5:=Hh he5;clear he5 hn5)
    have HZ5:=Hh (HE5.out.kept HZ4.out (qAR (by omega)) rfl).1
    have HE5':=Hh (HE4.out.trans HE5.out)
    have HV5:=Hh (HV4.out.ext HE5.out)
    have z0:=ce0 HZ5.out
    have z1:=ce1 HZ5.out
    have z2:=ce2 HZ5.out
    have z3:=ce3 HZ5.out
    have f0:w5.frozen? ⟨w.heap.size,0,none⟩=false:=qAb HZ5.out 0
    have f1:w5.frozen? ⟨w.heap.size,1,none⟩=false:=qAb HZ5.out 1
    have f2:w5.frozen? ⟨w.heap.size,2,none⟩=false:=qAb HZ5.out 2
    have f3:w5.frozen? ⟨w.heap.size,3,none⟩=false:=qAb HZ5.out 3
    have hg:w5.cell? ⟨3,0,none⟩=some (.iface 377 (.pointer (some (p 1)))):=HV5.out.errs.cell 1 (by decide) (by decide)
    have hgne:w.heap.size≠3:=by
     have h0:=lt_of_cell (HEW.out.errs.cell 1 (by decide) (by decide))
     simp [qCq] at h0
     omega
    have hgne':3≠w.heap.size:=hgne.symm
    go_region
    have HF:=Hh (show ((((w5.setCell ⟨w.heap.size,0,none⟩ (.string ⟨#[]⟩)).setCell ⟨w.heap.size,1,none⟩ (.string ⟨#[]⟩)).setCell ⟨w.heap.size,2,none⟩ (.bool false)).setCell ⟨w.heap.size,3,none⟩ (.slice none 0 0)).drew.heap[w.heap.size]?=some (.cells #[.string ⟨#[]⟩,.string ⟨#[]⟩,.bool false,.slice none 0 0] 114 (0,0)) from (qAd (qAd (qAd (qAd HZ5.out 0 (.string ⟨#[]⟩)) 1 (.string ⟨#[]⟩)) 2 (.bool false)) 3 (.slice none 0 0)))
    have HEF:=Hh ((((HE5'.out.setCell (a:=⟨w.heap.size,0,none⟩) (fun h=>absurd h (zt w.heap.size)) (.string ⟨#[]⟩)).setCell (a:=⟨w.heap.size,1,none⟩) (fun h=>absurd h (zt w.heap.size)) (.string ⟨#[]⟩)).setCell (a:=⟨w.heap.size,2,none⟩) (fun h=>absurd h (zt w.heap.size)) (.bool false)).setCell (a:=⟨w.heap.size,3,none⟩) (fun h=>absurd h (zt w.heap.size)) (.slice none 0 0)).drew
    clear z0 z1 z2 z3 f0 f1 f2 f3 hg hgne hgne'
    go_wp2_with fail
    generalize ((((w5.setCell ⟨w.heap.size,0,none⟩ (.string ⟨#[]⟩)).setCell ⟨w.heap.size,1,none⟩ (.string ⟨#[]⟩)).setCell ⟨w.heap.size,2,none⟩ (.bool false)).setCell ⟨w.heap.size,3,none⟩ (.slice none 0 0)).drew=w9 at *
    have r0:=ce0 HF.out
    have r1:=ce1 HF.out
    have r2:=ce2 HF.out
    have r3:=ce3 HF.out
    refine zH1 (v:=.tuple #[.agg #[.string ⟨#[]⟩,.string ⟨#[]⟩,.bool false,.slice none 0 0],.iface 377 (.pointer (some (p 1)))]) ?_ rfl ⟨HEF.out,?_⟩
    ·simp [results,Tryz.results124,go_sem,r0,r1,r2,r3]
    ·rw [HX.out]
     exact ⟨_,_,_,_,_,_,_,rfl,(qAc p (by decide)).symm,by decide⟩
   | some q =>
    obtain ⟨d,s2⟩:=q
    have HX:=Hh (HX0.out.trans (by rw [hcn]))
    have HC:=Hh hcn
    have hdl:=(qBc hcn).1
    clear hcn
    go_upto_region 22 with (go_at_call 186;refine (qA7 HR4.out HV4.out hrs).mono ?_;rintro ev w5 ⟨he5,hn5⟩;obtain ⟨rfl,hr5⟩:=hn5.isYes HC.out;have HE5:=Hh he5;have HR5:=Hh hr5;clear he5 hn5 hr5)
    have HZ5:=Hh (HE5.out.kept HZ4.out (qAR (by omega)) rfl).1
    have H75:=Hh (HE5.out.kept H74.out (qAR (by omega)) rfl).1
    have q1:=ce1 H75.out
    have g1:w5.frozen? ⟨b7,1,none⟩=false:=qAb H75.out 1
    go_upto_region 23 with fail
    have HR6:=Hh (show RdAt (w5.setCell ⟨b7,1,none⟩ (.string ⟨d.toArray⟩)) r s2 (n+1) from (qAV.block r (qAa HR5.out) (fun h=>by injection h with h;omega)).trans HR5.out)
    have HE6:=Hh ((HE4.out.trans HE5.out).setCell (a:=⟨b7,1,none⟩) (fun h=>absurd h (Nat.not_lt.2 (Nat.le_of_lt hb7a))) (.string ⟨d.toArray⟩))
    have HZ6:=Hh ((qAV (w:=w5) (b:=b7) (j:=1) (u:=.string ⟨d.toArray⟩)).block w.heap.size (qAa HZ5.out) (fun h=>by injection h with h;omega) |>.trans HZ5.out)
    have H76:=Hh (show (w5.setCell ⟨b7,1,none⟩ (.string ⟨d.toArray⟩)).heap[b7]?=some (.cells #[.string ⟨#[108,105,110,107]⟩,.string ⟨d.toArray⟩,.bool false,.slice none 0 0] 114 (0,0)) from qAd H75.out 1 (.string ⟨d.toArray⟩))
    clear q1 g1
    generalize w5.setCell ⟨b7,1,none⟩ (.string ⟨d.toArray⟩)=w6 at *
    have z0:=ce0 HZ6.out
    have z1:=ce1 HZ6.out
    have z2:=ce2 HZ6.out
    have z3:=ce3 HZ6.out
    have f0:w6.frozen? ⟨w.heap.size,0,none⟩=false:=qAb HZ6.out 0
    have f1:w6.frozen? ⟨w.heap.size,1,none⟩=false:=qAb HZ6.out 1
    have f2:w6.frozen? ⟨w.heap.size,2,none⟩=false:=qAb HZ6.out 2
    have f3:w6.frozen? ⟨w.heap.size,3,none⟩=false:=qAb HZ6.out 3
    have y0:=ce0 H76.out
    have y1:=ce1 H76.out
    have y2:=ce2 H76.out
    have y3:=ce3 H76.out
    go_wp2_with fail
    have HF:=Hh (show ((((w6.setCell ⟨w.heap.size,0,none⟩ (.string ⟨#[108,105,110,107]⟩)).setCell ⟨w.heap.size,1,none⟩ (.string ⟨d.toArray⟩)).setCell ⟨w.heap.size,2,none⟩ (.bool false)).setCell ⟨w.heap.size,3,none⟩ (.slice none 0 0)).heap[w.heap.size]?=some (.cells #[.string ⟨#[108,105,110,107]⟩,.string ⟨d.toArray⟩,.bool false,.slice none 0 0] 114 (0,0)) from (qAd (qAd (qAd (qAd HZ6.out 0 (.string ⟨#[108,105,110,107]⟩)) 1 (.string ⟨d.toArray⟩)) 2 (.bool false)) 3 (.slice none 0 0)))
    have HEF:=Hh ((((HE6.out.setCell (a:=⟨w.heap.size,0,none⟩) (fun h=>absurd h (zt w.heap.size)) (.string ⟨#[108,105,110,107]⟩)).setCell (a:=⟨w.heap.size,1,none⟩) (fun h=>absurd h (zt w.heap.size)) (.string ⟨d.toArray⟩)).setCell (a:=⟨w.heap.size,2,none⟩) (fun h=>absurd h (zt w.heap.size)) (.bool false)).setCell (a:=⟨w.heap.size,3,none⟩) (fun h=>absurd h (zt w.heap.size)) (.slice none 0 0))
    clear z0 z1 z2 z3 f0 f1 f2 f3 y0 y1 y2 y3
    have HPO:=Hh (show RdAt ((((w6.setCell ⟨w.heap.size,0,none⟩ (.string ⟨#[108,105,110,107]⟩)).setCell ⟨w.heap.size,1,none⟩ (.string ⟨d.toArray⟩)).setCell ⟨w.heap.size,2,none⟩ (.bool false)).setCell ⟨w.heap.size,3,none⟩ (.slice none 0 0)) r s2 (n+1) from qHq HR6.out (by omega))
    generalize ((((w6.setCell ⟨w.heap.size,0,none⟩ (.string ⟨#[108,105,110,107]⟩)).setCell ⟨w.heap.size,1,none⟩ (.string ⟨d.toArray⟩)).setCell ⟨w.heap.size,2,none⟩ (.bool false)).setCell ⟨w.heap.size,3,none⟩ (.slice none 0 0))=w9 at *
    have r0:=ce0 HF.out
    have r1:=ce1 HF.out
    have r2:=ce2 HF.out
    have r3:=ce3 HF.out
    refine zH1 (v:=.tuple #[.agg #[.string ⟨#[108,105,110,107]⟩,.string ⟨d.toArray⟩,.bool false,.slice none 0 0],.nilIface]) ?_ rfl ⟨HEF.out,?_⟩
    ·simp [results,Tryz.results124,go_sem,r0,r1,r2,r3]
    ·rw [HX.out]
     exact ⟨_,_,_,_,_,_,_,rfl,rfl,HPO.out,qFU (k:=kLink) (by decide) (by omega)⟩
  by_cases hc102:c=102
  ·have hn120:¬ ((cb.toNat:Nat):Int)=120:=by rw [HCB.out,hc102];decide
   have hn100:¬ ((cb.toNat:Nat):Int)=100:=by rw [HCB.out,hc102];decide
   have hn108:¬ ((cb.toNat:Nat):Int)=108:=by rw [HCB.out,hc102];decide
   have e102:((cb.toNat:Nat):Int)=102:=by rw [HCB.out,hc102];rfl
   have HX0:=Hh (show qAL (f+1) (c::rs) n=match qAl rs with | none=>.error 1 | some (d,s2)=>.ok (.mk kFile d false [],s2,n+1) by
    rw [qDU H200.out hc100 (by simp [hc102])]
    subst hc102
    rfl)
   go_upto_region 19 with fail
   have hb3:=(zB w2.heap.size w2).alloc (zq _) (.cells #[.string ⟨#[102,105,108,101]⟩,.string ⟨#[]⟩,.bool false,.slice none 0 0] 114)
   have HR3:=Hh (HR2.out.later hb3)
   have HE3:=Hh (HE2.out.trans (qAK hb3))
   have HV3:=Hh (HV2.out.below hb3)
   have HZ3:=Hh ((hb3.block _ (qAa HZ2.out)).trans HZ2.out)
   have H73:=Hh (show (w2.alloc (.cells #[.string ⟨#[102,105,108,101]⟩,.string ⟨#[]⟩,.bool false,.slice none 0 0] 114)).heap[w2.heap.size]?=some (.cells #[.string ⟨#[102,105,108,101]⟩,.string ⟨#[]⟩,.bool false,.slice none 0 0] 114 (0,0)) from zK1 w2 _)
   have HS3:=Hh (show (w2.alloc (.cells #[.string ⟨#[102,105,108,101]⟩,.string ⟨#[]⟩,.bool false,.slice none 0 0] 114)).heap.size=w.heap.size+2 by have:=HS2.out;simp;omega)
   clear hb3
   generalize w2.alloc (.cells #[.string ⟨#[102,105,108,101]⟩,.string ⟨#[]⟩,.bool false,.slice none 0 0] 114)=w3 at *
   have hb7a:w.heap.size<w2.heap.size:=by have:=HS2.out;omega
   generalize hb7:w2.heap.size=b7 at *
   clear hb7
   have HR4:=HR3
   have HE4:=HE3
   have HZ4:=HZ3
   have H74:=H73
   have HV4:=HV3
   obtain ⟨w4,hw4⟩:∃ w4,w4=w3:=⟨_,rfl⟩
   rw [← hw4] at HR4 HE4 HZ4 H74 HV4
   rw [← hw4]
   clear hw4
   cases hcn:qAl rs with
   | none =>
    have HX:=Hh (HX0.out.trans (by rw [hcn]))
    have HC:=Hh hcn
    clear hcn
    go_upto_region 21 with (go_at_call 186;refine (qA7 HR4.out HV4.out hrs).mono ?_;rintro ev w5 ⟨he5,hn5⟩;obtain rfl:=hn5.isNo HC.out;have HE5:=Hh he5;clear he5 hn5)
    have HZ5:=Hh (HE5.out.kept HZ4.out (qAR (by omega)) rfl).1
    have HE5':=Hh (HE4.out.trans HE5.out)
    have HV5:=Hh (HV4.out.ext HE5.out)
    have z0:=ce0 HZ5.out
    have z1:=ce1 HZ5.out
    have z2:=ce2 HZ5.out
    have z3:=ce3 HZ5.out
    have f0:w5.frozen? ⟨w.heap.size,0,none⟩=false:=qAb HZ5.out 0
    have f1:w5.frozen? ⟨w.heap.size,1,none⟩=false:=qAb HZ5.out 1
    have f2:w5.frozen? ⟨w.heap.size,2,none⟩=false:=qAb HZ5.out 2
    have f3:w5.frozen? ⟨w.heap.size,3,none⟩=false:=qAb HZ5.out 3
    have hg:w5.cell? ⟨3,0,none⟩=some (.iface 377 (.pointer (some (p 1)))):=HV5.out.errs.cell 1 (by decide) (by decide)
    have hgne:w.heap.size≠3:=by
     have h0:=lt_of_cell (HEW.out.errs.cell 1 (by decide) (by decide))
     simp [qCq] at h0
     omega
    have hgne':3≠w.heap.size:=hgne.symm
    go_region
    have HF:=Hh (show ((((w5.setCell ⟨w.heap.size,0,none⟩ (.string ⟨#[]⟩)).setCell ⟨w.heap.size,1,none⟩ (.string ⟨#[]⟩)).setCell ⟨w.heap.size,2,none⟩ (.bool false)).setCell ⟨w.heap.size,3,none⟩ (.slice none 0 0)).drew.heap[w.heap.size]?=some (.cells #[.string ⟨#[]⟩,.string ⟨#[]⟩,.bool false,.slice none 0 0] 114 (0,0)) from (qAd (qAd (qAd (qAd HZ5.out 0 (.string ⟨#[]⟩)) 1 (.string ⟨#[]⟩)) 2 (.bool false)) 3 (.slice none 0 0)))
    have HEF:=Hh ((((HE5'.out.setCell (a:=⟨w.heap.size,0,none⟩) (fun h=>absurd h (zt w.heap.size)) (.string ⟨#[]⟩)).setCell (a:=⟨w.heap.size,1,none⟩) (fun h=>absurd h (zt w.heap.size)) (.string ⟨#[]⟩)).setCell (a:=⟨w.heap.size,2,none⟩) (fun h=>absurd h (zt w.heap.size)) (.bool false)).setCell (a:=⟨w.heap.size,3,none⟩) (fun h=>absurd h (zt w.heap.size)) (.slice none 0 0)).drew
    clear z0 z1 z2 z3 f0 f1 f2 f3 hg hgne hgne'
    go_wp2_with fail
    generalize ((((w5.setCell ⟨w.heap.size,0,none⟩ (.string ⟨#[]⟩)).setCell ⟨w.heap.size,1,none⟩ (.string ⟨#[]⟩)).setCell ⟨w.heap.size,2,none⟩ (.bool false)).setCell ⟨w.heap.size,3,none⟩ (.slice none 0 0)).drew=w9 at *
    have r0:=ce0 HF.out
    have r1:=ce1 HF.out
    have r2:=ce2 HF.out
    have r3:=ce3 HF.out
    refine zH1 (v:=.tuple #[.agg #[.string ⟨#[]⟩,.string ⟨#[]⟩,.bool false,.slice none 0 0],.iface 377 (.pointer (some (p 1)))]) ?_ rfl ⟨HEF.out,?_⟩
    ·simp [results,Tryz.results124,go_sem,r0,r1,r2,r3]
    ·rw [HX.out]
     exact ⟨_,_,_,_,_,_,_,rfl,(qAc p (by decide)).symm,by decide⟩
   | some q =>
    obtain ⟨d,s2⟩:=q
    have HX:=Hh (HX0.out.trans (by rw [hcn]))
    have HC:=Hh hcn
    have hdl:=(qBc hcn).1
    clear hcn
    go_upto_region 22 with (go_at_call 186;refine (qA7 HR4.out HV4.out hrs).mono ?_;rintro ev w5 ⟨he5,hn5⟩;obtain ⟨rfl,hr5⟩:=hn5.isYes HC.out;have HE5:=Hh he5;have HR5:=Hh hr5;clear he5 hn5 hr5)
    have HZ5:=Hh (HE5.out.kept HZ4.out (qAR (by omega)) rfl).1
    have H75:=Hh (HE5.out.kept H74.out (qAR (by omega)) rfl).1
    have q1:=ce1 H75.out
    have g1:w5.frozen? ⟨b7,1,none⟩=false:=qAb H75.out 1
    go_upto_region 23 with fail
    have HR6:=Hh (show RdAt (w5.setCell ⟨b7,1,none⟩ (.string ⟨d.toArray⟩)) r s2 (n+1) from (qAV.block r (qAa HR5.out) (fun h=>by injection h with h;omega)).trans HR5.out)
    have HE6:=Hh ((HE4.out.trans HE5.out).setCell (a:=⟨b7,1,none⟩) (fun h=>absurd h (Nat.not_lt.2 (Nat.le_of_lt hb7a))) (.string ⟨d.toArray⟩))
    have HZ6:=Hh ((qAV (w:=w5) (b:=b7) (j:=1) (u:=.string ⟨d.toArray⟩)).block w.heap.size (qAa HZ5.out) (fun h=>by injection h with h;omega) |>.trans HZ5.out)
    have H76:=Hh (show (w5.setCell ⟨b7,1,none⟩ (.string ⟨d.toArray⟩)).heap[b7]?=some (.cells #[.string ⟨#[102,105,108,101]⟩,.string ⟨d.toArray⟩,.bool false,.slice none 0 0] 114 (0,0)) from qAd H75.out 1 (.string ⟨d.toArray⟩))
    clear q1 g1
    generalize w5.setCell ⟨b7,1,none⟩ (.string ⟨d.toArray⟩)=w6 at *
    have z0:=ce0 HZ6.out
    have z1:=ce1 HZ6.out
    have z2:=ce2 HZ6.out
    have z3:=ce3 HZ6.out
    have f0:w6.frozen? ⟨w.heap.size,0,none⟩=false:=qAb HZ6.out 0
    have f1:w6.frozen? ⟨w.heap.size,1,none⟩=false:=qAb HZ6.out 1
    have f2:w6.frozen? ⟨w.heap.size,2,none⟩=false:=qAb HZ6.out 2
    have f3:w6.frozen? ⟨w.heap.size,3,none⟩=false:=qAb HZ6.out 3
    have y0:=ce0 H76.out
    have y1:=ce1 H76.out
    have y2:=ce2 H76.out
    have y3:=ce3 H76.out
    go_wp2_with fail
    have HF:=Hh (show ((((w6.setCell ⟨w.heap.size,0,none⟩ (.string ⟨#[102,105,108,101]⟩)).setCell ⟨w.heap.size,1,none⟩ (.string ⟨d.toArray⟩)).setCell ⟨w.heap.size,2,none⟩ (.bool false)).setCell ⟨w.heap.size,3,none⟩ (.slice none 0 0)).heap[w.heap.size]?=some (.cells #[.string ⟨#[102,105,108,101]⟩,.string ⟨d.toArray⟩,.bool false,.slice none 0 0] 114 (0,0)) from (qAd (qAd (qAd (qAd HZ6.out 0 (.string ⟨#[102,105,108,101]⟩)) 1 (.string ⟨d.toArray⟩)) 2 (.bool false)) 3 (.slice none 0 0)))
    have HEF:=Hh ((((HE6.out.setCell (a:=⟨w.heap.size,0,none⟩) (fun h=>absurd h (zt w.heap.size)) (.string ⟨#[102,105,108,101]⟩)).setCell (a:=⟨w.heap.size,1,none⟩) (fun h=>absurd h (zt w.heap.size)) (.string ⟨d.toArray⟩)).setCell (a:=⟨w.heap.size,2,none⟩) (fun h=>absurd h (zt w.heap.size)) (.bool false)).setCell (a:=⟨w.heap.size,3,none⟩) (fun h=>absurd h (zt w.heap.size)) (.slice none 0 0))
    clear z0 z1 z2 z3 f0 f1 f2 f3 y0 y1 y2 y3
    have HPO:=Hh (show RdAt ((((w6.setCell ⟨w.heap.size,0,none⟩ (.string ⟨#[102,105,108,101]⟩)).setCell ⟨w.heap.size,1,none⟩ (.string ⟨d.toArray⟩)).setCell ⟨w.heap.size,2,none⟩ (.bool false)).setCell ⟨w.heap.size,3,none⟩ (.slice none 0 0)) r s2 (n+1) from qHq HR6.out (by omega))
    generalize ((((w6.setCell ⟨w.heap.size,0,none⟩ (.string ⟨#[102,105,108,101]⟩)).setCell ⟨w.heap.size,1,none⟩ (.string ⟨d.toArray⟩)).setCell ⟨w.heap.size,2,none⟩ (.bool false)).setCell ⟨w.heap.size,3,none⟩ (.slice none 0 0))=w9 at *
    have r0:=ce0 HF.out
    have r1:=ce1 HF.out
    have r2:=ce2 HF.out
    have r3:=ce3 HF.out
    refine zH1 (v:=.tuple #[.agg #[.string ⟨#[102,105,108,101]⟩,.string ⟨d.toArray⟩,.bool false,.slice none 0 0],.nilIface]) ?_ rfl ⟨HEF.out,?_⟩
    ·simp [results,Tryz.results124,go_sem,r0,r1,r2,r3]
    ·rw [HX.out]
     exact ⟨_,_,_,_,_,_,_,rfl,rfl,HPO.out,qFU (k:=kFile) (by decide) (by omega)⟩
  by_cases hc120:c=120
  ·have e120:((cb.toNat:Nat):Int)=120:=by rw [HCB.out,hc120];rfl
   have hn100:¬ ((cb.toNat:Nat):Int)=100:=by rw [HCB.out,hc120];decide
   have hn108:¬ ((cb.toNat:Nat):Int)=108:=by rw [HCB.out,hc120];decide
   have hn102:¬ ((cb.toNat:Nat):Int)=102:=by rw [HCB.out,hc120];decide
   have HX0:=Hh (show qAL (f+1) (c::rs) n=match qAl rs with | none=>.error 1 | some (d,s2)=>.ok (.mk kFile d true [],s2,n+1) by
    rw [qDU H200.out hc100 (by simp [hc120])]
    subst hc120
    rfl)
   go_upto_region 19 with fail
   have hb3:=(zB w2.heap.size w2).alloc (zq _) (.cells #[.string ⟨#[102,105,108,101]⟩,.string ⟨#[]⟩,.bool true,.slice none 0 0] 114)
   have HR3:=Hh (HR2.out.later hb3)
   have HE3:=Hh (HE2.out.trans (qAK hb3))
   have HV3:=Hh (HV2.out.below hb3)
   have HZ3:=Hh ((hb3.block _ (qAa HZ2.out)).trans HZ2.out)
   have H73:=Hh (show (w2.alloc (.cells #[.string ⟨#[102,105,108,101]⟩,.string ⟨#[]⟩,.bool true,.slice none 0 0] 114)).heap[w2.heap.size]?=some (.cells #[.string ⟨#[102,105,108,101]⟩,.string ⟨#[]⟩,.bool true,.slice none 0 0] 114 (0,0)) from zK1 w2 _)
   have HS3:=Hh (show (w2.alloc (.cells #[.string ⟨#[102,105,108,101]⟩,.string ⟨#[]⟩,.bool true,.slice none 0 0] 114)).heap.size=w.heap.size+2 by have:=HS2.out;simp;omega)
   clear hb3
   generalize w2.alloc (.cells #[.string ⟨#[102,105,108,101]⟩,.string ⟨#[]⟩,.bool true,.slice none 0 0] 114)=w3 at *
   have hb7a:w.heap.size<w2.heap.size:=by have:=HS2.out;omega
   generalize hb7:w2.heap.size=b7 at *
   clear hb7
   have HR4:=HR3
   have HE4:=HE3
   have HZ4:=HZ3
   have H74:=H73
   have HV4:=HV3
   obtain ⟨w4,hw4⟩:∃ w4,w4=w3:=⟨_,rfl⟩
   rw [← hw4] at HR4 HE4 HZ4 H74 HV4
   rw [← hw4]
   clear hw4
   cases hcn:qAl rs with
   | none =>
    have HX:=Hh (HX0.out.trans (by rw [hcn]))
    have HC:=Hh hcn
    clear hcn
    go_upto_region 21 with (go_at_call 186;refine (qA7 HR4.out HV4.out hrs).mono ?_;rintro ev w5 ⟨he5,hn5⟩;obtain rfl:=hn5.isNo HC.out;have HE5:=Hh he5;clear he5 hn5)
    have HZ5:=Hh (HE5.out.kept HZ4.out (qAR (by omega)) rfl).1
    have HE5':=Hh (HE4.out.trans HE5.out)
    have HV5:=Hh (HV4.out.ext HE5.out)
    have z0:=ce0 HZ5.out
    have z1:=ce1 HZ5.out
    have z2:=ce2 HZ5.out
    have z3:=ce3 HZ5.out
    have f0:w5.frozen? ⟨w.heap.size,0,none⟩=false:=qAb HZ5.out 0
    have f1:w5.frozen? ⟨w.heap.size,1,none⟩=false:=qAb HZ5.out 1
    have f2:w5.frozen? ⟨w.heap.size,2,none⟩=false:=qAb HZ5.out 2
    have f3:w5.frozen? ⟨w.heap.size,3,none⟩=false:=qAb HZ5.out 3
    have hg:w5.cell? ⟨3,0,none⟩=some (.iface 377 (.pointer (some (p 1)))):=HV5.out.errs.cell 1 (by decide) (by decide)
    have hgne:w.heap.size≠3:=by
     have h0:=lt_of_cell (HEW.out.errs.cell 1 (by decide) (by decide))
     simp [qCq] at h0
     omega
    have hgne':3≠w.heap.size:=hgne.symm
    go_region
    have HF:=Hh (show ((((w5.setCell ⟨w.heap.size,0,none⟩ (.string ⟨#[]⟩)).setCell ⟨w.heap.size,1,none⟩ (.string ⟨#[]⟩)).setCell ⟨w.heap.size,2,none⟩ (.bool false)).setCell ⟨w.heap.size,3,none⟩ (.slice none 0 0)).drew.heap[w.heap.size]?=some (.cells #[.string ⟨#[]⟩,.string ⟨#[]⟩,.bool false,.slice none 0 0] 114 (0,0)) from (qAd (qAd (qAd (qAd HZ5.out 0 (.string ⟨#[]⟩)) 1 (.string ⟨#[]⟩)) 2 (.bool false)) 3 (.slice none 0 0)))
    have HEF:=Hh ((((HE5'.out.setCell (a:=⟨w.heap.size,0,none⟩) (fun h=>absurd h (zt w.heap.size)) (.string ⟨#[]⟩)).setCell (a:=⟨w.heap.size,1,none⟩) (fun h=>absurd h (zt w.heap.size)) (.string ⟨#[]⟩)).setCell (a:=⟨w.heap.size,2,none⟩) (fun h=>absurd h (zt w.heap.size)) (.bool false)).setCell (a:=⟨w.heap.size,3,none⟩) (fun h=>absurd h (zt w.heap.size)) (.slice none 0 0)).drew
    clear z0 z1 z2 z3 f0 f1 f2 f3 hg hgne hgne'
    go_wp2_with fail
    generalize ((((w5.setCell ⟨w.heap.size,0,none⟩ (.string ⟨#[]⟩)).setCell ⟨w.heap.size,1,none⟩ (.string ⟨#[]⟩)).setCell ⟨w.heap.size,2,none⟩ (.bool false)).setCell ⟨w.heap.size,3,none⟩ (.slice none 0 0)).drew=w9 at *
    have r0:=ce0 HF.out
    have r1:=ce1 HF.out
    have r2:=ce2 HF.out
    have r3:=ce3 HF.out
    refine zH1 (v:=.tuple #[.agg #[.string ⟨#[]⟩,.string ⟨#[]⟩,.bool false,.slice none 0 0],.iface 377 (.pointer (some (p 1)))]) ?_ rfl ⟨HEF.out,?_⟩
    ·simp [results,Tryz.results124,go_sem,r0,r1,r2,r3]
    ·rw [HX.out]
     exact ⟨_,_,_,_,_,_,_,rfl,(qAc p (by decide)).symm,by decide⟩
   | some q =>
    obtain ⟨d,s2⟩:=q
    have HX:=Hh (HX0.out.trans (by rw [hcn]))
    have HC:=Hh hcn
    have hdl:=(qBc hcn).1
    clear hcn
    go_upto_region 22 with (go_at_call 186;refine (qA7 HR4.out HV4.out hrs).mono ?_;rintro ev w5 ⟨he5,hn5⟩;obtain ⟨rfl,hr5⟩:=hn5.isYes HC.out;have HE5:=Hh he5;have HR5:=Hh hr5;clear he5 hn5 hr5)
    have HZ5:=Hh (HE5.out.kept HZ4.out (qAR (by omega)) rfl).1
    have H75:=Hh (HE5.out.kept H74.out (qAR (by omega)) rfl).1
    have q1:=ce1 H75.out
    have g1:w5.frozen? ⟨b7,1,none⟩=false:=qAb H75.out 1
    go_upto_region 23 with fail
    have HR6:=Hh (show RdAt (w5.setCell ⟨b7,1,none⟩ (.string ⟨d.toArray⟩)) r s2 (n+1) from (qAV.block r (qAa HR5.out) (fun h=>by injection h with h;omega)).trans HR5.out)
    have HE6:=Hh ((HE4.out.trans HE5.out).setCell (a:=⟨b7,1,none⟩) (fun h=>absurd h (Nat.not_lt.2 (Nat.le_of_lt hb7a))) (.string ⟨d.toArray⟩))
    have HZ6:=Hh ((qAV (w:=w5) (b:=b7) (j:=1) (u:=.string ⟨d.toArray⟩)).block w.heap.size (qAa HZ5.out) (fun h=>by injection h with h;omega) |>.trans HZ5.out)
    have H76:=Hh (show (w5.setCell ⟨b7,1,none⟩ (.string ⟨d.toArray⟩)).heap[b7]?=some (.cells #[.string ⟨#[102,105,108,101]⟩,.string ⟨d.toArray⟩,.bool true,.slice none 0 0] 114 (0,0)) from qAd H75.out 1 (.string ⟨d.toArray⟩))
    clear q1 g1
    generalize w5.setCell ⟨b7,1,none⟩ (.string ⟨d.toArray⟩)=w6 at *
    have z0:=ce0 HZ6.out
    have z1:=ce1 HZ6.out
    have z2:=ce2 HZ6.out
    have z3:=ce3 HZ6.out
    have f0:w6.frozen? ⟨w.heap.size,0,none⟩=false:=qAb HZ6.out 0
    have f1:w6.frozen? ⟨w.heap.size,1,none⟩=false:=qAb HZ6.out 1
    have f2:w6.frozen? ⟨w.heap.size,2,none⟩=false:=qAb HZ6.out 2
    have f3:w6.frozen? ⟨w.heap.size,3,none⟩=false:=qAb HZ6.out 3
    have y0:=ce0 H76.out
    have y1:=ce1 H76.out
    have y2:=ce2 H76.out
    have y3:=ce3 H76.out
    go_wp2_with fail
    have HF:=Hh (show ((((w6.setCell ⟨w.heap.size,0,none⟩ (.string ⟨#[102,105,108,101]⟩)).setCell ⟨w.heap.size,1,none⟩ (.string ⟨d.toArray⟩)).setCell ⟨w.heap.size,2,none⟩ (.bool true)).setCell ⟨w.heap.size,3,none⟩ (.slice none 0 0)).heap[w.heap.size]?=some (.cells #[.string ⟨#[102,105,108,101]⟩,.string ⟨d.toArray⟩,.bool true,.slice none 0 0] 114 (0,0)) from (qAd (qAd (qAd (qAd HZ6.out 0 (.string ⟨#[102,105,108,101]⟩)) 1 (.string ⟨d.toArray⟩)) 2 (.bool true)) 3 (.slice none 0 0)))
    have HEF:=Hh ((((HE6.out.setCell (a:=⟨w.heap.size,0,none⟩) (fun h=>absurd h (zt w.heap.size)) (.string ⟨#[102,105,108,101]⟩)).setCell (a:=⟨w.heap.size,1,none⟩) (fun h=>absurd h (zt w.heap.size)) (.string ⟨d.toArray⟩)).setCell (a:=⟨w.heap.size,2,none⟩) (fun h=>absurd h (zt w.heap.size)) (.bool true)).setCell (a:=⟨w.heap.size,3,none⟩) (fun h=>absurd h (zt w.heap.size)) (.slice none 0 0))
    clear z0 z1 z2 z3 f0 f1 f2 f3 y0 y1 y2 y3
    have HPO:=Hh (show RdAt ((((w6.setCell ⟨w.heap.size,0,none⟩ (.string ⟨#[102,105,108,101]⟩)).setCell ⟨w.heap.size,1,none⟩ (.string ⟨d.toArray⟩)).setCell ⟨w.heap.size,2,none⟩ (.bool true)).setCell ⟨w.heap.size,3,none⟩ (.slice none 0 0)) r s2 (n+1) from qHq HR6.out (by omega))
    generalize ((((w6.setCell ⟨w.heap.size,0,none⟩ (.string ⟨#[102,105,108,101]⟩)).setCell ⟨w.heap.size,1,none⟩ (.string ⟨d.toArray⟩)).setCell ⟨w.heap.size,2,none⟩ (.bool true)).setCell ⟨w.heap.size,3,none⟩ (.slice none 0 0))=w9 at *
    have r0:=ce0 HF.out
    have r1:=ce1 HF.out
    have r2:=ce2 HF.out
    have r3:=ce3 HF.out
    refine zH1 (v:=.tuple #[.agg #[.string ⟨#[102,105,108,101]⟩,.string ⟨d.toArray⟩,.bool true,.slice none 0 0],.nilIface]) ?_ rfl ⟨HEF.out,?_⟩
    ·simp [results,Tryz.results124,go_sem,r0,r1,r2,r3]
    ·rw [HX.out]
     exact ⟨_,_,_,_,_,_,_,rfl,rfl,HPO.out,qFU (k:=kFile) (by decide) (by omega)⟩
  have HX:=Hh (show qAL (f+1) (c::rs) n=.error 1 from qJf H200.out hc100 (by rintro (h | h | h);exact hc108 h;exact hc102 h;exact hc120 h))
  have hn100:¬ ((cb.toNat:Nat):Int)=100:=fun h=>hc100 (by rw [← HCB.out];exact qHl h rfl)
  have hn108:¬ ((cb.toNat:Nat):Int)=108:=fun h=>hc108 (by rw [← HCB.out];exact qHl h rfl)
  have hn102:¬ ((cb.toNat:Nat):Int)=102:=fun h=>hc102 (by rw [← HCB.out];exact qHl h rfl)
  have hn120:¬ ((cb.toNat:Nat):Int)=120:=fun h=>hc120 (by rw [← HCB.out];exact qHl h rfl)
  go_upto_region 12 with fail
  have hbf:((((cb.toNat:Nat):Int))==120)=false:=by simpa using hn120
  rw [hbf]
  clear hbf
  have hb3:=(zB w2.heap.size w2).alloc (zq _) (.cells #[.string ⟨#[102,105,108,101]⟩,.string ⟨#[]⟩,.bool false,.slice none 0 0] 114)
  have HR3:=Hh (HR2.out.later hb3)
  have HE3:=Hh (HE2.out.trans (qAK hb3))
  have HV3:=Hh (HV2.out.below hb3)
  have HZ3:=Hh ((hb3.block _ (qAa HZ2.out)).trans HZ2.out)
  have H73:=Hh (show (w2.alloc (.cells #[.string ⟨#[102,105,108,101]⟩,.string ⟨#[]⟩,.bool false,.slice none 0 0] 114)).heap[w2.heap.size]?=some (.cells #[.string ⟨#[102,105,108,101]⟩,.string ⟨#[]⟩,.bool false,.slice none 0 0] 114 (0,0)) from zK1 w2 _)
  have HS3:=Hh (show (w2.alloc (.cells #[.string ⟨#[102,105,108,101]⟩,.string ⟨#[]⟩,.bool false,.slice none 0 0] 114)).heap.size=w.heap.size+2 by have:=HS2.out;simp;omega)
  clear hb3
  generalize w2.alloc (.cells #[.string ⟨#[102,105,108,101]⟩,.string ⟨#[]⟩,.bool false,.slice none 0 0] 114)=w3 at *
  have z0:=ce0 HZ3.out
  have z1:=ce1 HZ3.out
  have z2:=ce2 HZ3.out
  have z3:=ce3 HZ3.out
  have f0:w3.frozen? ⟨w.heap.size,0,none⟩=false:=qAb HZ3.out 0
  have f1:w3.frozen? ⟨w.heap.size,1,none⟩=false:=qAb HZ3.out 1
  have f2:w3.frozen? ⟨w.heap.size,2,none⟩=false:=qAb HZ3.out 2
  have f3:w3.frozen? ⟨w.heap.size,3,none⟩=false:=qAb HZ3.out 3
  have hg:w3.cell? ⟨3,0,none⟩=some (.iface 377 (.pointer (some (p 1)))):=HV3.out.errs.cell 1 (by decide) (by decide)
  have hgne:w.heap.size≠3:=by
   have h0:=lt_of_cell (HEW.out.errs.cell 1 (by decide) (by decide))
   simp [qCq] at h0
   omega
  have hgne':3≠w.heap.size:=hgne.symm
  go_region
  have HF:=Hh (show ((((w3.setCell ⟨w.heap.size,0,none⟩ (.string ⟨#[]⟩)).setCell ⟨w.heap.size,1,none⟩ (.string ⟨#[]⟩)).setCell ⟨w.heap.size,2,none⟩ (.bool false)).setCell ⟨w.heap.size,3,none⟩ (.slice none 0 0)).drew.heap[w.heap.size]?=some (.cells #[.string ⟨#[]⟩,.string ⟨#[]⟩,.bool false,.slice none 0 0] 114 (0,0)) from (qAd (qAd (qAd (qAd HZ3.out 0 (.string ⟨#[]⟩)) 1 (.string ⟨#[]⟩)) 2 (.bool false)) 3 (.slice none 0 0)))
  have HEF:=Hh ((((HE3.out.setCell (a:=⟨w.heap.size,0,none⟩) (fun h=>absurd h (zt w.heap.size)) (.string ⟨#[]⟩)).setCell (a:=⟨w.heap.size,1,none⟩) (fun h=>absurd h (zt w.heap.size)) (.string ⟨#[]⟩)).setCell (a:=⟨w.heap.size,2,none⟩) (fun h=>absurd h (zt w.heap.size)) (.bool false)).setCell (a:=⟨w.heap.size,3,none⟩) (fun h=>absurd h (zt w.heap.size)) (.slice none 0 0)).drew
  clear z0 z1 z2 z3 f0 f1 f2 f3 hg hgne hgne'
  go_wp2_with fail
  generalize ((((w3.setCell ⟨w.heap.size,0,none⟩ (.string ⟨#[]⟩)).setCell ⟨w.heap.size,1,none⟩ (.string ⟨#[]⟩)).setCell ⟨w.heap.size,2,none⟩ (.bool false)).setCell ⟨w.heap.size,3,none⟩ (.slice none 0 0)).drew=w9 at *
  have r0:=ce0 HF.out
  have r1:=ce1 HF.out
  have r2:=ce2 HF.out
  have r3:=ce3 HF.out
  refine zH1 (v:=.tuple #[.agg #[.string ⟨#[]⟩,.string ⟨#[]⟩,.bool false,.slice none 0 0],.iface 377 (.pointer (some (p 1)))]) ?_ rfl ⟨HEF.out,?_⟩
  ·simp [results,Tryz.results124,go_sem,r0,r1,r2,r3]
  ·rw [HX.out]
   exact ⟨_,_,_,_,_,_,_,rfl,(qAc p (by decide)).symm,by decide⟩
theorem qKQ:∀ f,qJi p f
 | 0=>qM7
 | f+1=>qNf (qKQ f)
end
end Go.Proofs.YtceklhjomhjipaaGreatDoor
