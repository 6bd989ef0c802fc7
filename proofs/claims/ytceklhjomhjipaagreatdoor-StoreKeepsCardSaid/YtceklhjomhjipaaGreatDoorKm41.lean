/- Texts of this claim, merged: PRead. -/
import Derived.Test.YtceklhjomhjipaaGreatDoorKm40
set_option maxHeartbeats 16000000
set_option maxRecDepth 1000000
set_option linter.all false
namespace Go.Proofs.YtceklhjomhjipaaGreatDoor
open Go.RowKit Go.Sort Go.Shelf Stl
def qIF (p:Nat→Addr) (base:Nat) (x:Except Nat Nd) (ev:Ending) (w':World):Prop :=
 ∃ (a0 a1:ByteArray) (a2:Bool) (A:Option Addr) (m cp:Nat) (er:Value),ev=.returned (.tuple #[.agg #[.string a0,.string a1,.bool a2,.slice A m cp],er]) ∧
  match x with
  | .error c=>er=qAB p c∧c≠0
  | .ok nd=>er=.nilIface∧NodeP (fun b=>base≤b) w' nd [.string a0,.string a1,.bool a2,.slice A m cp]
section
variable {p:Nat→Addr}
theorem qMB (s:List UInt8) (hs:s.length≤4000000) (w:World) (hE:Errs w p) (hV:LibVars w) :
  Calls Tryz.prog 75 #[.string ⟨s.toArray⟩] w fun ev w'=>Below w.heap.size w w'∧qIF p w.heap.size (qBe s) ev w':=by
 obtain ⟨r,hr⟩:∃ r,r=w.heap.size+1:=⟨_,rfl⟩
 have hrw:w.heap.size<r:=by omega
 have hrw2:w.heap.size≤r:=by omega
 have HRR:=Hh hr
 have hba:Below w.heap.size w (w.alloc (.cells #[.string ⟨#[]⟩,.string ⟨#[]⟩,.bool false,.slice none 0 0] 114)):=(zB _ w).alloc (zq _) _
 have HEW:=Hh (show RdEnv w r p from ⟨w,hE,hV,zB _ _,hrw2⟩)
 by_cases hl:20000<s.length
 ·have HX:=Hh (show qBe s=.error 2 by unfold qBe;rw [zM1 hl])
  have i1:(20000:Int)<(s.length:Int):=by omega
  have HZ1:=Hh (zK1 w (.cells #[.string ⟨#[]⟩,.string ⟨#[]⟩,.bool false,.slice none 0 0] 114))
  have HE1:=Hh (qAK (r:=r) hba)
  have HV1:=Hh (HEW.out.below hba)
  clear hl hba hE hV hr
  go_enter Tryz.func75,Tryz.ntmps75
  go_upto_region 2 with fail
  generalize w.alloc (.cells #[.string ⟨#[]⟩,.string ⟨#[]⟩,.bool false,.slice none 0 0] 114)=w1 at *
  have z0:=ce0 HZ1.out
  have z1:=ce1 HZ1.out
  have z2:=ce2 HZ1.out
  have z3:=ce3 HZ1.out
  have f0:w1.frozen? ⟨w.heap.size,0,none⟩=false:=qAb HZ1.out 0
  have f1:w1.frozen? ⟨w.heap.size,1,none⟩=false:=qAb HZ1.out 1
  have f2:w1.frozen? ⟨w.heap.size,2,none⟩=false:=qAb HZ1.out 2
  have f3:w1.frozen? ⟨w.heap.size,3,none⟩=false:=qAb HZ1.out 3
  have hg:w1.cell? ⟨0,0,none⟩=some (.iface 377 (.pointer (some (p 2)))):=HV1.out.errs.cell 2 (by decide) (by decide)
  have hgne:w.heap.size≠0:=by
   have h0:=lt_of_cell (HEW.out.errs.cell 2 (by decide) (by decide))
   simp [qCq] at h0
   omega
  have hgne':0≠w.heap.size:=hgne.symm
  go_region
  have HF:=Hh (show ((((w1.setCell ⟨w.heap.size,0,none⟩ (.string ⟨#[]⟩)).setCell ⟨w.heap.size,1,none⟩ (.string ⟨#[]⟩)).setCell ⟨w.heap.size,2,none⟩ (.bool false)).setCell ⟨w.heap.size,3,none⟩ (.slice none 0 0)).drew.heap[w.heap.size]?=some (.cells #[.string ⟨#[]⟩,.string ⟨#[]⟩,.bool false,.slice none 0 0] 114 (0,0)) from (qAd (qAd (qAd (qAd HZ1.out 0 (.string ⟨#[]⟩)) 1 (.string ⟨#[]⟩)) 2 (.bool false)) 3 (.slice none 0 0)))
  have HEF:=Hh ((((HE1.out.setCell (a:=⟨w.heap.size,0,none⟩) (fun h=>absurd h (zt w.heap.size)) (.string ⟨#[]⟩)).setCell (a:=⟨w.heap.size,1,none⟩) (fun h=>absurd h (zt w.heap.size)) (.string ⟨#[]⟩)).setCell (a:=⟨w.heap.size,2,none⟩) (fun h=>absurd h (zt w.heap.size)) (.bool false)).setCell (a:=⟨w.heap.size,3,none⟩) (fun h=>absurd h (zt w.heap.size)) (.slice none 0 0)).drew
  clear z0 z1 z2 z3 f0 f1 f2 f3 hg hgne hgne'
  go_wp2_with fail
  generalize ((((w1.setCell ⟨w.heap.size,0,none⟩ (.string ⟨#[]⟩)).setCell ⟨w.heap.size,1,none⟩ (.string ⟨#[]⟩)).setCell ⟨w.heap.size,2,none⟩ (.bool false)).setCell ⟨w.heap.size,3,none⟩ (.slice none 0 0)).drew=w9 at *
  have r0:=ce0 HF.out
  have r1:=ce1 HF.out
  have r2:=ce2 HF.out
  have r3:=ce3 HF.out
  refine zH1 (v:=.tuple #[.agg #[.string ⟨#[]⟩,.string ⟨#[]⟩,.bool false,.slice none 0 0],.iface 377 (.pointer (some (p 2)))]) ?_ rfl ⟨HEF.out.below (zq _) (fun b hb=>by rw [qAR (by omega)];rfl),?_⟩
  ·simp [results,Tryz.results75,go_sem,r0,r1,r2,r3]
  ·rw [HX.out]
   exact ⟨_,_,_,_,_,_,_,rfl,(qAc p (by decide)).symm,by decide⟩
 have i1:¬ (20000:Int)<(s.length:Int):=by omega
 have hl2:s.length≤20000:=by omega
 have HL:=Hh hl
 have hbb:Below w.heap.size w ((w.alloc (.cells #[.string ⟨#[]⟩,.string ⟨#[]⟩,.bool false,.slice none 0 0] 114)).alloc (.cells #[.string ⟨s.toArray⟩,.int .i64 0] 210)):=hba.alloc (by simp) _
 have HZ1:=Hh (qAj (w.alloc (.cells #[.string ⟨#[]⟩,.string ⟨#[]⟩,.bool false,.slice none 0 0] 114)) (.cells #[.string ⟨s.toArray⟩,.int .i64 0] 210) (zK1 w (.cells #[.string ⟨#[]⟩,.string ⟨#[]⟩,.bool false,.slice none 0 0] 114)))
 have HR1:=Hh (show RdAt ((w.alloc (.cells #[.string ⟨#[]⟩,.string ⟨#[]⟩,.bool false,.slice none 0 0] 114)).alloc (.cells #[.string ⟨s.toArray⟩,.int .i64 0] 210)) r s 0 from by
  have:=zK1 (w.alloc (.cells #[.string ⟨#[]⟩,.string ⟨#[]⟩,.bool false,.slice none 0 0] 114)) (.cells #[.string ⟨s.toArray⟩,.int .i64 0] 210)
  rw [hr]
  simpa [RdAt] using this)
 have HE1:=Hh (qAK (r:=r) hbb)
 have HV1:=Hh (HEW.out.below hbb)
 have HND:=Hh (qKQ (p:=p) 9 0 (by rfl) r s 0 _ HR1.out HV1.out hl2 (by omega))
 have hsz1:((w.alloc (.cells #[.string ⟨#[]⟩,.string ⟨#[]⟩,.bool false,.slice none 0 0] 114)).alloc (.cells #[.string ⟨s.toArray⟩,.int .i64 0] 210)).heap.size=w.heap.size+2:=by simp
 have hr3:w.heap.size+1=r:=hr.symm
 clear hl hba hbb hE hV hl2 hr
 go_enter Tryz.func75,Tryz.ntmps75
 go_upto_region 4 with fail
 try rw [hr3]
 generalize (w.alloc (.cells #[.string ⟨#[]⟩,.string ⟨#[]⟩,.bool false,.slice none 0 0] 114)).alloc (.cells #[.string ⟨s.toArray⟩,.int .i64 0] 210)=w1 at *
 have HS1:=Hh hsz1
 clear hsz1 hr3
 go_upto_region 5 with (go_at_call 124;refine HND.out.mono ?_;rintro ev w2 ⟨he2,a0,a1,a2,A5,m5,cp5,er,rfl,hm⟩;have HE2:=Hh he2;have HM:=Hh hm;clear he2 hm)
 have hz2:=HE2.out.size
 have hb3:=(zB w2.heap.size w2).alloc (zq _) (.cells #[.string a0,.string a1,.bool a2,.slice A5 m5 cp5] 114)
 have HB3:=Hh hb3
 have HE3:=Hh ((HE1.out.trans HE2.out).trans (qAK hb3))
 have HV3:=Hh ((HV1.out.ext HE2.out).below hb3)
 have HZ3:=Hh ((hb3.block _ (by have:=HS1.out;omega)).trans (HE2.out.kept HZ1.out (qAR (by omega)) rfl).1)
 have H53:=Hh (zK1 w2 (.cells #[.string a0,.string a1,.bool a2,.slice A5 m5 cp5] 114))
 have hb5:w.heap.size+2≤w2.heap.size:=by have:=HS1.out;omega
 have hr5:r<w2.heap.size:=by have:=HRR.out;omega
 have HS3:=Hh (show (w2.alloc (.cells #[.string a0,.string a1,.bool a2,.slice A5 m5 cp5] 114)).heap.size=w2.heap.size+1 by simp)
 clear hb3 hz2
 generalize w2.alloc (.cells #[.string a0,.string a1,.bool a2,.slice A5 m5 cp5] 114)=w3 at *
 generalize hb:w2.heap.size=b5 at *
 have HB5:=Hh hb
 clear hb
 cases hrd:qAL 9 s 0 with
 | error cd =>
  have HX:=Hh (show qBe s=.error cd by unfold qBe;rw [zL1 HL.out,hrd])
  have hm:=HM.out
  rw [hrd] at hm
  obtain ⟨rfl,hcd⟩:=hm
  have HCD:=Hh hcd
  have HEO:=Hh (qAc p hcd)
  rw [HEO.out]
  clear hrd hcd HM
  have z0:=ce0 HZ3.out
  have z1:=ce1 HZ3.out
  have z2:=ce2 HZ3.out
  have z3:=ce3 HZ3.out
  have f0:w3.frozen? ⟨w.heap.size,0,none⟩=false:=qAb HZ3.out 0
  have f1:w3.frozen? ⟨w.heap.size,1,none⟩=false:=qAb HZ3.out 1
  have f2:w3.frozen? ⟨w.heap.size,2,none⟩=false:=qAb HZ3.out 2
  have f3:w3.frozen? ⟨w.heap.size,3,none⟩=false:=qAb HZ3.out 3
  go_wp2_with fail
  have HF:=Hh (show ((((w3.setCell ⟨w.heap.size,0,none⟩ (.string ⟨#[]⟩)).setCell ⟨w.heap.size,1,none⟩ (.string ⟨#[]⟩)).setCell ⟨w.heap.size,2,none⟩ (.bool false)).setCell ⟨w.heap.size,3,none⟩ (.slice none 0 0)).heap[w.heap.size]?=some (.cells #[.string ⟨#[]⟩,.string ⟨#[]⟩,.bool false,.slice none 0 0] 114 (0,0)) from (qAd (qAd (qAd (qAd HZ3.out 0 (.string ⟨#[]⟩)) 1 (.string ⟨#[]⟩)) 2 (.bool false)) 3 (.slice none 0 0)))
  have HEF:=Hh ((((HE3.out.setCell (a:=⟨w.heap.size,0,none⟩) (fun h=>absurd h (zt w.heap.size)) (.string ⟨#[]⟩)).setCell (a:=⟨w.heap.size,1,none⟩) (fun h=>absurd h (zt w.heap.size)) (.string ⟨#[]⟩)).setCell (a:=⟨w.heap.size,2,none⟩) (fun h=>absurd h (zt w.heap.size)) (.bool false)).setCell (a:=⟨w.heap.size,3,none⟩) (fun h=>absurd h (zt w.heap.size)) (.slice none 0 0))
  clear z0 z1 z2 z3 f0 f1 f2 f3
  generalize ((((w3.setCell ⟨w.heap.size,0,none⟩ (.string ⟨#[]⟩)).setCell ⟨w.heap.size,1,none⟩ (.string ⟨#[]⟩)).setCell ⟨w.heap.size,2,none⟩ (.bool false)).setCell ⟨w.heap.size,3,none⟩ (.slice none 0 0))=w9 at *
  have r0:=ce0 HF.out
  have r1:=ce1 HF.out
  have r2:=ce2 HF.out
  have r3:=ce3 HF.out
  refine zH1 (v:=.tuple #[.agg #[.string ⟨#[]⟩,.string ⟨#[]⟩,.bool false,.slice none 0 0],.iface 377 (.pointer (some (p cd)))]) ?_ rfl ⟨HEF.out.below (zq _) (fun b hb=>by rw [qAR (by omega)];rfl),?_⟩
  ·simp [results,Tryz.results75,go_sem,r0,r1,r2,r3]
  ·rw [HX.out]
   exact ⟨_,_,_,_,_,_,_,rfl,HEO.out.symm,HCD.out⟩
 | ok q =>
  obtain ⟨nd,s',n'⟩:=q
  have HX1:=Hh (show qBe s=if s'≠[] then .error 1 else if treeErr nd=0 then .ok nd else .error (treeErr nd) by unfold qBe;rw [zL1 HL.out,hrd])
  have hm:=HM.out
  rw [hrd] at hm
  obtain ⟨rfl,hr2,hn2⟩:=hm
  have HR3:=Hh (show RdAt w3 r s' n' from (HB3.out.block r hr5).trans hr2)
  have HN3:=Hh (NodeP.go (Q:=fun b=>w.heap.size+2≤b) HB3.out.size (fun b hb hp=>⟨HB3.out.block b (by have:=HB5.out;omega),by have:=HS1.out;omega⟩) _ _ hn2)
  have c0:=ce0 HR3.out
  clear hrd hn2 hr2 HM
  by_cases hs':s'=[]
  case neg =>
   have HX:=Hh (show qBe s=.error 1 from HX1.out.trans (by rw [zM1 hs']))
   have hne:(s'==[])=false:=by simpa using hs'
   have hne2:(s' != [])=true:=by simpa using hs'
   clear hs'
   have z0:=ce0 HZ3.out
   have z1:=ce1 HZ3.out
   have z2:=ce2 HZ3.out
   have z3:=ce3 HZ3.out
   have f0:w3.frozen? ⟨w.heap.size,0,none⟩=false:=qAb HZ3.out 0
   have f1:w3.frozen? ⟨w.heap.size,1,none⟩=false:=qAb HZ3.out 1
   have f2:w3.frozen? ⟨w.heap.size,2,none⟩=false:=qAb HZ3.out 2
   have f3:w3.frozen? ⟨w.heap.size,3,none⟩=false:=qAb HZ3.out 3
   have hg:w3.cell? ⟨3,0,none⟩=some (.iface 377 (.pointer (some (p 1)))):=HV3.out.errs.cell 1 (by decide) (by decide)
   have hgne:w.heap.size≠3:=by
    have h0:=lt_of_cell (HEW.out.errs.cell 1 (by decide) (by decide))
    simp [qCq] at h0
    omega
   have hgne':3≠w.heap.size:=hgne.symm
   have HEO:=Hh (qAc p (show 1≠0 by decide))
   go_wp2_with fail
   have HF:=Hh (show ((((w3.setCell ⟨w.heap.size,0,none⟩ (.string ⟨#[]⟩)).setCell ⟨w.heap.size,1,none⟩ (.string ⟨#[]⟩)).setCell ⟨w.heap.size,2,none⟩ (.bool false)).setCell ⟨w.heap.size,3,none⟩ (.slice none 0 0)).heap[w.heap.size]?=some (.cells #[.string ⟨#[]⟩,.string ⟨#[]⟩,.bool false,.slice none 0 0] 114 (0,0)) from (qAd (qAd (qAd (qAd HZ3.out 0 (.string ⟨#[]⟩)) 1 (.string ⟨#[]⟩)) 2 (.bool false)) 3 (.slice none 0 0)))
   have HEF:=Hh ((((HE3.out.setCell (a:=⟨w.heap.size,0,none⟩) (fun h=>absurd h (zt w.heap.size)) (.string ⟨#[]⟩)).setCell (a:=⟨w.heap.size,1,none⟩) (fun h=>absurd h (zt w.heap.size)) (.string ⟨#[]⟩)).setCell (a:=⟨w.heap.size,2,none⟩) (fun h=>absurd h (zt w.heap.size)) (.bool false)).setCell (a:=⟨w.heap.size,3,none⟩) (fun h=>absurd h (zt w.heap.size)) (.slice none 0 0))
   clear z0 z1 z2 z3 f0 f1 f2 f3 hg hgne hgne'
   generalize ((((w3.setCell ⟨w.heap.size,0,none⟩ (.string ⟨#[]⟩)).setCell ⟨w.heap.size,1,none⟩ (.string ⟨#[]⟩)).setCell ⟨w.heap.size,2,none⟩ (.bool false)).setCell ⟨w.heap.size,3,none⟩ (.slice none 0 0))=w9 at *
   have r0:=ce0 HF.out
   have r1:=ce1 HF.out
   have r2:=ce2 HF.out
   have r3:=ce3 HF.out
   refine zH1 (v:=.tuple #[.agg #[.string ⟨#[]⟩,.string ⟨#[]⟩,.bool false,.slice none 0 0],.iface 377 (.pointer (some (p 1)))]) ?_ rfl ⟨HEF.out.below (zq _) (fun b hb=>by rw [qAR (by omega)];rfl),?_⟩
   ·simp [results,Tryz.results75,go_sem,r0,r1,r2,r3]
   ·rw [HX.out]
    exact ⟨_,_,_,_,_,_,_,rfl,HEO.out.symm,by decide⟩
  case pos =>
   subst hs'
   have HCK:=Hh (qDi p nd _ w3 HV3.out.errs HN3.out.at)
   have hne:(([]:List UInt8)==[])=true:=rfl
   have y0:=ce0 H53.out
   have y1:=ce1 H53.out
   have y2:=ce2 H53.out
   have y3:=ce3 H53.out
   obtain ⟨te,hte⟩:∃ te,te=treeErr nd:=⟨_,rfl⟩
   rw [← hte] at HCK
   have HTE:=Hh hte
   clear hte
   go_upto_region 9 with (go_at_call 125;refine HCK.out.mono ?_;rintro ev w4 ⟨rfl,hb4⟩;have HB4:=Hh hb4;clear hb4)
   have HZ4:=Hh ((HB4.out.block _ (qAa HZ3.out)).trans HZ3.out)
   have H54:=Hh ((HB4.out.block _ (qAa H53.out)).trans H53.out)
   have HE4:=Hh (HE3.out.trans (qAK HB4.out))
   have HN4:=Hh (NodeP.go (Q:=fun b=>w.heap.size+2≤b) HB4.out.size (fun b hb hp=>⟨HB4.out.block b hb,hp⟩) _ _ HN3.out)
   clear y0 y1 y2 y3 c0 hne
   by_cases h0:te=0
   ·subst h0
    rw [qDc]
    have HX:=Hh (show qBe s=.ok nd from HX1.out.trans (by rw [zL1 (by simp),zM1 HTE.out.symm]))
    have z0:=ce0 HZ4.out
    have z1:=ce1 HZ4.out
    have z2:=ce2 HZ4.out
    have z3:=ce3 HZ4.out
    have f0:w4.frozen? ⟨w.heap.size,0,none⟩=false:=qAb HZ4.out 0
    have f1:w4.frozen? ⟨w.heap.size,1,none⟩=false:=qAb HZ4.out 1
    have f2:w4.frozen? ⟨w.heap.size,2,none⟩=false:=qAb HZ4.out 2
    have f3:w4.frozen? ⟨w.heap.size,3,none⟩=false:=qAb HZ4.out 3
    have y0:=ce0 H54.out
    have y1:=ce1 H54.out
    have y2:=ce2 H54.out
    have y3:=ce3 H54.out
    go_wp2_with fail
    have HF:=Hh (show ((((w4.setCell ⟨w.heap.size,0,none⟩ (.string a0)).setCell ⟨w.heap.size,1,none⟩ (.string a1)).setCell ⟨w.heap.size,2,none⟩ (.bool a2)).setCell ⟨w.heap.size,3,none⟩ (.slice A5 m5 cp5)).heap[w.heap.size]?=some (.cells #[.string a0,.string a1,.bool a2,.slice A5 m5 cp5] 114 (0,0)) from (qAd (qAd (qAd (qAd HZ4.out 0 (.string a0)) 1 (.string a1)) 2 (.bool a2)) 3 (.slice A5 m5 cp5)))
    have HEF:=Hh ((((HE4.out.setCell (a:=⟨w.heap.size,0,none⟩) (fun h=>absurd h (zt w.heap.size)) (.string a0)).setCell (a:=⟨w.heap.size,1,none⟩) (fun h=>absurd h (zt w.heap.size)) (.string a1)).setCell (a:=⟨w.heap.size,2,none⟩) (fun h=>absurd h (zt w.heap.size)) (.bool a2)).setCell (a:=⟨w.heap.size,3,none⟩) (fun h=>absurd h (zt w.heap.size)) (.slice A5 m5 cp5))
    clear z0 z1 z2 z3 f0 f1 f2 f3 y0 y1 y2 y3
    have HPO:=Hh (show NodeP (fun b=>w.heap.size≤b) ((((w4.setCell ⟨w.heap.size,0,none⟩ (.string a0)).setCell ⟨w.heap.size,1,none⟩ (.string a1)).setCell ⟨w.heap.size,2,none⟩ (.bool a2)).setCell ⟨w.heap.size,3,none⟩ (.slice A5 m5 cp5)) nd [.string a0,.string a1,.bool a2,.slice A5 m5 cp5] from NodeP.go (zq _) (fun b _ hp=>⟨rfl,by omega⟩) _ _ (NodeP.set4 (x:=w.heap.size) (u0:=.string a0) (u1:=.string a1) (u2:=.bool a2) (u3:=.slice A5 m5 cp5) HN4.out (fun b hb=>by omega)))
    generalize ((((w4.setCell ⟨w.heap.size,0,none⟩ (.string a0)).setCell ⟨w.heap.size,1,none⟩ (.string a1)).setCell ⟨w.heap.size,2,none⟩ (.bool a2)).setCell ⟨w.heap.size,3,none⟩ (.slice A5 m5 cp5))=w9 at *
    have r0:=ce0 HF.out
    have r1:=ce1 HF.out
    have r2:=ce2 HF.out
    have r3:=ce3 HF.out
    refine zH1 (v:=.tuple #[.agg #[.string a0,.string a1,.bool a2,.slice A5 m5 cp5],.nilIface]) ?_ rfl ⟨HEF.out.below (zq _) (fun b hb=>by rw [qAR (by omega)];rfl),?_⟩
    ·simp [results,Tryz.results75,go_sem,r0,r1,r2,r3]
    ·rw [HX.out]
     exact ⟨_,_,_,_,_,_,_,rfl,rfl,HPO.out⟩
   ·have HX:=Hh (show qBe s=.error te from HX1.out.trans (by rw [zL1 (by simp),zL1 (by rw [← HTE.out];exact h0),HTE.out]))
    have HEO:=Hh (qAc p h0)
    have HH0:=Hh h0
    rw [HEO.out]
    clear h0
    have z0:=ce0 HZ4.out
    have z1:=ce1 HZ4.out
    have z2:=ce2 HZ4.out
    have z3:=ce3 HZ4.out
    have f0:w4.frozen? ⟨w.heap.size,0,none⟩=false:=qAb HZ4.out 0
    have f1:w4.frozen? ⟨w.heap.size,1,none⟩=false:=qAb HZ4.out 1
    have f2:w4.frozen? ⟨w.heap.size,2,none⟩=false:=qAb HZ4.out 2
    have f3:w4.frozen? ⟨w.heap.size,3,none⟩=false:=qAb HZ4.out 3
    go_wp2_with fail
    have HF:=Hh (show ((((w4.setCell ⟨w.heap.size,0,none⟩ (.string ⟨#[]⟩)).setCell ⟨w.heap.size,1,none⟩ (.string ⟨#[]⟩)).setCell ⟨w.heap.size,2,none⟩ (.bool false)).setCell ⟨w.heap.size,3,none⟩ (.slice none 0 0)).heap[w.heap.size]?=some (.cells #[.string ⟨#[]⟩,.string ⟨#[]⟩,.bool false,.slice none 0 0] 114 (0,0)) from (qAd (qAd (qAd (qAd HZ4.out 0 (.string ⟨#[]⟩)) 1 (.string ⟨#[]⟩)) 2 (.bool false)) 3 (.slice none 0 0)))
    have HEF:=Hh ((((HE4.out.setCell (a:=⟨w.heap.size,0,none⟩) (fun h=>absurd h (zt w.heap.size)) (.string ⟨#[]⟩)).setCell (a:=⟨w.heap.size,1,none⟩) (fun h=>absurd h (zt w.heap.size)) (.string ⟨#[]⟩)).setCell (a:=⟨w.heap.size,2,none⟩) (fun h=>absurd h (zt w.heap.size)) (.bool false)).setCell (a:=⟨w.heap.size,3,none⟩) (fun h=>absurd h (zt w.heap.size)) (.slice none 0 0))
    clear z0 z1 z2 z3 f0 f1 f2 f3
    generalize ((((w4.setCell ⟨w.heap.size,0,none⟩ (.string ⟨#[]⟩)).setCell ⟨w.heap.size,1,none⟩ (.string ⟨#[]⟩)).setCell ⟨w.heap.size,2,none⟩ (.bool false)).setCell ⟨w.heap.size,3,none⟩ (.slice none 0 0))=w9 at *
    have r0:=ce0 HF.out
    have r1:=ce1 HF.out
    have r2:=ce2 HF.out
    have r3:=ce3 HF.out
    refine zH1 (v:=.tuple #[.agg #[.string ⟨#[]⟩,.string ⟨#[]⟩,.bool false,.slice none 0 0],.iface 377 (.pointer (some (p te)))]) ?_ rfl ⟨HEF.out.below (zq _) (fun b hb=>by rw [qAR (by omega)];rfl),?_⟩
    ·simp [results,Tryz.results75,go_sem,r0,r1,r2,r3]
    ·rw [HX.out]
     exact ⟨_,_,_,_,_,_,_,rfl,HEO.out.symm,HH0.out⟩
end
end Go.Proofs.YtceklhjomhjipaaGreatDoor
