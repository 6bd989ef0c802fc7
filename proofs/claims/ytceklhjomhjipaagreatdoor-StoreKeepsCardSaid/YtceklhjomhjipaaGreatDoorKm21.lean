/- Texts of this claim, merged: Bare, DRead. -/
import Derived.LoopIn
import Derived.LoopNIn
import Derived.RangeFuncBound
import Derived.RangeFuncBox
import Derived.RangeFuncCalls
import Derived.RangeFuncLeaves
import Derived.RangeFuncNested
import Derived.Shelf.Abstract
import Derived.Shelf.RegionOpen
import Derived.Test.YtceklhjomhjipaaGreatDoorKm20
set_option maxHeartbeats 16000000
set_option maxRecDepth 1000000
set_option linter.all false
namespace Go.Proofs.YtceklhjomhjipaaGreatDoor
open Go.RowKit Go.Sort Go.Shelf Stl
theorem qFb:∀ ks:List (List UInt8×Nd),qAC ks=ks.map fun q=>(q.1,qAo q.2)
 | []=>rfl
 | (nm,x)::r=>by rw [qAC,qFb r];rfl
theorem qKJ:∀ (N:Nat) (n:Nd) (vs:List Value) (P:Nat→Prop) (w:World),Stl.wt n≤N→NodeP P w n vs →
  Calls Tryz.prog 134 #[.agg vs.toArray] w fun e w'=>∃ us,e=.returned (.agg us.toArray)∧NodeP (fun b=>P b∨w.heap.size≤b) w' (qAo n) us∧Below w.heap.size w w'
 | 0,n,vs,P,w,hN,_=>by obtain ⟨k,d,e,ks⟩:=n;simp [Stl.wt] at hN
 | N+1,.mk k d e ks,vs,P,w,hN,h=>by
  have IH:=Hh (qKJ N)
  obtain ⟨A,cap,rfl⟩:=h.open
  have HM:=Hh (show Stl.wtL ks≤N by simp only [Stl.wt] at hN;omega)
  have hb1:Below w.heap.size w ((w.alloc (.cells #[.string ⟨k.toArray⟩,.string ⟨d.toArray⟩,.bool e,.slice A ks.length cap] 114)).alloc (.cells #[.string ⟨#[]⟩,.string ⟨#[]⟩,.bool false,.slice none 0 0] 114)):=((zB _ w).alloc (zq _) _).alloc (by simp) _
  have HCL:=Hh (qEf h _ hb1)
  have hsz:((w.alloc (.cells #[.string ⟨k.toArray⟩,.string ⟨d.toArray⟩,.bool e,.slice A ks.length cap] 114)).alloc (.cells #[.string ⟨#[]⟩,.string ⟨#[]⟩,.bool false,.slice none 0 0] 114)).heap.size=w.heap.size+2:=by simp
  have hx0:=qAj (w.alloc (.cells #[.string ⟨k.toArray⟩,.string ⟨d.toArray⟩,.bool e,.slice A ks.length cap] 114)) (.cells #[.string ⟨#[]⟩,.string ⟨#[]⟩,.bool false,.slice none 0 0] 114) (zK1 w (.cells #[.string ⟨k.toArray⟩,.string ⟨d.toArray⟩,.bool e,.slice A ks.length cap] 114))
  have hx1:=zK1 (w.alloc (.cells #[.string ⟨k.toArray⟩,.string ⟨d.toArray⟩,.bool e,.slice A ks.length cap] 114)) (.cells #[.string ⟨#[]⟩,.string ⟨#[]⟩,.bool false,.slice none 0 0] 114)
  rw [show (w.alloc (.cells #[.string ⟨k.toArray⟩,.string ⟨d.toArray⟩,.bool e,.slice A ks.length cap] 114)).heap.size=w.heap.size+1 by simp] at hx1
  have HND:=Hh h
  have HBD:=Hh (show ks.length≤1759218604441∧k.length≤140737488355328∧d.length≤140737488355328 by
   unfold NodeP at h
   obtain ⟨_,_,_,h2,_⟩:=h
   exact ⟨h2.2.1,h2.2.2.1,h2.2.2.2⟩)
  have HB1:=Hh hb1
  have HX0:=Hh hx0
  have HX1:=Hh hx1
  have HSZ:=Hh hsz
  have hks:=HBD.out.1
  clear hx0 hx1 hsz hb1 hN
  go_enter Tryz.func134,Tryz.ntmps134
  go_upto_region 1 with fail
  clear h
  generalize (w.alloc (.cells #[.string ⟨k.toArray⟩,.string ⟨d.toArray⟩,.bool e,.slice A ks.length cap] 114)).alloc (.cells #[.string ⟨#[]⟩,.string ⟨#[]⟩,.bool false,.slice none 0 0] 114)=w1 at *
  have q0:w1.cell? ⟨w.heap.size,0,none⟩=some (.string ⟨k.toArray⟩):=zJ1 w1 _ 0 _ _ _ HX0.out
  have HBK:=Hh (show qAo (.mk k d e ks)=.mk k (if k=kFile then [] else d) e (ks.map fun q=>(q.1,qAo q.2)) by rw [qAo,qFb])
  rcases (show (k=kFile∧(k==[102,105,108,101])=true)∨(k≠kFile∧(k==[102,105,108,101])=false) from by
   by_cases h:k=kFile
   ·exact .inl ⟨h,by subst h;decide⟩
   ·exact .inr ⟨h,by simpa [kFile] using h⟩) with ⟨hk,hk'⟩ | ⟨hk,hk'⟩
  ·have q1:w1.cell? ⟨w.heap.size,1,none⟩=some (.string ⟨d.toArray⟩):=zJ1 w1 _ 1 _ _ _ HX0.out
   have f1:=qAb HX0.out 1
   go_upto_region 3 with fail
   replace HB1:=Hh (HB1.out.setCell (p:=⟨w.heap.size,1,none⟩) (zq _) (.string ⟨#[]⟩))
   replace HCL:=Hh (qEf HND.out _ HB1.out)
   replace HX0:=Hh (qAd HX0.out 1 (.string ⟨#[]⟩))
   replace HX1:=Hh ((zA w1 ⟨w.heap.size,1,none⟩ (.string ⟨#[]⟩) (w.heap.size+1) (by simp)).trans HX1.out)
   replace HSZ:=Hh (show (w1.setCell ⟨w.heap.size,1,none⟩ (.string ⟨#[]⟩)).heap.size=w.heap.size+2 by simpa [World.setCell] using HSZ.out)
   rw [zM1 hk] at HBK
   clear q0 q1 f1
   generalize w1.setCell ⟨w.heap.size,1,none⟩ (.string ⟨#[]⟩)=w1 at *
   obtain ⟨d',hd'⟩:∃ d':List UInt8,[]=d':=⟨_,rfl⟩
   rw [show (#[]:Array UInt8)=d'.toArray by rw [← hd']] at HX0
   rw [hd'] at HBK
   have hdl:d'.length≤140737488355328:=by rw [← hd'];simp
   clear hd' hk
   have q3:w1.cell? ⟨w.heap.size,3,none⟩=some (.slice A ks.length cap):=zJ1 w1 _ 3 _ _ _ HX0.out
   go_upto_region 4 with (go_at_call 161;refine HCL.out.mono ?_;rintro ev w2 ⟨A2,cap2,xs,rfl,hown,hks2,hb2⟩;have hx2:=(hb2.block _ (qAa HX0.out)).trans HX0.out;have g3:=zJ1 w2 _ 3 _ _ _ hx2;have f3:=qAb hx2 3;have HOWN:=Hh hown;have HKS:=Hh hks2;have HB2:=Hh hb2;have HX2:=Hh hx2;clear hown hb2 hx2 hks2)
   have hM0:MapSt P (fun q=>qAo q.2) ks w.heap.size w 2 [.cells #[.string ⟨k.toArray⟩,.string ⟨d'.toArray⟩,.bool e,.slice A2 ks.length cap2] 114 (0,0),.cells #[.string ⟨#[]⟩,.string ⟨#[]⟩,.bool false,.slice none 0 0] 114 (0,0)] A2 cap2 0 (w2.setCell ⟨w.heap.size,3,none⟩ (.slice A2 ks.length cap2)):=by
    have hno:(Value.slice A2 ks.length cap2).ownBlock≠some w.heap.size:=fun e=>by have:=(HOWN.out.lt _ e).1;have:=HSZ.out;omega
    have hw1:=qAa HX1.out
    have hbel:Below w.heap.size w w2:=HB1.out.trans (HB2.out.mono (by have:=HSZ.out;omega))
    refine ⟨hbel.setCell (p:=⟨w.heap.size,3,none⟩) (zq _) _,rfl,rfl,qRw (qAd HX2.out 3 _) ?_,xs,?_,?_⟩
    ·rw [zA w2 ⟨w.heap.size,3,none⟩ _ (w.heap.size+1) (by simp)]
     exact (HB2.out.block _ hw1).trans HX1.out
    ·rw [← HSZ.out]
     exact zO1 HOWN.out (a:=⟨w.heap.size,3,none⟩) hno _
    ·rw [List.take_zero,List.map_nil,zi,List.drop_zero]
     refine KidsCells.go (w:=w) (by simp [World.setCell];exact hbel.size) (fun b hb hp=>⟨?_,.inl ⟨hp,hb⟩⟩) _ _ HKS.out
     rw [zA w2 ⟨w.heap.size,3,none⟩ _ b (by simp;omega)]
     exact hbel.block b hb
   have HM0:=Hh hM0
   clear hM0 q3 g3 f3
   generalize w2.setCell ⟨w.heap.size,3,none⟩ (.slice A2 ks.length cap2)=w3 at *
   have q3:w3.cell? ⟨w.heap.size,3,none⟩=some (.slice A2 ks.length cap2):=zJ1 w3 _ 3 _ _ _ (HM0.out.fix 0 _ rfl)
   go_upto_region 5 with fail
   go_loopw [15] (fun a wr=>∃ (j:Nat),j≤ks.length∧a=.int .i64 j∧Hid (MapSt P (fun q=>qAo q.2) ks w.heap.size w 2 [.cells #[.string ⟨k.toArray⟩,.string ⟨d'.toArray⟩,.bool e,.slice A2 ks.length cap2] 114 (0,0),.cells #[.string ⟨#[]⟩,.string ⟨#[]⟩,.bool false,.slice none 0 0] 114 (0,0)] A2 cap2 j wr)) (fun a _=>ks.length-(intOf a).toNat)
   case atStart=>exact ⟨0,zx _,rfl,HM0⟩
   case round =>
    obtain ⟨j,hj,rfl,HMJ⟩:=hrel
    clear q3
    have q0:wr.cell? ⟨w.heap.size,0,none⟩=some (.string ⟨k.toArray⟩):=zJ1 wr _ 0 _ _ _ (HMJ.out.fix 0 _ rfl)
    have q1:wr.cell? ⟨w.heap.size,1,none⟩=some (.string ⟨d'.toArray⟩):=zJ1 wr _ 1 _ _ _ (HMJ.out.fix 0 _ rfl)
    have q2:wr.cell? ⟨w.heap.size,2,none⟩=some (.bool e):=zJ1 wr _ 2 _ _ _ (HMJ.out.fix 0 _ rfl)
    have q3:wr.cell? ⟨w.heap.size,3,none⟩=some (.slice A2 ks.length cap2):=zJ1 wr _ 3 _ _ _ (HMJ.out.fix 0 _ rfl)
    by_cases hjl:j<ks.length
    ·have i4:(j:Int)<(ks.length:Int):=by omega
     have i5:(0:Int)≤(j:Int):=by omega
     obtain ⟨g,a,b,v0,v1,v2,v3,rfl,hg,hal,hr,hnl,hn,-,-,k0,k1,k2,k3,k4⟩:=HMJ.out.kid hjl
     have HW:=Hh (zr (Stl.wt_mem ks j hjl) HM.out)
     have HN:=Hh hn
     have hih:=IH.out ks[j].2 [v0,v1,v2,v3] _ wr.drew HW.out (NodeP.go (w:=wr) (w':=wr.drew) (zq _) (fun b _ hp=>⟨rfl,hp⟩) _ _ HN.out)
     have HIH:=Hh hih
     have HJL:=Hh hjl
     have HR:=Hh hr
     have hgne:g≠w.heap.size:=by omega
     have hbx:=qAa (HMJ.out.fix 0 _ rfl)
     have hgl:=(HR.out.lt g rfl).2
     rw [show 5*j+1=j*5+1 by omega] at k1
     rw [show 5*j+2=j*5+1+1 by omega] at k2
     rw [show 5*j+3=j*5+1+2 by omega] at k3
     rw [show 5*j+4=j*5+1+3 by omega] at k4
     have HKP:=Hh (fun (W:World) (hW':Below wr.drew.heap.size wr.drew W)=>show (W.cell? ⟨w.heap.size,3,none⟩=some (.slice (some ⟨g,0,none⟩) ks.length cap2)∧W.cell? ⟨g,j*5+1,none⟩=some v0∧W.cell? ⟨g,j*5+1+1,none⟩=some v1∧W.cell? ⟨g,j*5+1+2,none⟩=some v2∧W.cell? ⟨g,j*5+1+3,none⟩=some v3)∧W.frozen? ⟨g,j*5+1,none⟩=false∧W.frozen? ⟨g,j*5+1+1,none⟩=false∧W.frozen? ⟨g,j*5+1+2,none⟩=false∧W.frozen? ⟨g,j*5+1+3,none⟩=false from
      have hW:Below wr.heap.size wr W:=⟨hW'.os,hW'.tape,hW'.output,hW'.size,hW'.block⟩
      ⟨⟨(hW.cell (p:=⟨w.heap.size,3,none⟩) hbx).trans q3,(hW.cell (p:=⟨g,j*5+1,none⟩) hgl).trans k1,(hW.cell (p:=⟨g,j*5+1+1,none⟩) hgl).trans k2,(hW.cell (p:=⟨g,j*5+1+2,none⟩) hgl).trans k3,(hW.cell (p:=⟨g,j*5+1+3,none⟩) hgl).trans k4⟩,
       (zE1 (hW.block g hgl)).trans (HR.out.frozenAt _),(zE1 (hW.block g hgl)).trans (HR.out.frozenAt _),(zE1 (hW.block g hgl)).trans (HR.out.frozenAt _),(zE1 (hW.block g hgl)).trans (HR.out.frozenAt _)⟩)
     clear hn hr hih
     go_upto_region 7 with fail
     go_region_law
      (first
       | (go_simp;go_at_call 134;with_reducible refine HIH.out.mono ?_;rintro ev w5 ⟨us,rfl,hn5,hb5⟩;obtain ⟨hS5,f1,f2,f3,f4⟩:=HKP.out w5 hb5;have k0w:=hS5.1;have k1w:=hS5.2.1;have k2w:=hS5.2.2.1;have k3w:=hS5.2.2.2.1;have k4w:=hS5.2.2.2.2;obtain ⟨u0,u1,u2,u3,u3m,u3c,rfl⟩:=qDs hn5)
       | fail)
     all_goals
      have hMJ:MapSt P (fun q=>qAo q.2) ks w.heap.size w 2 [.cells #[.string ⟨k.toArray⟩,.string ⟨d'.toArray⟩,.bool e,.slice (some ⟨g,0,none⟩) ks.length cap2] 114 (0,0),.cells #[.string ⟨#[]⟩,.string ⟨#[]⟩,.bool false,.slice none 0 0] 114 (0,0)] (some ⟨g,0,none⟩) cap2 (j+1) _:=HMJ.out.step HJL.out ⟨hb5.os,hb5.tape,hb5.output,hb5.size,hb5.block⟩ hn5
      rw [show 5*j+1=j*5+1 by omega,show 5*j+2=j*5+1+1 by omega,show 5*j+3=j*5+1+2 by omega,show 5*j+4=j*5+1+3 by omega] at hMJ
      have HMJ':=Hh hMJ
      clear hMJ f1 f2 f3 f4 hS5 k0 k1 k2 k3 k4 k1w k2w k3w k4w k0w hb5 hn5 q0 q1 q2 q3
      go_wp2
      go_roundw
      case rel=>exact ⟨j+1,hjl,by go_num,HMJ'⟩
      case measure=>simp [intOf];omega
    ·have i4:¬ (j:Int)<(ks.length:Int):=by omega
     have hje:j=ks.length:=by omega
     subst hje
     have q4:wr.cell? ⟨w.heap.size+1,0,none⟩=some (.string ⟨#[]⟩):=zJ1 wr _ 0 _ _ _ (HMJ.out.fix 1 _ rfl)
     have q5:wr.cell? ⟨w.heap.size+1,1,none⟩=some (.string ⟨#[]⟩):=zJ1 wr _ 1 _ _ _ (HMJ.out.fix 1 _ rfl)
     have q6:wr.cell? ⟨w.heap.size+1,2,none⟩=some (.bool false):=zJ1 wr _ 2 _ _ _ (HMJ.out.fix 1 _ rfl)
     have q7:wr.cell? ⟨w.heap.size+1,3,none⟩=some (.slice none 0 0):=zJ1 wr _ 3 _ _ _ (HMJ.out.fix 1 _ rfl)
     have f0:=qAb (HMJ.out.fix 1 _ rfl) 0
     have f1:=qAb (HMJ.out.fix 1 _ rfl) 1
     have f2:=qAb (HMJ.out.fix 1 _ rfl) 2
     have f3:=qAb (HMJ.out.fix 1 _ rfl) 3
     go_wp2_with fail
     have HF:=Hh (qAd (qAd (qAd (qAd (HMJ.out.fix 1 _ rfl) 0 (.string ⟨k.toArray⟩)) 1 (.string ⟨d'.toArray⟩)) 2 (.bool e)) 3 (.slice A2 ks.length cap2))
     have HT:=Hh (HMJ.out.told (e:=e) HBD.out.2.1 hdl HBD.out.1 (x:=w.heap.size+1) (by omega) (by omega) (.string ⟨k.toArray⟩) (.string ⟨d'.toArray⟩) (.bool e) (.slice A2 ks.length cap2))
     clear q0 q1 q2 q3 q4 q5 q6 q7 f0 f1 f2 f3
     generalize (((wr.setCell ⟨w.heap.size+1,0,none⟩ (.string ⟨k.toArray⟩)).setCell ⟨w.heap.size+1,1,none⟩ (.string ⟨d'.toArray⟩)).setCell ⟨w.heap.size+1,2,none⟩ (.bool e)).setCell ⟨w.heap.size+1,3,none⟩ (.slice A2 ks.length cap2)=w9 at *
     have r0:w9.cell? ⟨w.heap.size+1,0,none⟩=some (.string ⟨k.toArray⟩):=zJ1 w9 _ 0 _ _ _ HF.out
     have r1:w9.cell? ⟨w.heap.size+1,1,none⟩=some (.string ⟨d'.toArray⟩):=zJ1 w9 _ 1 _ _ _ HF.out
     have r2:w9.cell? ⟨w.heap.size+1,2,none⟩=some (.bool e):=zJ1 w9 _ 2 _ _ _ HF.out
     have r3:w9.cell? ⟨w.heap.size+1,3,none⟩=some (.slice A2 ks.length cap2):=zJ1 w9 _ 3 _ _ _ HF.out
     refine zH1 (v:=.agg #[.string ⟨k.toArray⟩,.string ⟨d'.toArray⟩,.bool e,.slice A2 ks.length cap2]) ?_ rfl ⟨[.string ⟨k.toArray⟩,.string ⟨d'.toArray⟩,.bool e,.slice A2 ks.length cap2],rfl,by rw [HBK.out];exact HT.out.1,HT.out.2⟩
     simp [results,Tryz.results134,go_sem,r0,r1,r2,r3]
  ·go_upto_region 3 with fail
   clear q0
   rw [zL1 hk] at HBK
   clear hk
   have hdl:=HBD.out.2.2
   obtain ⟨d',hd'⟩:∃ d':List UInt8,d=d':=⟨_,rfl⟩
   replace HBK:=Hh (show qAo (.mk k d e ks)=.mk k d' e (ks.map fun q=>(q.1,qAo q.2)) by rw [HBK.out,← hd'])
   rw [hd'] at HX0 hdl
   clear hd'
   have q3:w1.cell? ⟨w.heap.size,3,none⟩=some (.slice A ks.length cap):=zJ1 w1 _ 3 _ _ _ HX0.out
   go_upto_region 4 with (go_at_call 161;refine HCL.out.mono ?_;rintro ev w2 ⟨A2,cap2,xs,rfl,hown,hks2,hb2⟩;have hx2:=(hb2.block _ (qAa HX0.out)).trans HX0.out;have g3:=zJ1 w2 _ 3 _ _ _ hx2;have f3:=qAb hx2 3;have HOWN:=Hh hown;have HKS:=Hh hks2;have HB2:=Hh hb2;have HX2:=Hh hx2;clear hown hb2 hx2 hks2)
   have hM0:MapSt P (fun q=>qAo q.2) ks w.heap.size w 2 [.cells #[.string ⟨k.toArray⟩,.string ⟨d'.toArray⟩,.bool e,.slice A2 ks.length cap2] 114 (0,0),.cells #[.string ⟨#[]⟩,.string ⟨#[]⟩,.bool false,.slice none 0 0] 114 (0,0)] A2 cap2 0 (w2.setCell ⟨w.heap.size,3,none⟩ (.slice A2 ks.length cap2)):=by
    have hno:(Value.slice A2 ks.length cap2).ownBlock≠some w.heap.size:=fun e=>by have:=(HOWN.out.lt _ e).1;have:=HSZ.out;omega
    have hw1:=qAa HX1.out
    have hbel:Below w.heap.size w w2:=HB1.out.trans (HB2.out.mono (by have:=HSZ.out;omega))
    refine ⟨hbel.setCell (p:=⟨w.heap.size,3,none⟩) (zq _) _,rfl,rfl,qRw (qAd HX2.out 3 _) ?_,xs,?_,?_⟩
    ·rw [zA w2 ⟨w.heap.size,3,none⟩ _ (w.heap.size+1) (by simp)]
     exact (HB2.out.block _ hw1).trans HX1.out
    ·rw [← HSZ.out]
     exact zO1 HOWN.out (a:=⟨w.heap.size,3,none⟩) hno _
    ·rw [List.take_zero,List.map_nil,zi,List.drop_zero]
     refine KidsCells.go (w:=w) (by simp [World.setCell];exact hbel.size) (fun b hb hp=>⟨?_,.inl ⟨hp,hb⟩⟩) _ _ HKS.out
     rw [zA w2 ⟨w.heap.size,3,none⟩ _ b (by simp;omega)]
     exact hbel.block b hb
   have HM0:=Hh hM0
   clear hM0 q3 g3 f3
   generalize w2.setCell ⟨w.heap.size,3,none⟩ (.slice A2 ks.length cap2)=w3 at *
   have q3:w3.cell? ⟨w.heap.size,3,none⟩=some (.slice A2 ks.length cap2):=zJ1 w3 _ 3 _ _ _ (HM0.out.fix 0 _ rfl)
   go_upto_region 5 with fail
   go_loopw [15] (fun a wr=>∃ (j:Nat),j≤ks.length∧a=.int .i64 j∧Hid (MapSt P (fun q=>qAo q.2) ks w.heap.size w 2 [.cells #[.string ⟨k.toArray⟩,.string ⟨d'.toArray⟩,.bool e,.slice A2 ks.length cap2] 114 (0,0),.cells #[.string ⟨#[]⟩,.string ⟨#[]⟩,.bool false,.slice none 0 0] 114 (0,0)] A2 cap2 j wr)) (fun a _=>ks.length-(intOf a).toNat)
   case atStart=>exact ⟨0,zx _,rfl,HM0⟩
   case round =>
    obtain ⟨j,hj,rfl,HMJ⟩:=hrel
    clear q3
    have q0:wr.cell? ⟨w.heap.size,0,none⟩=some (.string ⟨k.toArray⟩):=zJ1 wr _ 0 _ _ _ (HMJ.out.fix 0 _ rfl)
    have q1:wr.cell? ⟨w.heap.size,1,none⟩=some (.string ⟨d'.toArray⟩):=zJ1 wr _ 1 _ _ _ (HMJ.out.fix 0 _ rfl)
    have q2:wr.cell? ⟨w.heap.size,2,none⟩=some (.bool e):=zJ1 wr _ 2 _ _ _ (HMJ.out.fix 0 _ rfl)
    have q3:wr.cell? ⟨w.heap.size,3,none⟩=some (.slice A2 ks.length cap2):=zJ1 wr _ 3 _ _ _ (HMJ.out.fix 0 _ rfl)
    by_cases hjl:j<ks.length
    ·have i4:(j:Int)<(ks.length:Int):=by omega
     have i5:(0:Int)≤(j:Int):=by omega
     obtain ⟨g,a,b,v0,v1,v2,v3,rfl,hg,hal,hr,hnl,hn,-,-,k0,k1,k2,k3,k4⟩:=HMJ.out.kid hjl
     have HW:=Hh (zr (Stl.wt_mem ks j hjl) HM.out)
     have HN:=Hh hn
     have hih:=IH.out ks[j].2 [v0,v1,v2,v3] _ wr.drew HW.out (NodeP.go (w:=wr) (w':=wr.drew) (zq _) (fun b _ hp=>⟨rfl,hp⟩) _ _ HN.out)
     have HIH:=Hh hih
     have HJL:=Hh hjl
     have HR:=Hh hr
     have hgne:g≠w.heap.size:=by omega
     have hbx:=qAa (HMJ.out.fix 0 _ rfl)
     have hgl:=(HR.out.lt g rfl).2
     rw [show 5*j+1=j*5+1 by omega] at k1
     rw [show 5*j+2=j*5+1+1 by omega] at k2
     rw [show 5*j+3=j*5+1+2 by omega] at k3
     rw [show 5*j+4=j*5+1+3 by omega] at k4
     have HKP:=Hh (fun (W:World) (hW':Below wr.drew.heap.size wr.drew W)=>show (W.cell? ⟨w.heap.size,3,none⟩=some (.slice (some ⟨g,0,none⟩) ks.length cap2)∧W.cell? ⟨g,j*5+1,none⟩=some v0∧W.cell? ⟨g,j*5+1+1,none⟩=some v1∧W.cell? ⟨g,j*5+1+2,none⟩=some v2∧W.cell? ⟨g,j*5+1+3,none⟩=some v3)∧W.frozen? ⟨g,j*5+1,none⟩=false∧W.frozen? ⟨g,j*5+1+1,none⟩=false∧W.frozen? ⟨g,j*5+1+2,none⟩=false∧W.frozen? ⟨g,j*5+1+3,none⟩=false from
      have hW:Below wr.heap.size wr W:=⟨hW'.os,hW'.tape,hW'.output,hW'.size,hW'.block⟩
      ⟨⟨(hW.cell (p:=⟨w.heap.size,3,none⟩) hbx).trans q3,(hW.cell (p:=⟨g,j*5+1,none⟩) hgl).trans k1,(hW.cell (p:=⟨g,j*5+1+1,none⟩) hgl).trans k2,(hW.cell (p:=⟨g,j*5+1+2,none⟩) hgl).trans k3,(hW.cell (p:=⟨g,j*5+1+3,none⟩) hgl).trans k4⟩,
       (zE1 (hW.block g hgl)).trans (HR.out.frozenAt _),(zE1 (hW.block g hgl)).trans (HR.out.frozenAt _),(zE1 (hW.block g hgl)).trans (HR.out.frozenAt _),(zE1 (hW.block g hgl)).trans (HR.out.frozenAt _)⟩)
     clear hn hr hih
     go_upto_region 7 with fail
     go_region_law
      (first
       | (go_simp;go_at_call 134;with_reducible refine HIH.out.mono ?_;rintro ev w5 ⟨us,rfl,hn5,hb5⟩;obtain ⟨hS5,f1,f2,f3,f4⟩:=HKP.out w5 hb5;have k0w:=hS5.1;have k1w:=hS5.2.1;have k2w:=hS5.2.2.1;have k3w:=hS5.2.2.2.1;have k4w:=hS5.2.2.2.2;obtain ⟨u0,u1,u2,u3,u3m,u3c,rfl⟩:=qDs hn5)
       | fail)
     all_goals
      have hMJ:MapSt P (fun q=>qAo q.2) ks w.heap.size w 2 [.cells #[.string ⟨k.toArray⟩,.string ⟨d'.toArray⟩,.bool e,.slice (some ⟨g,0,none⟩) ks.length cap2] 114 (0,0),.cells #[.string ⟨#[]⟩,.string ⟨#[]⟩,.bool false,.slice none 0 0] 114 (0,0)] (some ⟨g,0,none⟩) cap2 (j+1) _:=HMJ.out.step HJL.out ⟨hb5.os,hb5.tape,hb5.output,hb5.size,hb5.block⟩ hn5
      rw [show 5*j+1=j*5+1 by omega,show 5*j+2=j*5+1+1 by omega,show 5*j+3=j*5+1+2 by omega,show 5*j+4=j*5+1+3 by omega] at hMJ
      have HMJ':=Hh hMJ
      clear hMJ f1 f2 f3 f4 hS5 k0 k1 k2 k3 k4 k1w k2w k3w k4w k0w hb5 hn5 q0 q1 q2 q3
      go_wp2
      go_roundw
      case rel=>exact ⟨j+1,hjl,by go_num,HMJ'⟩
      case measure=>simp [intOf];omega
    ·have i4:¬ (j:Int)<(ks.length:Int):=by omega
     have hje:j=ks.length:=by omega
     subst hje
     have q4:wr.cell? ⟨w.heap.size+1,0,none⟩=some (.string ⟨#[]⟩):=zJ1 wr _ 0 _ _ _ (HMJ.out.fix 1 _ rfl)
     have q5:wr.cell? ⟨w.heap.size+1,1,none⟩=some (.string ⟨#[]⟩):=zJ1 wr _ 1 _ _ _ (HMJ.out.fix 1 _ rfl)
     have q6:wr.cell? ⟨w.heap.size+1,2,none⟩=some (.bool false):=zJ1 wr _ 2 _ _ _ (HMJ.out.fix 1 _ rfl)
     have q7:wr.cell? ⟨w.heap.size+1,3,none⟩=some (.slice none 0 0):=zJ1 wr _ 3 _ _ _ (HMJ.out.fix 1 _ rfl)
     have f0:=qAb (HMJ.out.fix 1 _ rfl) 0
     have f1:=qAb (HMJ.out.fix 1 _ rfl) 1
     have f2:=qAb (HMJ.out.fix 1 _ rfl) 2
     have f3:=qAb (HMJ.out.fix 1 _ rfl) 3
     go_wp2_with fail
     have HF:=Hh (qAd (qAd (qAd (qAd (HMJ.out.fix 1 _ rfl) 0 (.string ⟨k.toArray⟩)) 1 (.string ⟨d'.toArray⟩)) 2 (.bool e)) 3 (.slice A2 ks.length cap2))
     have HT:=Hh (HMJ.out.told (e:=e) HBD.out.2.1 hdl HBD.out.1 (x:=w.heap.size+1) (by omega) (by omega) (.string ⟨k.toArray⟩) (.string ⟨d'.toArray⟩) (.bool e) (.slice A2 ks.length cap2))
     clear q0 q1 q2 q3 q4 q5 q6 q7 f0 f1 f2 f3
     generalize (((wr.setCell ⟨w.heap.size+1,0,none⟩ (.string ⟨k.toArray⟩)).setCell ⟨w.heap.size+1,1,none⟩ (.string ⟨d'.toArray⟩)).setCell ⟨w.heap.size+1,2,none⟩ (.bool e)).setCell ⟨w.heap.size+1,3,none⟩ (.slice A2 ks.length cap2)=w9 at *
     have r0:w9.cell? ⟨w.heap.size+1,0,none⟩=some (.string ⟨k.toArray⟩):=zJ1 w9 _ 0 _ _ _ HF.out
     have r1:w9.cell? ⟨w.heap.size+1,1,none⟩=some (.string ⟨d'.toArray⟩):=zJ1 w9 _ 1 _ _ _ HF.out
     have r2:w9.cell? ⟨w.heap.size+1,2,none⟩=some (.bool e):=zJ1 w9 _ 2 _ _ _ HF.out
     have r3:w9.cell? ⟨w.heap.size+1,3,none⟩=some (.slice A2 ks.length cap2):=zJ1 w9 _ 3 _ _ _ HF.out
     refine zH1 (v:=.agg #[.string ⟨k.toArray⟩,.string ⟨d'.toArray⟩,.bool e,.slice A2 ks.length cap2]) ?_ rfl ⟨[.string ⟨k.toArray⟩,.string ⟨d'.toArray⟩,.bool e,.slice A2 ks.length cap2],rfl,by rw [HBK.out];exact HT.out.1,HT.out.2⟩
     simp [results,Tryz.results134,go_sem,r0,r1,r2,r3]
attribute [local go_sem] Oper.semAt_some
section
variable {w:World} {c:Nat→Col} {b:Nat} {D:List (List UInt8)}
theorem qN9 (h:DiskAt w c b D) (k:Nat) (hk:k<D.length) :
  Calls Tryz.prog 140 #[.pointer (some ⟨b,0,none⟩),.int .i64 k] w fun e w'=>e=.returned (.bool false)∧w'=w:=by
 obtain ⟨v,hb,hc,hr⟩:=h
 obtain ⟨A,cap,rfl⟩:=hr.slice
 have c0:=ce0 hb
 have i1:¬ (k:Int)<0:=by omega
 have i2:¬ (D.length:Int)≤(k:Int):=by omega
 clear hb hr hc
 go_enter Tryz.func140,Tryz.ntmps140
 go_wp2
 go_ret
 exact ⟨rfl,rfl⟩
theorem qQF (w:World):Calls Tryz.prog 253 #[.slice none 0 0] w fun e w'=>e=.returned (.func (.func 293) #[] #[.pointer (some ⟨w.heap.size,0,none⟩)])∧w'=w.alloc (.cells #[.slice none 0 0] 77):=by
 go_enter Tryz.func253,Tryz.ntmps253
 go_wp2
 go_ret
 exact ⟨rfl,rfl⟩
abbrev qRB (x:Empty):Array Value:=nomatch x
theorem qHF (n:Nat) (Bm:Nat) (w:World) (hBm:Bm<w.heap.size) (hm:w.cell? ⟨Bm,0,none⟩=some (.slice none 0 0)) :
  SeqStopsA Fence.wide n Tryz.prog 293 #[.pointer (some ⟨Bm,0,none⟩)] qRB (fun xs:List Empty=>xs=[]) (fun _=>False) 0 w:=fun l J Jx W hW hJ hJx hY h0=>by
 have hm':=(hW.cell (p:=⟨Bm,0,none⟩) hBm).trans hm
 refine callsIn_of_wp Tryz.func293 rfl trivial ?_ rfl
 simp only [Tryz.ntmps293,List.size_toArray,zQ,List.length_nil,Nat.reduceAdd,Nat.reduceSub,Array.replicate_succ,Array.replicate_zero,List.push_toArray,List.append_toArray,zi,zE]
 clear hY
 gi_wp2
 refine wpIn_loop_rounds 1 ?_
 rw [roundsIn_succ]
 gi_wp2
 go_end0
 exact ⟨⟨_,rfl⟩,.inl ⟨[],rfl,h0⟩⟩
theorem qN1 (h:DiskAt w c b D) (k:Nat) (hk:k<D.length) :
  Calls Tryz.prog 203 #[.pointer (some ⟨b,0,none⟩),.int .i64 k] w fun e w'=>e=.returned (.tuple #[.string ⟨D[k].toArray⟩,.nilIface])∧Below w.heap.size w w':=by
 have H:=Hh h
 have hBAD:=fun W hb=>qN9 (h.ext (Ext.of_below (w2:=W) hb c S0) rfl rfl) k hk
 obtain ⟨v,hb,hc,hr⟩:=h
 obtain ⟨A,cap,rfl⟩:=hr.slice
 have c0:=ce0 hb
 have c1:=ce1 hb
 have HBAD:=Hh hBAD
 have hbl:=qAa hb
 clear hb hr hc hBAD
 have hb3:=qBL w (.cells #[.int .i64 k] 3) (.cells #[.string ⟨#[]⟩] 9) (.cells #[.nilIface] 27)
 have c0':=(hb3.cell (p:=⟨b,0,none⟩) hbl).trans c0
 have c1':=(hb3.cell (p:=⟨b,1,none⟩) hbl).trans c1
 have HB3:=Hh hb3
 clear hb3
 refine (zI1 (n:=6)).1 ?_
 refine callsIn_of_wp_marks Tryz.func203 rfl trivial ?_ rfl
 simp only [Tryz.ntmps203,List.size_toArray,zQ,List.length_nil,Nat.reduceAdd,Nat.reduceSub,Array.replicate_succ,Array.replicate_zero,List.push_toArray,List.append_toArray,zi,zE]
 gi_wp2_with (first
  | (refine ⟨trivial,?_⟩;gi_at_call 140;refine (zI1.2 (HBAD.out _ (by go_grown))).mono ?_;rintro e w' ⟨rfl,rfl⟩)
  | (gi_at_call 140;refine (zI1.2 (HBAD.out _ (by go_grown))).mono ?_;rintro e w' ⟨rfl,rfl⟩)
  | (refine ⟨trivial,?_⟩;gi_at_call 253;refine (zI1.2 (qQF _)).mono ?_;rintro e w' ⟨rfl,rfl⟩))
 have hb4:=HB3.out.alloc (zr HB3.out.size (zq _)) (.cells #[.slice none 0 0] 77)
 have hx:=qKq w _ (.cells #[.int .i64 k] 3) (.cells #[.string ⟨#[]⟩] 9) (.cells #[.nilIface] 27) ((zB _ (((w.alloc (.cells #[.int .i64 k] 3)).alloc (.cells #[.string ⟨#[]⟩] 9)).alloc (.cells #[.nilIface] 27))).alloc (zq _) (.cells #[.slice none 0 0] 77))
 have hbx:=zK1 (((w.alloc (.cells #[.int .i64 k] 3)).alloc (.cells #[.string ⟨#[]⟩] 9)).alloc (.cells #[.nilIface] 27)) (.cells #[.slice none 0 0] 77)
 have hsz:((((w.alloc (.cells #[.int .i64 k] 3)).alloc (.cells #[.string ⟨#[]⟩] 9)).alloc (.cells #[.nilIface] 27)).alloc (.cells #[.slice none 0 0] 77)).heap.size=w.heap.size+1+1+1+1:=by simp
 rw [show (((w.alloc (.cells #[.int .i64 k] 3)).alloc (.cells #[.string ⟨#[]⟩] 9)).alloc (.cells #[.nilIface] 27)).heap.size=w.heap.size+1+1+1 by simp] at hbx
 clear c0' c1' c0 c1
 generalize (((w.alloc (.cells #[.int .i64 k] 3)).alloc (.cells #[.string ⟨#[]⟩] 9)).alloc (.cells #[.nilIface] 27)).alloc (.cells #[.slice none 0 0] 77)=W0 at *
 have HB4:=Hh hb4
 have HX:=Hh hx
 clear hb4 hx
 refine wpIn_rangeFunc_ownF (α:=Empty) (F:=Fence.wide) (n:=6) rfl (by omega) (gf:=293) (lb:=#[.pointer (some ⟨w.heap.size+1+1+1,0,none⟩)]) rfl trivial (enters_of Tryz.func293 (by kernel_rfl) rfl)
  (qHF 5 (w.heap.size+1+1+1) W0 (by omega) (zJ1 W0 _ 0 _ _ _ hbx)) walksK_t walksK_b (zB _ _) (fun x=>nomatch x)
  (fun pre W=>Below W0.heap.size W0 W) (fun c pre W=>False) (ownFrom_below (zq _) (zq _)) (fun c A B row W hs _ _=>hs.elim) (zB _ _) (fun x=>nomatch x) (fun l x=>nomatch x) (fun l pre x=>nomatch x) ?done ?stop
 case done =>
  rintro Dd xs W hDd _ hI hK
  obtain ⟨v2,hb2,hc2,hr2⟩:=H.out
  obtain ⟨g,cap2,e2,hg,hgl,_,_⟩:=hr2.pos (by omega)
  subst e2
  have hW:=HB4.out.trans (hI.mono HB4.out.size)
  have c0:W.cell? ⟨b,0,none⟩=some (.slice (some ⟨g,0,none⟩) D.length cap2):=(hW.cell (p:=⟨b,0,none⟩) hbl).trans (zJ1 w b 0 _ _ _ hb2)
  have r0:W.cell? ⟨g,k,none⟩=some (.string ⟨D[k].toArray⟩):=by
   rw [hW.cell (p:=⟨g,k,none⟩) hgl,hr2.cellAt k (by omega)]
   simp [hk]
  have x0:=(hI.block _ (by omega)).trans HX.out.1
  have x1:=(hI.block _ (by omega)).trans HX.out.2.1
  have x2:=(hI.block _ (by omega)).trans HX.out.2.2
  have d0:=ce0 x0
  have d1:=ce0 x1
  have d2:=ce0 x2
  have f1:=qAb x1 0
  have f2:=qAb x2 0
  have i1:(k:Int)<(D.length:Int):=by omega
  have i2:(0:Int)≤(k:Int):=by omega
  have HKD:=Hh hK
  have HI:=Hh hI
  have HWB:=Hh hW
  have X1:=Hh x1
  have X2:=Hh x2
  clear hb2 hr2 hI hW x0 x1 x2 hK
  have hne:w.heap.size+1≠w.heap.size+1+1:=by omega
  gi_wp2
  gi_region
  gi_wp2
  have y1:=qAd X1.out 0 (.string ⟨D[k].toArray⟩)
  have z1:=(zA (W.setCell ⟨w.heap.size+1,0,none⟩ (.string ⟨D[k].toArray⟩)) ⟨w.heap.size+1+1,0,none⟩ .nilIface (w.heap.size+1) hne).trans y1
  have z2:=qAd ((zA W ⟨w.heap.size+1,0,none⟩ (.string ⟨D[k].toArray⟩) (w.heap.size+1+1) hne.symm).trans X2.out) 0 .nilIface
  have HF:=Hh ((((HWB.out.setCell (p:=⟨w.heap.size+1,0,none⟩) (by simp) (.string ⟨D[k].toArray⟩)).setCell (p:=⟨w.heap.size+1+1,0,none⟩) (by simp;omega) .nilIface).drew))
  have hk1:((W.setCell ⟨w.heap.size+1,0,none⟩ (.string ⟨D[k].toArray⟩)).setCell ⟨w.heap.size+1+1,0,none⟩ .nilIface).drew.heap[Dd]?=some (.deferred (some [])):=by
   refine (zA _ ⟨w.heap.size+1+1,0,none⟩ _ Dd (by simp;omega)).trans ?_
   refine (zA _ ⟨w.heap.size+1,0,none⟩ _ Dd (by simp;omega)).trans ?_
   exact HKD.out
  have z1':((W.setCell ⟨w.heap.size+1,0,none⟩ (.string ⟨D[k].toArray⟩)).setCell ⟨w.heap.size+1+1,0,none⟩ .nilIface).drew.heap[w.heap.size+1]?=some (.cells #[.string ⟨D[k].toArray⟩] 9 (0,0)):=z1
  have z2':((W.setCell ⟨w.heap.size+1,0,none⟩ (.string ⟨D[k].toArray⟩)).setCell ⟨w.heap.size+1+1,0,none⟩ .nilIface).drew.heap[w.heap.size+1+1]?=some (.cells #[.nilIface] 27 (0,0)):=z2
  generalize ((W.setCell ⟨w.heap.size+1,0,none⟩ (.string ⟨D[k].toArray⟩)).setCell ⟨w.heap.size+1+1,0,none⟩ .nilIface).drew=W9 at *
  have hc4:=cell_kept (zJ1 W9 _ 0 _ _ _ z1') (grownBy_putObj' W9 Dd (.deferred none)) (fun r e=>by cases e;exact ⟨_,hk1,rfl⟩)
  have hc5:=cell_kept (zJ1 W9 _ 0 _ _ _ z2') (grownBy_putObj' W9 Dd (.deferred none)) (fun r e=>by cases e;exact ⟨_,hk1,rfl⟩)
  refine ⟨by simp,.inl ⟨_,_,rfl,run_takeDeferred hk1,?_⟩⟩
  refine ⟨.tuple #[.string ⟨D[k].toArray⟩,.nilIface],?_,rfl,HF.out.trans (belowK_b (w:=w) (zq _) W9 Dd _ _ (by omega) hk1 rfl rfl)⟩
  simp [results,Tryz.f203,go_sem,hc4,hc5]
 case stop =>
  rintro Dd c' pre W hDd hF
  exact hF.elim
end
end Go.Proofs.YtceklhjomhjipaaGreatDoor
