/- Lemmas. -/
import Derived.LoopIn
import Derived.LoopNIn
import Derived.RangeFuncBound
import Derived.RangeFuncBox
import Derived.RangeFuncCalls
import Derived.RangeFuncLeaves
import Derived.RangeFuncNested
import Derived.Shelf.Abstract
import Derived.Shelf.RegionOpen
import Derived.Test.YtbmkaekimccdgaaGreatDoorBm18
set_option maxHeartbeats 16000000
set_option maxRecDepth 1000000
set_option linter.all false
namespace Go.Proofs.YtbmkaekimccdgaaGreatDoor
open Go.RowKit Go.Sort Go.Shelf Stl
theorem qB0:∀ ks:List (List UInt8×Nd),jO ks=ks.map fun q=>(q.1,jA q.2)
 | []=>rfl
 | (nm,x)::r=>by rw[jO,qB0 r];rfl
theorem qHF:∀ (N:Nat) (n:Nd) (vs:List Value) (P:Nat→Prop) (w:World),Stl.wt n≤N→NodeP P w n vs →
  Calls Tryz.prog 177 #[.agg vs.toArray] w fun e w'=>∃ us,e=.returned (.agg us.toArray)∧NodeP (fun b=>P b∨w.heap.size≤b) w' (jA n) us∧Below w.heap.size w w'
 | 0,n,vs,P,w,hN,_=>by obtain⟨k,d,e,ks⟩:=n;simp[Stl.wt] at hN
 | N+1,.mk k d e ks,vs,P,w,hN,h=>by
  have IH:=Hh (qHF N);obtain⟨A,cap,rfl⟩:=h.open;have HM:=Hh (show Stl.wtL ks≤N by simp only[Stl.wt] at hN;omega);have hb1:Below w.heap.size w ((w.alloc (.cells #[.string ⟨k.toArray⟩,.string ⟨d.toArray⟩,.bool e,.slice A ks.length cap] 134)).alloc (.cells #[.string ⟨#[]⟩,.string ⟨#[]⟩,.bool false,.slice none 0 0] 134)):=((zB _ w).alloc (zo _) _).alloc (by simp) _;have HCL:=Hh (pI h _ hb1);have hsz:((w.alloc (.cells #[.string ⟨k.toArray⟩,.string ⟨d.toArray⟩,.bool e,.slice A ks.length cap] 134)).alloc (.cells #[.string ⟨#[]⟩,.string ⟨#[]⟩,.bool false,.slice none 0 0] 134)).heap.size=w.heap.size+2:=by simp
  have hx0:=qS (w.alloc (.cells #[.string ⟨k.toArray⟩,.string ⟨d.toArray⟩,.bool e,.slice A ks.length cap] 134)) (.cells #[.string ⟨#[]⟩,.string ⟨#[]⟩,.bool false,.slice none 0 0] 134) (zK1 w (.cells #[.string ⟨k.toArray⟩,.string ⟨d.toArray⟩,.bool e,.slice A ks.length cap] 134));have hx1:=zK1 (w.alloc (.cells #[.string ⟨k.toArray⟩,.string ⟨d.toArray⟩,.bool e,.slice A ks.length cap] 134)) (.cells #[.string ⟨#[]⟩,.string ⟨#[]⟩,.bool false,.slice none 0 0] 134);rw[show (w.alloc (.cells #[.string ⟨k.toArray⟩,.string ⟨d.toArray⟩,.bool e,.slice A ks.length cap] 134)).heap.size=w.heap.size+1 by simp] at hx1;have HND:=Hh h;have HBD:=Hh (show ks.length≤1759218604441∧k.length≤140737488355328∧d.length≤140737488355328 by
   unfold NodeP at h
   obtain⟨_,_,_,h2,_⟩:=h
   exact⟨h2.2.1,h2.2.2.1,h2.2.2.2⟩)
  have HB1:=Hh hb1;have HX0:=Hh hx0;have HX1:=Hh hx1;have HSZ:=Hh hsz;have hks:=HBD.o.1;clear hx0 hx1 hsz hb1 hN;go_enter Tryz.func177,Tryz.ntmps177;go_upto_region 1 with fail;clear h;generalize (w.alloc (.cells #[.string ⟨k.toArray⟩,.string ⟨d.toArray⟩,.bool e,.slice A ks.length cap] 134)).alloc (.cells #[.string ⟨#[]⟩,.string ⟨#[]⟩,.bool false,.slice none 0 0] 134)=w1 at *;have q0:w1.cell? ⟨w.heap.size,0,none⟩=some (.string ⟨k.toArray⟩):=zJ1 w1 _ 0 _ _ _ HX0.o;have HBK:=Hh (show jA (.mk k d e ks)=.mk k (if k=kFile then [] else d) e (ks.map fun q=>(q.1,jA q.2)) by rw[jA,qB0])
  rcases (show (k=kFile∧(k==[102,105,108,101])=true)∨(k≠kFile∧(k==[102,105,108,101])=false) from by
   by_cases h:k=kFile
   ·exact .inl ⟨h,by subst h;decide⟩
   ·exact .inr ⟨h,by simpa[kFile] using h⟩) with ⟨hk,hk'⟩ | ⟨hk,hk'⟩
  ·have q1:w1.cell? ⟨w.heap.size,1,none⟩=some (.string ⟨d.toArray⟩):=zJ1 w1 _ 1 _ _ _ HX0.o;have f1:=qC HX0.o 1;go_upto_region 3 with fail
   replace HB1:=Hh (HB1.o.setCell (p:=⟨w.heap.size,1,none⟩) (zo _) (.string ⟨#[]⟩))
   replace HCL:=Hh (pI HND.o _ HB1.o)
   replace HX0:=Hh (qH HX0.o 1 (.string ⟨#[]⟩))
   replace HX1:=Hh ((zA w1 ⟨w.heap.size,1,none⟩ (.string ⟨#[]⟩) (w.heap.size+1) (by simp)).trans HX1.o)
   replace HSZ:=Hh (show (w1.setCell ⟨w.heap.size,1,none⟩ (.string ⟨#[]⟩)).heap.size=w.heap.size+2 by simpa[World.setCell] using HSZ.o)
   rw[zM1 hk] at HBK;clear q0 q1 f1;generalize w1.setCell ⟨w.heap.size,1,none⟩ (.string ⟨#[]⟩)=w1 at *;obtain⟨d',hd'⟩:∃ d':List UInt8,[]=d':=⟨_,rfl⟩;rw[show (#[]:Array UInt8)=d'.toArray by rw[← hd']] at HX0;rw[hd'] at HBK;have hdl:d'.length≤140737488355328:=by rw[← hd'];simp
   clear hd' hk;have q3:w1.cell? ⟨w.heap.size,3,none⟩=some (.slice A ks.length cap):=zJ1 w1 _ 3 _ _ _ HX0.o;go_upto_region 4 with (go_at_call 202;refine HCL.o.mono ?_;rintro ev w2 ⟨A2,cap2,xs,rfl,hown,hks2,hb2⟩;have hx2:=(hb2.block _ (qA HX0.o)).trans HX0.o;have g3:=zJ1 w2 _ 3 _ _ _ hx2;have f3:=qC hx2 3;have HOWN:=Hh hown;have HKS:=Hh hks2;have HB2:=Hh hb2;have HX2:=Hh hx2;clear hown hb2 hx2 hks2);have hM0:MapSt P (fun q=>jA q.2) ks w.heap.size w 2 [.cells #[.string ⟨k.toArray⟩,.string ⟨d'.toArray⟩,.bool e,.slice A2 ks.length cap2] 134 (0,0),.cells #[.string ⟨#[]⟩,.string ⟨#[]⟩,.bool false,.slice none 0 0] 134 (0,0)] A2 cap2 0 (w2.setCell ⟨w.heap.size,3,none⟩ (.slice A2 ks.length cap2)):=by
    have hno:(Value.slice A2 ks.length cap2).ownBlock≠some w.heap.size:=fun e=>by have:=(HOWN.o.lt _ e).1;have:=HSZ.o;omega
    have hw1:=qA HX1.o;have hbel:Below w.heap.size w w2:=HB1.o.trans (HB2.o.mono (by have:=HSZ.o;omega));refine⟨hbel.setCell (p:=⟨w.heap.size,3,none⟩) (zo _) _,rfl,rfl,qOV (qH HX2.o 3 _) ?_,xs,?_,?_⟩
    ·rw[zA w2 ⟨w.heap.size,3,none⟩ _ (w.heap.size+1) (by simp)];exact(HB2.o.block _ hw1).trans HX1.o
    ·rw[← HSZ.o];exact zO1 HOWN.o (a:=⟨w.heap.size,3,none⟩) hno _
    ·rw[List.take_zero,List.map_nil,zh,List.drop_zero];refine KidsCells.go (w:=w) (by simp[World.setCell];exact hbel.size) (fun b hb hp=>⟨?_,.inl ⟨hp,hb⟩⟩) _ _ HKS.o;rw[zA w2 ⟨w.heap.size,3,none⟩ _ b (by simp;omega)];exact hbel.block b hb
   have HM0:=Hh hM0;clear hM0 q3 g3 f3;generalize w2.setCell ⟨w.heap.size,3,none⟩ (.slice A2 ks.length cap2)=w3 at *;have q3:w3.cell? ⟨w.heap.size,3,none⟩=some (.slice A2 ks.length cap2):=zJ1 w3 _ 3 _ _ _ (HM0.o.fix 0 _ rfl);go_upto_region 5 with fail
   go_loopw [15] (fun a wr=>∃ (j:Nat),j≤ks.length∧a=.int .i64 j∧Hg (MapSt P (fun q=>jA q.2) ks w.heap.size w 2 [.cells #[.string ⟨k.toArray⟩,.string ⟨d'.toArray⟩,.bool e,.slice A2 ks.length cap2] 134 (0,0),.cells #[.string ⟨#[]⟩,.string ⟨#[]⟩,.bool false,.slice none 0 0] 134 (0,0)] A2 cap2 j wr)) (fun a _=>ks.length-(intOf a).toNat)
   case atStart=>exact⟨0,zw _,rfl,HM0⟩
   case round =>
    obtain⟨j,hj,rfl,HMJ⟩:=hrel;clear q3;have q0:wr.cell? ⟨w.heap.size,0,none⟩=some (.string ⟨k.toArray⟩):=zJ1 wr _ 0 _ _ _ (HMJ.o.fix 0 _ rfl);have q1:wr.cell? ⟨w.heap.size,1,none⟩=some (.string ⟨d'.toArray⟩):=zJ1 wr _ 1 _ _ _ (HMJ.o.fix 0 _ rfl);have q2:wr.cell? ⟨w.heap.size,2,none⟩=some (.bool e):=zJ1 wr _ 2 _ _ _ (HMJ.o.fix 0 _ rfl);have q3:wr.cell? ⟨w.heap.size,3,none⟩=some (.slice A2 ks.length cap2):=zJ1 wr _ 3 _ _ _ (HMJ.o.fix 0 _ rfl);by_cases hjl:j<ks.length
    ·have i4:(j:Int)<(ks.length:Int):=by omega
     have i5:(0:Int)≤(j:Int):=by omega
     obtain⟨g,a,b,v0,v1,v2,v3,rfl,hg,hal,hr,hnl,hn,-,-,k0,k1,k2,k3,k4⟩:=HMJ.o.kid hjl;have HW:=Hh (zq (Stl.wt_mem ks j hjl) HM.o);have HN:=Hh hn;have hih:=IH.o ks[j].2 [v0,v1,v2,v3] _ wr.drew HW.o (NodeP.go (w:=wr) (w':=wr.drew) (zo _) (fun b _ hp=>⟨rfl,hp⟩) _ _ HN.o);have HIH:=Hh hih;have HJL:=Hh hjl;have HR:=Hh hr;have hgne:g≠w.heap.size:=by omega
     have hbx:=qA (HMJ.o.fix 0 _ rfl);have hgl:=(HR.o.lt g rfl).2;rw[show 5*j+1=j*5+1 by omega] at k1;rw[show 5*j+2=j*5+1+1 by omega] at k2;rw[show 5*j+3=j*5+1+2 by omega] at k3;rw[show 5*j+4=j*5+1+3 by omega] at k4;have HKP:=Hh (fun (W:World) (hW':Below wr.drew.heap.size wr.drew W)=>show (W.cell? ⟨w.heap.size,3,none⟩=some (.slice (some ⟨g,0,none⟩) ks.length cap2)∧W.cell? ⟨g,j*5+1,none⟩=some v0∧W.cell? ⟨g,j*5+1+1,none⟩=some v1∧W.cell? ⟨g,j*5+1+2,none⟩=some v2∧W.cell? ⟨g,j*5+1+3,none⟩=some v3)∧W.frozen? ⟨g,j*5+1,none⟩=false∧W.frozen? ⟨g,j*5+1+1,none⟩=false∧W.frozen? ⟨g,j*5+1+2,none⟩=false∧W.frozen? ⟨g,j*5+1+3,none⟩=false from
      have hW:Below wr.heap.size wr W:=⟨hW'.os,hW'.tape,hW'.output,hW'.size,hW'.block⟩
      ⟨⟨(hW.cell (p:=⟨w.heap.size,3,none⟩) hbx).trans q3,(hW.cell (p:=⟨g,j*5+1,none⟩) hgl).trans k1,(hW.cell (p:=⟨g,j*5+1+1,none⟩) hgl).trans k2,(hW.cell (p:=⟨g,j*5+1+2,none⟩) hgl).trans k3,(hW.cell (p:=⟨g,j*5+1+3,none⟩) hgl).trans k4⟩,
       (zE1 (hW.block g hgl)).trans (HR.o.frozenAt _),(zE1 (hW.block g hgl)).trans (HR.o.frozenAt _),(zE1 (hW.block g hgl)).trans (HR.o.frozenAt _),(zE1 (hW.block g hgl)).trans (HR.o.frozenAt _)⟩)
     clear hn hr hih;go_upto_region 7 with fail
     go_region_law
      (first
       | (go_simp;go_at_call 177;with_reducible refine HIH.o.mono ?_;rintro ev w5 ⟨us,rfl,hn5,hb5⟩;obtain⟨hS5,f1,f2,f3,f4⟩:=HKP.o w5 hb5;have k0w:=hS5.1;have k1w:=hS5.2.1;have k2w:=hS5.2.2.1;have k3w:=hS5.2.2.2.1;have k4w:=hS5.2.2.2.2;obtain⟨u0,u1,u2,u3,u3m,u3c,rfl⟩:=kF hn5)
       | fail)
     all_goals
      have hMJ:MapSt P (fun q=>jA q.2) ks w.heap.size w 2 [.cells #[.string ⟨k.toArray⟩,.string ⟨d'.toArray⟩,.bool e,.slice (some ⟨g,0,none⟩) ks.length cap2] 134 (0,0),.cells #[.string ⟨#[]⟩,.string ⟨#[]⟩,.bool false,.slice none 0 0] 134 (0,0)] (some ⟨g,0,none⟩) cap2 (j+1) _:=HMJ.o.step HJL.o ⟨hb5.os,hb5.tape,hb5.output,hb5.size,hb5.block⟩ hn5;rw[show 5*j+1=j*5+1 by omega,show 5*j+2=j*5+1+1 by omega,show 5*j+3=j*5+1+2 by omega,show 5*j+4=j*5+1+3 by omega] at hMJ;have HMJ':=Hh hMJ;clear hMJ f1 f2 f3 f4 hS5 k0 k1 k2 k3 k4 k1w k2w k3w k4w k0w hb5 hn5 q0 q1 q2 q3;go_wp2;go_roundw
      case rel=>exact⟨j+1,hjl,by go_num,HMJ'⟩
      case measure=>simp[intOf];omega
    ·have i4:¬ (j:Int)<(ks.length:Int):=by omega
     have hje:j=ks.length:=by omega
     subst hje;have q4:wr.cell? ⟨w.heap.size+1,0,none⟩=some (.string ⟨#[]⟩):=zJ1 wr _ 0 _ _ _ (HMJ.o.fix 1 _ rfl);have q5:wr.cell? ⟨w.heap.size+1,1,none⟩=some (.string ⟨#[]⟩):=zJ1 wr _ 1 _ _ _ (HMJ.o.fix 1 _ rfl);have q6:wr.cell? ⟨w.heap.size+1,2,none⟩=some (.bool false):=zJ1 wr _ 2 _ _ _ (HMJ.o.fix 1 _ rfl);have q7:wr.cell? ⟨w.heap.size+1,3,none⟩=some (.slice none 0 0):=zJ1 wr _ 3 _ _ _ (HMJ.o.fix 1 _ rfl);obtain⟨f0,f1,f2,f3⟩:=Stl.fq (HMJ.o.fix 1 _ rfl);go_wp2_with fail;have HF:=Hh (qH (qH (qH (qH (HMJ.o.fix 1 _ rfl) 0 (.string ⟨k.toArray⟩)) 1 (.string ⟨d'.toArray⟩)) 2 (.bool e)) 3 (.slice A2 ks.length cap2));have HT:=Hh (HMJ.o.told (e:=e) HBD.o.2.1 hdl HBD.o.1 (x:=w.heap.size+1) (by omega) (by omega) (.string ⟨k.toArray⟩) (.string ⟨d'.toArray⟩) (.bool e) (.slice A2 ks.length cap2));clear q0 q1 q2 q3 q4 q5 q6 q7 f0 f1 f2 f3;generalize (((wr.setCell ⟨w.heap.size+1,0,none⟩ (.string ⟨k.toArray⟩)).setCell ⟨w.heap.size+1,1,none⟩ (.string ⟨d'.toArray⟩)).setCell ⟨w.heap.size+1,2,none⟩ (.bool e)).setCell ⟨w.heap.size+1,3,none⟩ (.slice A2 ks.length cap2)=w9 at *;have r0:w9.cell? ⟨w.heap.size+1,0,none⟩=some (.string ⟨k.toArray⟩):=zJ1 w9 _ 0 _ _ _ HF.o;have r1:w9.cell? ⟨w.heap.size+1,1,none⟩=some (.string ⟨d'.toArray⟩):=zJ1 w9 _ 1 _ _ _ HF.o;have r2:w9.cell? ⟨w.heap.size+1,2,none⟩=some (.bool e):=zJ1 w9 _ 2 _ _ _ HF.o;have r3:w9.cell? ⟨w.heap.size+1,3,none⟩=some (.slice A2 ks.length cap2):=zJ1 w9 _ 3 _ _ _ HF.o;refine zH1 (v:=.agg #[.string ⟨k.toArray⟩,.string ⟨d'.toArray⟩,.bool e,.slice A2 ks.length cap2]) ?_ rfl ⟨[.string ⟨k.toArray⟩,.string ⟨d'.toArray⟩,.bool e,.slice A2 ks.length cap2],rfl,by rw[HBK.o];exact HT.o.1,HT.o.2⟩;simp[results,Tryz.results177,go_sem,r0,r1,r2,r3]
  ·go_upto_region 3 with fail;clear q0;rw[zL1 hk] at HBK;clear hk;have hdl:=HBD.o.2.2;obtain⟨d',hd'⟩:∃ d':List UInt8,d=d':=⟨_,rfl⟩
   replace HBK:=Hh (show jA (.mk k d e ks)=.mk k d' e (ks.map fun q=>(q.1,jA q.2)) by rw[HBK.o,← hd'])
   rw[hd'] at HX0 hdl;clear hd';have q3:w1.cell? ⟨w.heap.size,3,none⟩=some (.slice A ks.length cap):=zJ1 w1 _ 3 _ _ _ HX0.o;go_upto_region 4 with (go_at_call 202;refine HCL.o.mono ?_;rintro ev w2 ⟨A2,cap2,xs,rfl,hown,hks2,hb2⟩;have hx2:=(hb2.block _ (qA HX0.o)).trans HX0.o;have g3:=zJ1 w2 _ 3 _ _ _ hx2;have f3:=qC hx2 3;have HOWN:=Hh hown;have HKS:=Hh hks2;have HB2:=Hh hb2;have HX2:=Hh hx2;clear hown hb2 hx2 hks2);have hM0:MapSt P (fun q=>jA q.2) ks w.heap.size w 2 [.cells #[.string ⟨k.toArray⟩,.string ⟨d'.toArray⟩,.bool e,.slice A2 ks.length cap2] 134 (0,0),.cells #[.string ⟨#[]⟩,.string ⟨#[]⟩,.bool false,.slice none 0 0] 134 (0,0)] A2 cap2 0 (w2.setCell ⟨w.heap.size,3,none⟩ (.slice A2 ks.length cap2)):=by
    have hno:(Value.slice A2 ks.length cap2).ownBlock≠some w.heap.size:=fun e=>by have:=(HOWN.o.lt _ e).1;have:=HSZ.o;omega
    have hw1:=qA HX1.o;have hbel:Below w.heap.size w w2:=HB1.o.trans (HB2.o.mono (by have:=HSZ.o;omega));refine⟨hbel.setCell (p:=⟨w.heap.size,3,none⟩) (zo _) _,rfl,rfl,qOV (qH HX2.o 3 _) ?_,xs,?_,?_⟩
    ·rw[zA w2 ⟨w.heap.size,3,none⟩ _ (w.heap.size+1) (by simp)];exact(HB2.o.block _ hw1).trans HX1.o
    ·rw[← HSZ.o];exact zO1 HOWN.o (a:=⟨w.heap.size,3,none⟩) hno _
    ·rw[List.take_zero,List.map_nil,zh,List.drop_zero];refine KidsCells.go (w:=w) (by simp[World.setCell];exact hbel.size) (fun b hb hp=>⟨?_,.inl ⟨hp,hb⟩⟩) _ _ HKS.o;rw[zA w2 ⟨w.heap.size,3,none⟩ _ b (by simp;omega)];exact hbel.block b hb
   have HM0:=Hh hM0;clear hM0 q3 g3 f3;generalize w2.setCell ⟨w.heap.size,3,none⟩ (.slice A2 ks.length cap2)=w3 at *;have q3:w3.cell? ⟨w.heap.size,3,none⟩=some (.slice A2 ks.length cap2):=zJ1 w3 _ 3 _ _ _ (HM0.o.fix 0 _ rfl);go_upto_region 5 with fail
   go_loopw [15] (fun a wr=>∃ (j:Nat),j≤ks.length∧a=.int .i64 j∧Hg (MapSt P (fun q=>jA q.2) ks w.heap.size w 2 [.cells #[.string ⟨k.toArray⟩,.string ⟨d'.toArray⟩,.bool e,.slice A2 ks.length cap2] 134 (0,0),.cells #[.string ⟨#[]⟩,.string ⟨#[]⟩,.bool false,.slice none 0 0] 134 (0,0)] A2 cap2 j wr)) (fun a _=>ks.length-(intOf a).toNat)
   case atStart=>exact⟨0,zw _,rfl,HM0⟩
   case round =>
    obtain⟨j,hj,rfl,HMJ⟩:=hrel;clear q3;have q0:wr.cell? ⟨w.heap.size,0,none⟩=some (.string ⟨k.toArray⟩):=zJ1 wr _ 0 _ _ _ (HMJ.o.fix 0 _ rfl);have q1:wr.cell? ⟨w.heap.size,1,none⟩=some (.string ⟨d'.toArray⟩):=zJ1 wr _ 1 _ _ _ (HMJ.o.fix 0 _ rfl);have q2:wr.cell? ⟨w.heap.size,2,none⟩=some (.bool e):=zJ1 wr _ 2 _ _ _ (HMJ.o.fix 0 _ rfl);have q3:wr.cell? ⟨w.heap.size,3,none⟩=some (.slice A2 ks.length cap2):=zJ1 wr _ 3 _ _ _ (HMJ.o.fix 0 _ rfl);by_cases hjl:j<ks.length
    ·have i4:(j:Int)<(ks.length:Int):=by omega
     have i5:(0:Int)≤(j:Int):=by omega
     obtain⟨g,a,b,v0,v1,v2,v3,rfl,hg,hal,hr,hnl,hn,-,-,k0,k1,k2,k3,k4⟩:=HMJ.o.kid hjl;have HW:=Hh (zq (Stl.wt_mem ks j hjl) HM.o);have HN:=Hh hn;have hih:=IH.o ks[j].2 [v0,v1,v2,v3] _ wr.drew HW.o (NodeP.go (w:=wr) (w':=wr.drew) (zo _) (fun b _ hp=>⟨rfl,hp⟩) _ _ HN.o);have HIH:=Hh hih;have HJL:=Hh hjl;have HR:=Hh hr;have hgne:g≠w.heap.size:=by omega
     have hbx:=qA (HMJ.o.fix 0 _ rfl);have hgl:=(HR.o.lt g rfl).2;rw[show 5*j+1=j*5+1 by omega] at k1;rw[show 5*j+2=j*5+1+1 by omega] at k2;rw[show 5*j+3=j*5+1+2 by omega] at k3;rw[show 5*j+4=j*5+1+3 by omega] at k4;have HKP:=Hh (fun (W:World) (hW':Below wr.drew.heap.size wr.drew W)=>show (W.cell? ⟨w.heap.size,3,none⟩=some (.slice (some ⟨g,0,none⟩) ks.length cap2)∧W.cell? ⟨g,j*5+1,none⟩=some v0∧W.cell? ⟨g,j*5+1+1,none⟩=some v1∧W.cell? ⟨g,j*5+1+2,none⟩=some v2∧W.cell? ⟨g,j*5+1+3,none⟩=some v3)∧W.frozen? ⟨g,j*5+1,none⟩=false∧W.frozen? ⟨g,j*5+1+1,none⟩=false∧W.frozen? ⟨g,j*5+1+2,none⟩=false∧W.frozen? ⟨g,j*5+1+3,none⟩=false from
      have hW:Below wr.heap.size wr W:=⟨hW'.os,hW'.tape,hW'.output,hW'.size,hW'.block⟩
      ⟨⟨(hW.cell (p:=⟨w.heap.size,3,none⟩) hbx).trans q3,(hW.cell (p:=⟨g,j*5+1,none⟩) hgl).trans k1,(hW.cell (p:=⟨g,j*5+1+1,none⟩) hgl).trans k2,(hW.cell (p:=⟨g,j*5+1+2,none⟩) hgl).trans k3,(hW.cell (p:=⟨g,j*5+1+3,none⟩) hgl).trans k4⟩,
       (zE1 (hW.block g hgl)).trans (HR.o.frozenAt _),(zE1 (hW.block g hgl)).trans (HR.o.frozenAt _),(zE1 (hW.block g hgl)).trans (HR.o.frozenAt _),(zE1 (hW.block g hgl)).trans (HR.o.frozenAt _)⟩)
     clear hn hr hih;go_upto_region 7 with fail
     go_region_law
      (first
       | (go_simp;go_at_call 177;with_reducible refine HIH.o.mono ?_;rintro ev w5 ⟨us,rfl,hn5,hb5⟩;obtain⟨hS5,f1,f2,f3,f4⟩:=HKP.o w5 hb5;have k0w:=hS5.1;have k1w:=hS5.2.1;have k2w:=hS5.2.2.1;have k3w:=hS5.2.2.2.1;have k4w:=hS5.2.2.2.2;obtain⟨u0,u1,u2,u3,u3m,u3c,rfl⟩:=kF hn5)
       | fail)
     all_goals
      have hMJ:MapSt P (fun q=>jA q.2) ks w.heap.size w 2 [.cells #[.string ⟨k.toArray⟩,.string ⟨d'.toArray⟩,.bool e,.slice (some ⟨g,0,none⟩) ks.length cap2] 134 (0,0),.cells #[.string ⟨#[]⟩,.string ⟨#[]⟩,.bool false,.slice none 0 0] 134 (0,0)] (some ⟨g,0,none⟩) cap2 (j+1) _:=HMJ.o.step HJL.o ⟨hb5.os,hb5.tape,hb5.output,hb5.size,hb5.block⟩ hn5;rw[show 5*j+1=j*5+1 by omega,show 5*j+2=j*5+1+1 by omega,show 5*j+3=j*5+1+2 by omega,show 5*j+4=j*5+1+3 by omega] at hMJ;have HMJ':=Hh hMJ;clear hMJ f1 f2 f3 f4 hS5 k0 k1 k2 k3 k4 k1w k2w k3w k4w k0w hb5 hn5 q0 q1 q2 q3;go_wp2;go_roundw
      case rel=>exact⟨j+1,hjl,by go_num,HMJ'⟩
      case measure=>simp[intOf];omega
    ·have i4:¬ (j:Int)<(ks.length:Int):=by omega
     have hje:j=ks.length:=by omega
     subst hje;have q4:wr.cell? ⟨w.heap.size+1,0,none⟩=some (.string ⟨#[]⟩):=zJ1 wr _ 0 _ _ _ (HMJ.o.fix 1 _ rfl);have q5:wr.cell? ⟨w.heap.size+1,1,none⟩=some (.string ⟨#[]⟩):=zJ1 wr _ 1 _ _ _ (HMJ.o.fix 1 _ rfl);have q6:wr.cell? ⟨w.heap.size+1,2,none⟩=some (.bool false):=zJ1 wr _ 2 _ _ _ (HMJ.o.fix 1 _ rfl);have q7:wr.cell? ⟨w.heap.size+1,3,none⟩=some (.slice none 0 0):=zJ1 wr _ 3 _ _ _ (HMJ.o.fix 1 _ rfl);obtain⟨f0,f1,f2,f3⟩:=Stl.fq (HMJ.o.fix 1 _ rfl);go_wp2_with fail;have HF:=Hh (qH (qH (qH (qH (HMJ.o.fix 1 _ rfl) 0 (.string ⟨k.toArray⟩)) 1 (.string ⟨d'.toArray⟩)) 2 (.bool e)) 3 (.slice A2 ks.length cap2));have HT:=Hh (HMJ.o.told (e:=e) HBD.o.2.1 hdl HBD.o.1 (x:=w.heap.size+1) (by omega) (by omega) (.string ⟨k.toArray⟩) (.string ⟨d'.toArray⟩) (.bool e) (.slice A2 ks.length cap2));clear q0 q1 q2 q3 q4 q5 q6 q7 f0 f1 f2 f3;generalize (((wr.setCell ⟨w.heap.size+1,0,none⟩ (.string ⟨k.toArray⟩)).setCell ⟨w.heap.size+1,1,none⟩ (.string ⟨d'.toArray⟩)).setCell ⟨w.heap.size+1,2,none⟩ (.bool e)).setCell ⟨w.heap.size+1,3,none⟩ (.slice A2 ks.length cap2)=w9 at *;have r0:w9.cell? ⟨w.heap.size+1,0,none⟩=some (.string ⟨k.toArray⟩):=zJ1 w9 _ 0 _ _ _ HF.o;have r1:w9.cell? ⟨w.heap.size+1,1,none⟩=some (.string ⟨d'.toArray⟩):=zJ1 w9 _ 1 _ _ _ HF.o;have r2:w9.cell? ⟨w.heap.size+1,2,none⟩=some (.bool e):=zJ1 w9 _ 2 _ _ _ HF.o;have r3:w9.cell? ⟨w.heap.size+1,3,none⟩=some (.slice A2 ks.length cap2):=zJ1 w9 _ 3 _ _ _ HF.o;refine zH1 (v:=.agg #[.string ⟨k.toArray⟩,.string ⟨d'.toArray⟩,.bool e,.slice A2 ks.length cap2]) ?_ rfl ⟨[.string ⟨k.toArray⟩,.string ⟨d'.toArray⟩,.bool e,.slice A2 ks.length cap2],rfl,by rw[HBK.o];exact HT.o.1,HT.o.2⟩;simp[results,Tryz.results177,go_sem,r0,r1,r2,r3]
attribute [local go_sem] Oper.semAt_some
section
variable {w:World}{c:Nat→Col}{b:Nat}{D:List (List UInt8)}
theorem qMz (h:DiskAt w c b D)(k:Nat)(hk:k<D.length) :
  Calls Tryz.prog 182 #[.pointer (some ⟨b,0,none⟩),.int .i64 k] w fun e w'=>e=.returned (.bool false)∧w'=w:=by
 obtain⟨v,hb,hc,hr⟩:=h;obtain⟨A,cap,rfl⟩:=hr.slice;have c0:=ce0 hb;have i1:¬ (k:Int)<0:=by omega
 have i2:¬ (D.length:Int)≤(k:Int):=by omega
 clear hb hr hc;go_enter Tryz.func182,Tryz.ntmps182;go_wp2;go_ret;exact⟨rfl,rfl⟩
theorem qNo (w:World):Calls Tryz.prog 289 #[.slice none 0 0] w fun e w'=>e=.returned (.func (.func 314) #[] #[.pointer (some ⟨w.heap.size,0,none⟩)])∧w'=w.alloc (.cells #[.slice none 0 0] 76):=by
 go_enter Tryz.func289,Tryz.ntmps289;go_wp2;go_ret;exact⟨rfl,rfl⟩
abbrev qO2 (x:Empty):Array Value:=nomatch x
theorem qEb (n:Nat)(Bm:Nat)(w:World)(hBm:Bm<w.heap.size)(hm:w.cell? ⟨Bm,0,none⟩=some (.slice none 0 0)) :
  SeqStopsA Fence.wide n Tryz.prog 314 #[.pointer (some ⟨Bm,0,none⟩)] qO2 (fun xs:List Empty=>xs=[]) (fun _=>False) 0 w:=fun l J Jx W hW hJ hJx hY h0=>by
 have hm':=(hW.cell (p:=⟨Bm,0,none⟩) hBm).trans hm;refine callsIn_of_wp Tryz.func314 rfl trivial ?_ rfl;simp only[Tryz.ntmps314,List.size_toArray,zQ,List.length_nil,Nat.reduceAdd,Nat.reduceSub,Array.replicate_succ,Array.replicate_zero,List.push_toArray,List.append_toArray,zh,zE];clear hY
 gi_wp2
 refine wpIn_loop_rounds 1 ?_;rw[roundsIn_succ]
 gi_wp2
 go_end0;exact⟨⟨_,rfl⟩,.inl ⟨[],rfl,h0⟩⟩
theorem qJS (h:DiskAt w c b D)(k:Nat)(hk:k<D.length) :
  Calls Tryz.prog 244 #[.pointer (some ⟨b,0,none⟩),.int .i64 k] w fun e w'=>e=.returned (.tuple #[.string ⟨D[k].toArray⟩,.nilIface])∧Below w.heap.size w w':=by
 have H:=Hh h;have hBAD:=fun W hb=>qMz (h.ext (Ext.of_below (w2:=W) hb c S0) rfl rfl) k hk
 obtain⟨v,hb,hc,hr⟩:=h;obtain⟨A,cap,rfl⟩:=hr.slice;have c0:=ce0 hb;have c1:=ce1 hb;have HBAD:=Hh hBAD;have hbl:=qA hb;clear hb hr hc hBAD;have hb3:=xF w (.cells #[.int .i64 k] 3) (.cells #[.string ⟨#[]⟩] 9) (.cells #[.nilIface] 27);have c0':=(hb3.cell (p:=⟨b,0,none⟩) hbl).trans c0;have c1':=(hb3.cell (p:=⟨b,1,none⟩) hbl).trans c1;have HB3:=Hh hb3;clear hb3;refine(zI1 (n:=6)).1 ?_;refine callsIn_of_wp_marks Tryz.func244 rfl trivial ?_ rfl;simp only[Tryz.ntmps244,List.size_toArray,zQ,List.length_nil,Nat.reduceAdd,Nat.reduceSub,Array.replicate_succ,Array.replicate_zero,List.push_toArray,List.append_toArray,zh,zE]
 gi_wp2_with (first
  | (refine⟨trivial,?_⟩;gi_at_call 182;refine(zI1.2 (HBAD.o _ (by go_grown))).mono ?_;rintro e w' ⟨rfl,rfl⟩)
  | (gi_at_call 182;refine(zI1.2 (HBAD.o _ (by go_grown))).mono ?_;rintro e w' ⟨rfl,rfl⟩)
  | (refine⟨trivial,?_⟩;gi_at_call 289;refine(zI1.2 (qNo _)).mono ?_;rintro e w' ⟨rfl,rfl⟩))
 have hb4:=HB3.o.alloc (zq HB3.o.size (zo _)) (.cells #[.slice none 0 0] 76);have hx:=dZ w _ (.cells #[.int .i64 k] 3) (.cells #[.string ⟨#[]⟩] 9) (.cells #[.nilIface] 27) ((zB _ (((w.alloc (.cells #[.int .i64 k] 3)).alloc (.cells #[.string ⟨#[]⟩] 9)).alloc (.cells #[.nilIface] 27))).alloc (zo _) (.cells #[.slice none 0 0] 76));have hbx:=zK1 (((w.alloc (.cells #[.int .i64 k] 3)).alloc (.cells #[.string ⟨#[]⟩] 9)).alloc (.cells #[.nilIface] 27)) (.cells #[.slice none 0 0] 76);have hsz:((((w.alloc (.cells #[.int .i64 k] 3)).alloc (.cells #[.string ⟨#[]⟩] 9)).alloc (.cells #[.nilIface] 27)).alloc (.cells #[.slice none 0 0] 76)).heap.size=w.heap.size+1+1+1+1:=by simp
 rw[show (((w.alloc (.cells #[.int .i64 k] 3)).alloc (.cells #[.string ⟨#[]⟩] 9)).alloc (.cells #[.nilIface] 27)).heap.size=w.heap.size+1+1+1 by simp] at hbx;clear c0' c1' c0 c1;generalize (((w.alloc (.cells #[.int .i64 k] 3)).alloc (.cells #[.string ⟨#[]⟩] 9)).alloc (.cells #[.nilIface] 27)).alloc (.cells #[.slice none 0 0] 76)=W0 at *;have HB4:=Hh hb4;have HX:=Hh hx;clear hb4 hx;refine wpIn_rangeFunc_ownF (α:=Empty) (F:=Fence.wide) (n:=6) rfl (by omega) (gf:=314) (lb:=#[.pointer (some ⟨w.heap.size+1+1+1,0,none⟩)]) rfl trivial (enters_of Tryz.func314 (by kernel_rfl) rfl)
  (qEb 5 (w.heap.size+1+1+1) W0 (by omega) (zJ1 W0 _ 0 _ _ _ hbx)) walksK_t walksK_b (zB _ _) (fun x=>nomatch x)
  (fun pre W=>Below W0.heap.size W0 W) (fun c pre W=>False) (ownFrom_below (zo _) (zo _)) (fun c A B row W hs _ _=>hs.elim) (zB _ _) (fun x=>nomatch x) (fun l x=>nomatch x) (fun l pre x=>nomatch x) ?done ?stop
 case done =>
  rintro Dd xs W hDd _ hI hK;obtain⟨v2,hb2,hc2,hr2⟩:=H.o;obtain⟨g,cap2,e2,hg,hgl,_,_⟩:=hr2.pos (by omega);subst e2;have hW:=HB4.o.trans (hI.mono HB4.o.size);have c0:W.cell? ⟨b,0,none⟩=some (.slice (some ⟨g,0,none⟩) D.length cap2):=(hW.cell (p:=⟨b,0,none⟩) hbl).trans (zJ1 w b 0 _ _ _ hb2);have r0:W.cell? ⟨g,k,none⟩=some (.string ⟨D[k].toArray⟩):=by
   rw[hW.cell (p:=⟨g,k,none⟩) hgl,hr2.cellAt k (by omega)];simp[hk]
  have x0:=(hI.block _ (by omega)).trans HX.o.1;have x1:=(hI.block _ (by omega)).trans HX.o.2.1;have x2:=(hI.block _ (by omega)).trans HX.o.2.2;have d0:=ce0 x0;have d1:=ce0 x1;have d2:=ce0 x2;have f1:=qC x1 0;have f2:=qC x2 0;have i1:(k:Int)<(D.length:Int):=by omega
  have i2:(0:Int)≤(k:Int):=by omega
  have HKD:=Hh hK;have HI:=Hh hI;have HWB:=Hh hW;have X1:=Hh x1;have X2:=Hh x2;clear hb2 hr2 hI hW x0 x1 x2 hK;have hne:w.heap.size+1≠w.heap.size+1+1:=by omega
  gi_wp2
  gi_region
  gi_wp2
  have y1:=qH X1.o 0 (.string ⟨D[k].toArray⟩);have z1:=(zA (W.setCell ⟨w.heap.size+1,0,none⟩ (.string ⟨D[k].toArray⟩)) ⟨w.heap.size+1+1,0,none⟩ .nilIface (w.heap.size+1) hne).trans y1;have z2:=qH ((zA W ⟨w.heap.size+1,0,none⟩ (.string ⟨D[k].toArray⟩) (w.heap.size+1+1) hne.symm).trans X2.o) 0 .nilIface;have HF:=Hh ((((HWB.o.setCell (p:=⟨w.heap.size+1,0,none⟩) (by simp) (.string ⟨D[k].toArray⟩)).setCell (p:=⟨w.heap.size+1+1,0,none⟩) (by simp;omega) .nilIface).drew));have hk1:((W.setCell ⟨w.heap.size+1,0,none⟩ (.string ⟨D[k].toArray⟩)).setCell ⟨w.heap.size+1+1,0,none⟩ .nilIface).drew.heap[Dd]?=some (.deferred (some [])):=by
   refine(zA _ ⟨w.heap.size+1+1,0,none⟩ _ Dd (by simp;omega)).trans ?_;refine(zA _ ⟨w.heap.size+1,0,none⟩ _ Dd (by simp;omega)).trans ?_;exact HKD.o
  have z1':((W.setCell ⟨w.heap.size+1,0,none⟩ (.string ⟨D[k].toArray⟩)).setCell ⟨w.heap.size+1+1,0,none⟩ .nilIface).drew.heap[w.heap.size+1]?=some (.cells #[.string ⟨D[k].toArray⟩] 9 (0,0)):=z1;have z2':((W.setCell ⟨w.heap.size+1,0,none⟩ (.string ⟨D[k].toArray⟩)).setCell ⟨w.heap.size+1+1,0,none⟩ .nilIface).drew.heap[w.heap.size+1+1]?=some (.cells #[.nilIface] 27 (0,0)):=z2;generalize ((W.setCell ⟨w.heap.size+1,0,none⟩ (.string ⟨D[k].toArray⟩)).setCell ⟨w.heap.size+1+1,0,none⟩ .nilIface).drew=W9 at *;have hc4:=cell_kept (zJ1 W9 _ 0 _ _ _ z1') (grownBy_putObj' W9 Dd (.deferred none)) (fun r e=>by cases e;exact⟨_,hk1,rfl⟩);have hc5:=cell_kept (zJ1 W9 _ 0 _ _ _ z2') (grownBy_putObj' W9 Dd (.deferred none)) (fun r e=>by cases e;exact⟨_,hk1,rfl⟩);refine⟨by simp,.inl ⟨_,_,rfl,run_takeDeferred hk1,?_⟩⟩;refine⟨.tuple #[.string ⟨D[k].toArray⟩,.nilIface],?_,rfl,HF.o.trans (belowK_b (w:=w) (zo _) W9 Dd _ _ (by omega) hk1 rfl rfl)⟩;simp[results,Tryz.f244,go_sem,hc4,hc5]
 case stop =>
  rintro Dd c' pre W hDd hF;exact hF.elim
end
end Go.Proofs.YtbmkaekimccdgaaGreatDoor
namespace Stl
def uJ (T:Tab)(x:Ino)(i:Nat):List UInt8:=((x.blocks.take i).map fun k=>T.disk.getD k []).flatten
theorem qK1 (T:Tab)(x:Ino)(i:Nat)(h:x.blocks.length≤i):(uJ T x i).take x.bytes=T.raw x:=by
 unfold uJ Tab.raw;rw[zm h]
theorem qDC (T:Tab)(x:Ino)(i:Nat)(h:i<x.blocks.length)(hk:x.blocks[i]<T.disk.length):uJ T x (i+1)=uJ T x i++T.disk[x.blocks[i]]:=by
 unfold uJ;rw[zn h,zU,List.flatten_append];congr 1;simp[List.getD_eq_getElem?_getD,hk]
theorem qAy {T:Tab}(ht:yX T){x:Ino}(hin:∀ k∈x.blocks,k<T.disk.length):∀ i,i≤x.blocks.length→(uJ T x i).length=16*i
 | 0,_=>rfl
 | i+1,h=>by
  have hi:i<x.blocks.length:=by omega
  have hk:=hin _ (zO hi);rw[qDC T x i hi hk,zP,qAy ht hin i (by omega),ht.whole _ (zO hk)];omega
end Stl
namespace Go.Proofs.YtbmkaekimccdgaaGreatDoor
open Go.RowKit Go.Sort Go.Shelf Stl
section
variable {w:World}{c:Nat→Col}{b:Nat}{T:Tab}
theorem qIY (h:TabAt w c b T)(n:Nat)(hn:n≤1000000)(hx:T.at_ n=none){te:TypeId}{pe:Value}(hg:w.cell? ⟨5,0,none⟩=some (.iface te pe)) :
  Calls Tryz.prog 186 #[.pointer (some ⟨b,0,none⟩),.int .i64 n] w fun e w'=>e=.returned (.tuple #[.string ⟨#[]⟩,.iface te pe])∧Below w.heap.size w w':=by
 obtain⟨bd,bs,bm,st,h⟩:=h;have hlk:=h.lookNo hn hx;have c2:=ce2 h.own;clear h hx;go_enter Tryz.func186,Tryz.ntmps186;go_upto_region 3 with fail
 go_region
 go_wp2;go_ret2;exact⟨rfl,(zB _ _).drew⟩
theorem qJ4 (h:TabAt w c b T)(ht:yX T)(hD:T.disk.length≤1000000)(n:Nat)(hn:n≤1000000){x:Ino}(hx:T.at_ n=some x){te:TypeId}{pe:Value}(hg:w.cell? ⟨10,0,none⟩=some (.iface te pe)) :
  Calls Tryz.prog 186 #[.pointer (some ⟨b,0,none⟩),.int .i64 n] w fun e w'=>e=.returned (.tuple (if crc (T.raw x)=x.sum then #[.string ⟨(T.raw x).toArray⟩,.nilIface] else #[.string ⟨#[]⟩,.iface te pe]))∧Below w.heap.size w w':=by
 obtain⟨bd,bs,bm,st,h⟩:=h;have hlk:=h.lookOk hn hx;have H:=Hh h;have c2:=ce2 h.own;have hbl:=lt_of_cell c2;obtain⟨A,cap,h1,h2,h3,h4⟩:=h.cells hx;have HI:=Hh h1;have HRO:=Hh h4;have HG:=Hh hg;have hgl:=lt_of_cell hg;have hbk:x.blocks.length≤1000:=by rw[ht.need n x hx];have:=ht.bytes n x hx;unfold jL;omega
 have hnb:=ht.need n x hx;have hby:x.bytes≤16*x.blocks.length:=by rw[hnb];unfold jL;omega
 have hby2:=ht.bytes n x hx;have HIN:=Hh (ht.inside n x hx);have HT:=Hh ht;have hB0:=(zB _ w).alloc (zo _) (.cells #[.pointer none,.slice none 0 0] 118);have HB0:=Hh hB0;have q3:=ce3 ((hB0.block _ (qA h1)).trans h1);have HBU:=Hh (show Lib.IsBuilder 118 5 w.heap.size w.heap.size (Lib.byteCells (uJ T x 0)) (w.alloc (.cells #[.pointer none,.slice none 0 0] 118)) from
  .inl ⟨zo _,.slice none 0 0,zK1 _ _,zF1 _ _ _ _,by simp[Value.ownBlock]⟩)
 clear h h1 h2 h3 h4 hx ht hg hB0 hnb;go_enter Tryz.func186,Tryz.ntmps186;go_wp2_with fail;clear hlk c2 q3;generalize w.alloc (.cells #[.pointer none,.slice none 0 0] 118)=w1 at *
 go_loopw [31] (fun a wr=>∃ i:Nat,i≤x.blocks.length∧a=.int .i64 i∧Hg (Below w.heap.size w wr)∧Hg (Lib.IsBuilder 118 5 w.heap.size w.heap.size (Lib.byteCells (uJ T x i)) wr)) (fun a _=>x.blocks.length-(intOf a).toNat)
 case atStart=>exact⟨0,zw _,rfl,HB0,HBU⟩
 case round =>
  obtain⟨i,hi,rfl,HBw,HBr⟩:=hrel;have c0:wr.cell? ⟨b,0,none⟩=some (.pointer (some ⟨bd,0,none⟩)):=(HBw.o.cell (p:=⟨b,0,none⟩) hbl).trans (zJ1 w b 0 _ _ _ H.o.own);by_cases hil:i<x.blocks.length
  ·have i1:(i:Int)<(x.blocks.length:Int):=by omega
   have i2:(0:Int)≤(i:Int):=by omega
   obtain⟨g,off,rfl,hgb,hgc,hj⟩:=(HRO.o.ext (Ext.of_below HBw.o c S0) rfl) (by intro e;rw[e] at hil;simp at hil);have q0:=hj i _ (zL hil);have hkd:=HIN.o _ (zO hil);have HS:=Hh (qDC T x i hil hkd);have HLn:=Hh (qAy HT.o HIN.o i (by omega));have HDR:=Hh (qJS (H.o.disk.ext (Ext.of_below HBw.o c S0) rfl rfl) _ hkd);have hsl:(T.disk[x.blocks[i]]).length=16:=HT.o.whole _ (zO hkd);generalize T.disk[x.blocks[i]]=s at *;generalize x.blocks[i]=k at *;clear hj hkd;go_wp2_with (first
    | (go_at_call 244;refine HDR.o.mono ?_;rintro ev w2 ⟨rfl,hb2⟩)
    | (go_at_call 49;refine(qCO w.heap.size w.heap.size _ ⟨s.toArray⟩ _ (qAE HBr.o hb2) (by rw[Lib.byteCells_length,HLn.o];simp[ByteArray.size];omega) (zq HBw.o.size hb2.size)).mono ?_;rintro ev w3 ⟨rfl,hbu3,hb3,_⟩))
   go_roundw
   case rel =>
    refine⟨i+1,hil,by go_num,Hh ((HBw.o.trans (hb2.mono HBw.o.size)).trans hb3),Hh (.inr ?_)⟩;rw[HS.o,← byteCells_append,← qEl];exact hbu3
   case measure=>simp[intOf];omega
  ·have hie:i=x.blocks.length:=by omega
   have i1:¬ (i:Int)<(x.blocks.length:Int):=by omega
   have HLn:=Hh (qAy HT.o HIN.o i hi);have HRA:=Hh (qK1 T x i (by omega));have hbl2:x.bytes≤(uJ T x i).length:=by rw[HLn.o,hie];exact hby
   have hrl:(uJ T x i).length≤16000:=by rw[HLn.o];omega
   generalize uJ T x i=l at *;have p0:=ce0 ((HBw.o.block _ (qA HI.o)).trans HI.o);have e1:(ByteArray.mk l.toArray).extract 0 x.bytes=⟨(T.raw x).toArray⟩:=by rw[yN,HRA.o]
   have hrw:(T.raw x).length≤1000000:=by rw[← HRA.o];simp;omega
   have i3:(x.bytes:Int)≤(l.length:Int):=by omega
   have i4:(0:Int)≤(x.bytes:Int):=by omega
   have HST:=Hh (Tryz.Builder_String_any w.heap.size w.heap.size l wr.drew (qAE HBr.o ((zB _ wr).drew)) HBw.o.size);clear c0;go_upto_region 13 with fail;have hstl:=lt_of_cell p0
   go_region_held3 (fun w'=>w'.cell? ⟨st n,0,none⟩=some (.int .i64 x.bytes))
    (first
     | exact p0
     | exact p0'
     | go_keep)
    (first
     | (go_at_call 51;refine HST.o.mono ?_;rintro ev w2 ⟨rfl,hb2⟩;have hb2':Below w.heap.size w w2:=HBw.o.trans ⟨hb2.os,hb2.tape,hb2.output,hb2.size,hb2.block⟩;have p0':w2.cell? ⟨st n,0,none⟩=some (.int .i64 x.bytes):=zJ1 w2 _ 0 _ _ _ ((hb2'.block _ (qA HI.o)).trans HI.o))
     | fail)
   have HB2:=Hh hb2';clear hb2 hb2' p0 p0';have HSUM:=Hh (qGT (T.raw x) hrw);clear hstl HST i3 i4;go_upto_region 14 with fail;have p4:=ce4 ((HB2.o.block _ (qA HI.o)).trans HI.o);have hg2:w2.cell? ⟨10,0,none⟩=some (.iface te pe):=(HB2.o.cell (p:=⟨10,0,none⟩) hgl).trans HG.o;by_cases hs:crc (T.raw x)=x.sum
   case pos =>
    rw[hs] at HSUM;have HSQ:=Hh hs;clear hs
    go_region_held3 (fun w'=>w'.cell? ⟨st n,4,none⟩=some (.int .u32 x.sum.toNat))
     (first
      | exact p4
      | go_keep)
     (first
      | (go_at_call 185;refine(HSUM.o _).mono ?_;rintro ev wz ⟨rfl,rfl⟩)
      | fail)
    go_wp2;go_ret2;exact⟨by first | rfl | (rw[zM1 HSQ.o];rfl),HB2.o.drew⟩
   case neg =>
    have HSQ:=Hh hs;have hne:¬ ((crc (T.raw x)).toNat:Int)=(x.sum.toNat:Int):=fun e=>hs (UInt32.toNat_inj.1 (by omega))
    generalize (crc (T.raw x)).toNat=s1 at hne HSUM;clear hs
    go_region_held3 (fun w'=>w'.cell? ⟨st n,4,none⟩=some (.int .u32 x.sum.toNat))
     (first
      | exact p4
      | go_keep)
     (first
      | (go_at_call 185;refine(HSUM.o _).mono ?_;rintro ev wz ⟨rfl,rfl⟩)
      | fail)
    go_upto_region 15 with fail;have HE:=Hh HB2.o.drew;have hg3:w2.drew.cell? ⟨10,0,none⟩=some (.iface te pe):=hg2
    go_region
    go_wp2;go_ret2;exact⟨by first | rfl | (rw[zL1 HSQ.o];rfl),HB2.o.drew.drew⟩
end
end Go.Proofs.YtbmkaekimccdgaaGreatDoor
