/- Texts of this claim, merged: LawPacks, LawFault, LawClos. -/
import Derived.Test.YthogfjmnnaoldaaGreatDoorGm45
import Derived.Test.YthogfjmnnaoldaaGreatDoorGm46
set_option maxHeartbeats 16000000
set_option maxRecDepth 1000000
set_option linter.all false
namespace Go.Proofs.YthogfjmnnaoldaaGreatDoor
open Go.RowKit Go.Sort Go.Shelf Stl
section
variable {w:World} {A:Option Addr} {zs:List PX} {cap:Nat}
theorem qMA (h:PacksAt w A zs) (hz:zs.length≤1000000) (name:List UInt8) (hin:name∈zs.map (·.p.name)) :
  Calls Tryz.prog 27 #[.slice A zs.length cap,.string ⟨name.toArray⟩] w fun e w'=>(∃ i:Nat,e=.returned (.int .i64 (i:Nat)))∧w'=w:=by
 have H:=Hh h
 have HI:=Hh hin
 clear h hin
 go_enter Tryz.func27,Tryz.ntmps27
 go_upto_region 2 with fail
 go_loopw [5] (fun a wr=>wr=w∧∃ k:Nat,k≤zs.length∧a=.int .i64 k∧Hid (∀ y∈zs.take k,y.p.name≠name)) (fun a _=>zs.length-(intOf a).toNat)
 case atStart=>exact ⟨rfl,0,zy _,rfl,Hh (by simp)⟩
 case round =>
  obtain ⟨rfl,k,hk,rfl,HP⟩:=hrel
  by_cases hkl:k<zs.length
  ·obtain ⟨g,off,rfl,hgl,s0,_⟩:=H.out.at hkl
   have i1:(k:Int)<(zs.length:Int):=by omega
   have i2:(0:Int)≤(k:Int):=by omega
   cases hx:zs[k].p.name==name with
   | true =>
    go_wp2
    go_ret
    exact ⟨⟨k,rfl⟩,rfl⟩
   | false =>
    have HN:=Hh (show ∀ y∈zs.take (k+1),y.p.name≠name from fun y hy=>by
     rw [zq hkl] at hy
     rcases zZ.1 hy with h | h
     ·exact HP.out y h
     ·rw [zi.1 h]
      intro e
      rw [e] at hx
      simp at hx)
    go_wp2
    go_roundw
    case rel=>exact ⟨trivial,k+1,hkl,by go_num,HN⟩
    case measure=>simp [intOf];omega
  ·exfalso
   obtain ⟨y,hy,e⟩:=zf.1 HI.out
   have:=HP.out
   rw [zo (by omega)] at this
   exact this y hy e
def PX.bare (y:PX):PX:=y.with ⟨#[]⟩ ⟨#[]⟩ false none 0 0
def qPt (zs:List PX) (w:World) (e:Ending) (w':World):Prop :=
 ∃ (A':Option Addr) (cp':Nat),e=.returned (.slice A' zs.length cp')∧w'.ownsRow w.heap.size 47 6 (.slice A' zs.length cp') zs.length ((zs.map PX.bare).flatMap qBK)∧Below w.heap.size w w'
theorem qMM (h:PacksAt w A zs) (hz:zs.length≤1000000) :
  Calls Tryz.prog 11 #[.slice A zs.length cap] w (qPt zs w):=by
 have H:=Hh h
 clear h
 obtain ⟨i0,hi,hz0,hz1,hz2⟩:=qKx.info
 have Hi:=Hh hi
 have Hz0:=Hh hz0
 have Hz1:=Hh hz1
 have Hz2:=Hh hz2
 clear hi hz0 hz1 hz2
 go_enter Tryz.func11,Tryz.ntmps11
 go_upto_region 3 with fail
 go_loopw [3,4] (fun v a wr=>∃ (j:Nat),a=.int .i64 j∧j≤zs.length∧Hid (Below w.heap.size w wr)∧Hid (wr.ownsRow w.heap.size 47 6 v j (((zs.take j).map PX.bare).flatMap qBK))) (fun _ a _=>zs.length-(intOf a).toNat)
 case atStart=>exact ⟨0,rfl,zy _,Hh (zC _ _),Hh (zG1 _ _ _ _)⟩
 case round =>
  obtain ⟨j,rfl,hj,HB,HO⟩:=hrel
  by_cases hjl:j<zs.length
  ·have i1:(j:Int)<(zs.length:Int):=by omega
   have i2:(0:Int)≤(j:Int):=by omega
   obtain ⟨g,off,rfl,hgl,s0,s1,_⟩:=(H.out.later HB.out).at hjl
   have HTK:=Hh (show ((zs.take (j+1)).map PX.bare).flatMap qBK=((zs.take j).map PX.bare).flatMap qBK++qBK (zs[j].bare) by
    rw [zq hjl,zW,List.flatMap_append];simp)
   generalize zs[j]=y at *
   obtain ⟨A0,cp0,e3⟩:=Stl.owns_slice _ HO.out
   subst e3
   have HO2:=Hh (HO.out.alloc (.cells #[.string ⟨y.p.name.toArray⟩,.slice y.a y.p.refs.length y.cap,.string ⟨#[]⟩,.string ⟨#[]⟩,.bool false,.slice none 0 0] 47))
   have HB2:=Hh (HB.out.alloc HB.out.size (.cells #[.string ⟨y.p.name.toArray⟩,.slice y.a y.p.refs.length y.cap,.string ⟨#[]⟩,.string ⟨#[]⟩,.bool false,.slice none 0 0] 47))
   have HO2d:=Hh (show (wr.alloc (.cells #[.string ⟨y.p.name.toArray⟩,.slice y.a y.p.refs.length y.cap,.string ⟨#[]⟩,.string ⟨#[]⟩,.bool false,.slice none 0 0] 47)).drew.ownsRow w.heap.size 47 6 (.slice A0 j cp0) j (((zs.take j).map PX.bare).flatMap qBK) from HO2.out)
   have HB2d:=Hh HB2.out.drew
   go_upto_region 5 with fail
   go_region_law
    (first
     | (refine Stl.step_app _ (by rfl) (.tmp 11) (.tmp 23) 33 (by rfl) w.heap.size 47 i0 (.agg #[.string ⟨#[]⟩,.slice none 0 0,.string ⟨#[]⟩,.string ⟨#[]⟩,.bool false,.slice none 0 0]) 6 104 Tryz.underlying33 Hi.out Hz0.out Hz1.out Hz2.out rfl (by decide) (.slice A0 j cp0) j _ (by rfl) HO2.out (some ⟨wr.heap.size,0,none⟩) 1 1 [.string ⟨y.p.name.toArray⟩,.slice y.a y.p.refs.length y.cap,.string ⟨#[]⟩,.string ⟨#[]⟩,.bool false,.slice none 0 0] (by rfl) (by simp) (fun h=>by cases h) (qAw _ _ _) (by simp [Value.oneCell']) (by unfold maxLen;omega) (by omega) (zt HB.out.size (by simp)) ?_;intro A8 cp8 w8 hown8 hgr8 _;have HO8:=Hh hown8;have HB8:=Hh (HB2.out.grown hgr8 HB2.out.size (fun k hk=>(HO2.out.lt k hk).1));clear hown8 hgr8)
     | (refine Stl.step_app _ (by rfl) (.tmp 11) (.tmp 23) 33 (by rfl) w.heap.size 47 i0 (.agg #[.string ⟨#[]⟩,.slice none 0 0,.string ⟨#[]⟩,.string ⟨#[]⟩,.bool false,.slice none 0 0]) 6 104 Tryz.underlying33 Hi.out Hz0.out Hz1.out Hz2.out rfl (by decide) (.slice A0 j cp0) j _ (by rfl) HO2d.out (some ⟨wr.heap.size,0,none⟩) 1 1 [.string ⟨y.p.name.toArray⟩,.slice y.a y.p.refs.length y.cap,.string ⟨#[]⟩,.string ⟨#[]⟩,.bool false,.slice none 0 0] (by rfl) (by simp) (fun h=>by cases h) (qAw _ _ _) (by simp [Value.oneCell']) (by unfold maxLen;omega) (by omega) (zt HB.out.size (by simp)) ?_;intro A8 cp8 w8 hown8 hgr8 _;have HO8:=Hh hown8;have HB8:=Hh (HB2d.out.grown hgr8 HB2d.out.size (fun k hk=>(HO2d.out.lt k hk).1));clear hown8 hgr8)
     | fail)
   all_goals
    go_wp2
    go_roundw
    case rel=>exact ⟨j+1,by go_num,hjl,HB8,Hh (by rw [HTK.out];exact HO8.out)⟩
    case measure=>simp [intOf];omega
  ·have i1:¬ (j:Int)<(zs.length:Int):=by omega
   obtain rfl:j=zs.length:=by omega
   obtain ⟨A3,c3,e3⟩:=Stl.owns_slice _ HO.out
   subst e3
   have ho:=HO.out
   rw [zn] at ho
   have HOF:=Hh ho
   clear ho
   go_wp2
   go_ret
   exact ⟨A3,c3,rfl,HOF.out,HB.out⟩
end
abbrev qHD:Value:=.agg #[.int .i64 0,.int .i64 (-1)]
theorem qKR (w:World):Calls Tryz.prog 30 #[] w fun e w'=>e=.returned qHD∧Below w.heap.size w w':=by
 have HB:=Hh ((zC w.heap.size w).alloc (zr _) (.cells #[.int .i64 0,.int .i64 0] 37))
 have HX:=Hh (zL1 w (.cells #[.int .i64 0,.int .i64 0] 37))
 go_enter Tryz.func30,Tryz.ntmps30
 go_upto_region 1 with fail
 generalize w.alloc (.cells #[.int .i64 0,.int .i64 0] 37)=w1 at *
 have z0:w1.cell? ⟨w.heap.size,0,none⟩=some (.int .i64 0):=zK1 w1 _ 0 _ _ _ HX.out
 have z1:w1.cell? ⟨w.heap.size,1,none⟩=some (.int .i64 0):=zK1 w1 _ 1 _ _ _ HX.out
 have f0:w1.frozen? ⟨w.heap.size,0,none⟩=false:=qAb HX.out 0
 have f1:w1.frozen? ⟨w.heap.size,1,none⟩=false:=qAb HX.out 1
 go_wp2_with fail
 have HF:=Hh (show ((w1.setCell ⟨w.heap.size,0,none⟩ (.int .i64 0)).setCell ⟨w.heap.size,1,none⟩ (.int .i64 (-1))).heap[w.heap.size]?=some (.cells #[.int .i64 0,.int .i64 (-1)] 37 (0,0)) from qAd (qAd HX.out 0 (.int .i64 0)) 1 (.int .i64 (-1)))
 have HBF:=Hh ((HB.out.setCell (p:=⟨w.heap.size,0,none⟩) (zr _) (.int .i64 0)).setCell (p:=⟨w.heap.size,1,none⟩) (zr _) (.int .i64 (-1)))
 clear z0 z1 f0 f1
 generalize (w1.setCell ⟨w.heap.size,0,none⟩ (.int .i64 0)).setCell ⟨w.heap.size,1,none⟩ (.int .i64 (-1))=wz at *
 have r0:wz.cell? ⟨w.heap.size,0,none⟩=some (.int .i64 0):=zK1 wz _ 0 _ _ _ HF.out
 have r1:wz.cell? ⟨w.heap.size,1,none⟩=some (.int .i64 (-1)):=zK1 wz _ 1 _ _ _ HF.out
 refine zI1 (v:=qHD) ?_ rfl ⟨rfl,HBF.out⟩
 simp [results,Tryz.results30,go_sem,r0,r1,qHD]
structure PfSt (w1 wr:World) (zs:List PX) (i:Nat) (v:Value):Prop where
 below:Below w1.heap.size w1 wr
 row:wr.ownsRow w1.heap.size 9 1 v i (((zs.take i).map (·.p.name)).map encStr)
theorem qH3:∀ (a:List Pk) (p:Pk) (b:List Pk) (ahead:List (List UInt8)),qB1 ahead (a++p::b)→∀ x∈p.refs,x=p.name∨x∈a.map (·.name)∨x∈ahead
 | [],p,b,ahead,h,x,hx=>(h.1 x hx).imp id .inr
 | q::a,p,b,ahead,h,x,hx=>by
  rcases qH3 a p b (q.name::ahead) h.2 x hx with h1 | h1 | h1
  ·exact .inl h1
  ·exact .inr (.inl (List.mem_cons_of_mem _ h1))
  ·rcases za.1 h1 with h2 | h2
   ·exact .inr (.inl (by rw [h2];exact List.mem_cons_self))
   ·exact .inr (.inr h2)
section
variable {w:World} {A:Option Addr} {zs:List PX} {cap:Nat}
theorem qGk (h:PacksAt w A zs) (hP:qDc (zs.map (·.p))) :
  Calls Tryz.prog 26 #[.slice A zs.length cap] w fun e w'=>e=.returned qHD∧Below w.heap.size w w':=by
 have hz:zs.length≤40:=by have:=hP.many;rwa [zV] at this
 have H:=Hh h
 have HP:=Hh hP
 clear h hP
 obtain ⟨i0,hi,hz0,hz1,hz2⟩:=qFr
 have Hi:=Hh hi
 have Hz0:=Hh hz0
 have Hz1:=Hh hz1
 have Hz2:=Hh hz2
 clear hi hz0 hz1 hz2
 have HB0:=Hh ((zC w.heap.size w).alloc (zr _) (.cells #[.int .i64 0,.int .i64 0] 37))
 have HX:=Hh (zL1 w (.cells #[.int .i64 0,.int .i64 0] 37))
 have n40:(zs.length:Int)≤40:=by omega
 go_enter Tryz.func26,Tryz.ntmps26
 go_upto_region 5 with fail
 generalize w.alloc (.cells #[.int .i64 0,.int .i64 0] 37)=w1 at *
 go_loopw [3,4] (fun v a wr=>∃ (i:Nat),a=.int .i64 i∧i≤zs.length∧Hid (PfSt w1 wr zs i v)) (fun _ a _=>zs.length-(intOf a).toNat)
 case atStart=>exact ⟨0,rfl,zy _,Hh ⟨zC _ _,zG1 _ _ _ _⟩⟩
 case round =>
  obtain ⟨i,rfl,hi,HS⟩:=hrel
  by_cases hil:i<zs.length
  ·have i1:(i:Int)<(zs.length:Int):=by omega
   have i2:(0:Int)≤(i:Int):=by omega
   obtain ⟨g,off,rfl,hgl,s0,s1,s2,s3,s4,s5⟩:=((H.out.later HB0.out).later HS.out.below).at hil
   have hmem:=zP hil
   have hmp:zs[i].p∈zs.map (·.p):=zf.2 ⟨_,hmem,rfl⟩
   have HRF:=Hh ((H.out.refs zs[i] hmem).2)
   have HTK:=Hh (show ((zs.take (i+1)).map (·.p.name)).map encStr=((zs.take i).map (·.p.name)).map encStr++[.string ⟨zs[i].p.name.toArray⟩] by
    rw [zq hil,zW,zW];rfl)
   have HNW:=Hh (HP.out.well _ hmp)
   have hr20:=HP.out.few _ hmp
   have HRI:=Hh (HP.out.rise _ hmp)
   have HNN:=Hh (show ((zs.take i).map (·.p.name)).contains zs[i].p.name=false from by
    have h1:=HP.out.names
    rw [zY] at h1
    have h2:(zs.map (fun y:PX=>y.p.name)).Nodup:=h1
    cases hc:((zs.take i).map (·.p.name)).contains zs[i].p.name with
    | false=>rfl
    | true =>
     exfalso
     have h3:zs[i].p.name∈(zs.take i).map (·.p.name):=by simpa using hc
     rw [← List.take_append_drop i zs,zW] at h2
     rw [zG hil,zX] at h2
     exact (List.nodup_append.1 h2).2.2 _ h3 _ List.mem_cons_self rfl)
   have HRO:=Hh (show ∀ x∈zs[i].p.refs,x=zs[i].p.name∨x∈(zs.take i).map (·.p.name) from fun x hx=>by
    have h1:=HP.out.refs
    rw [← List.take_append_drop i zs,zG hil,zW,zX] at h1
    rcases qH3 _ _ _ _ h1 x hx with h2 | h2 | h2
    ·exact .inl h2
    ·rw [zY] at h2;exact .inr h2
    ·cases h2)
   have hnl:=qBo HNW.out
   clear hmem hmp
   generalize zs[i]=y at *
   have hb5:=(zC wr.heap.size wr).alloc (zr _) (.cells #[.string ⟨y.p.name.toArray⟩,.slice y.a y.p.refs.length y.cap,.string y.t0,.string y.t1,.bool y.t2,.slice y.t3 y.t4 y.t5] 47)
   have HY5:=Hh (zL1 wr (.cells #[.string ⟨y.p.name.toArray⟩,.slice y.a y.p.refs.length y.cap,.string y.t0,.string y.t1,.bool y.t2,.slice y.t3 y.t4 y.t5] 47))
   have HB5:=Hh (HS.out.below.trans (hb5.mono HS.out.below.size))
   have HO5:=Hh (qDj HS.out.row hb5)
   clear hb5
   go_upto_region 8 with fail
   clear s0 s1 s2 s3 s4 s5
   generalize hbx:wr.heap.size=box at *
   generalize wr.alloc (.cells #[.string ⟨y.p.name.toArray⟩,.slice y.a y.p.refs.length y.cap,.string y.t0,.string y.t1,.bool y.t2,.slice y.t3 y.t4 y.t5] 47)=w5 at *
   have q0:w5.cell? ⟨box,0,none⟩=some (.string ⟨y.p.name.toArray⟩):=zK1 w5 _ 0 _ _ _ HY5.out
   have q1:w5.cell? ⟨box,1,none⟩=some (.slice y.a y.p.refs.length y.cap):=zK1 w5 _ 1 _ _ _ HY5.out
   have HNM:=Hh (show Calls Tryz.prog 57 #[.string ⟨y.p.name.toArray⟩] w5 fun e w'=>e=.returned (.bool true)∧w'=w5 from by
    have h1:=qLO y.p.name (by omega) w5
    rwa [HNW.out] at h1)
   have htl:((zs.take i).map (·.p.name)).length=i:=by rw [zV,List.length_take];omega
   have HIT:=Hh (fun x:List UInt8=>qCI x _ ((zs.take i).map (·.p.name)) (by rw [htl];omega) w5 (qAv (by have:=HO5.out;exact this)))
   have HIN:=Hh (show Calls Tryz.prog 13 #[.string ⟨y.p.name.toArray⟩,_] w5 fun e w'=>e=.returned (.bool false)∧w'=w5 from by
    have h1:=HIT.out y.p.name
    rwa [HNN.out] at h1)
   have HRS5:=Hh ((HRF.out.later HB0.out).later HB5.out)
   have n20:(y.p.refs.length:Int)≤20:=by omega
   go_upto_region 17 with (first
    | (go_at_call 57;refine HNM.out.mono ?_;rintro ev wz ⟨rfl,hwz⟩;have hwz:=hwz.symm;subst hwz)
    | (go_at_call 13;refine HIN.out.mono ?_;rintro ev wz ⟨rfl,hwz⟩;have hwz:=hwz.symm;subst hwz)
    | fail)
   clear q0 q1 HNM HIN
   generalize hya:y.a=ya at *
   generalize hyc:y.cap=yc at *
   generalize hyr:y.p.refs=rf at *
   generalize hyn:y.p.name=nm at *
   go_loopw [6,8] (fun e a wq=>∃ k:Nat,e=.int .i64 0∧a=.int .i64 k∧1≤k∧k≤rf.length+1∧Hid (Below w5.heap.size w5 wq)) (fun _ a _=>rf.length+1-(intOf a).toNat)
   case atStart=>exact ⟨1,rfl,rfl,zr _,by omega,Hh (zC _ _)⟩
   case round =>
    obtain ⟨k,rfl,rfl,hk1,hk,HBq⟩:=hrel
    have HYq:=Hh ((HBq.out.block _ (qAa HY5.out)).trans HY5.out)
    have q1:wr.cell? ⟨box,1,none⟩=some (.slice ya rf.length yc):=zK1 wr _ 1 _ _ _ HYq.out
    by_cases hkl:k<rf.length
    ·obtain ⟨g6,off6,rfl,hg6,ck⟩:=(HRS5.out.later HBq.out).cellAt hkl
     obtain ⟨g7,off7,e7,hg7,cm⟩:=(HRS5.out.later HBq.out).cellAt (show k-1<rf.length by omega)
     injection e7 with e7
     injection e7 with e7 e8 _
     subst e7 e8
     have j1:(k:Int)<(rf.length:Int):=by omega
     have j2:(0:Int)≤(k:Int):=by omega
     have j3:IntKind.i64.wrap ((k:Int)-1)=((k-1:Nat):Int):=by rw [wrap_i64 (by omega) (by omega)];omega
     have j4:((k-1:Nat):Int)<(rf.length:Int):=by omega
     have j5:(0:Int)≤((k-1:Nat):Int):=by omega
     have hlt:rf[k-1]<rf[k]:=(List.pairwise_iff_getElem.1 HRI.out) (k-1) k (by omega) hkl (by omega)
     have hb1:Op.bytesLess rf[k] rf[k-1]=false:=by
      cases hq:Op.bytesLess rf[k] rf[k-1] with
      | false=>rfl
      | true =>
       rw [bytesLess_eq,decide_eq_true_iff] at hq
       exact absurd (List.lt_trans hlt hq) (Stl.blt_irrefl _)
     have hb2:(rf[k]==rf[k-1])=false:=by
      rw [zH1]
      intro e
      rw [e] at hlt
      exact Stl.blt_irrefl _ hlt
     clear hlt
     generalize rf[k]=xk at *
     generalize rf[k-1]=xm at *
     go_upto_region 19 with fail
     go_quiet (fail)
     go_wp2
     go_roundw
     case rel=>exact ⟨k+1,rfl,by go_num,by omega,by omega,Hh (Below.drewN HBq.out _)⟩
     case measure=>simp [intOf];omega
    ·have j1:¬ (k:Int)<(rf.length:Int):=by omega
     go_upto_region 22 with fail
     clear q1
     generalize hw6:wr=w6 at *
     clear hw6
     go_loopw [6,9] (fun e a wq=>∃ k:Nat,e=.int .i64 0∧a=.int .i64 k∧k≤rf.length∧Hid (Below w5.heap.size w5 wq)) (fun _ a _=>rf.length-(intOf a).toNat)
     case atStart=>exact ⟨0,rfl,rfl,zy _,HBq⟩
     case round =>
      obtain ⟨k2,rfl,rfl,hk2,HBr⟩:=hrel
      have HYr:=Hh ((HBr.out.block _ (qAa HY5.out)).trans HY5.out)
      have q1:wr.cell? ⟨box,1,none⟩=some (.slice ya rf.length yc):=zK1 wr _ 1 _ _ _ HYr.out
      have q0:wr.cell? ⟨box,0,none⟩=some (.string ⟨nm.toArray⟩):=zK1 wr _ 0 _ _ _ HYr.out
      by_cases hkl2:k2<rf.length
      ·obtain ⟨g6,off6,rfl,hg6,ck⟩:=(HRS5.out.later HBr.out).cellAt hkl2
       have l1:(k2:Int)<(rf.length:Int):=by omega
       have l2:(0:Int)≤(k2:Int):=by omega
       have hro:=HRO.out rf[k2] (zP hkl2)
       generalize rf[k2]=xk at *
       go_upto_region 24 with fail
       cases hxe:xk==nm with
       | true =>
        go_quiet (fail)
        go_wp2
        go_roundw
        case rel=>exact ⟨k2+1,rfl,by go_num,hkl2,Hh (Below.drewN HBr.out _)⟩
        case measure=>simp [intOf];omega
       | false =>
        have hmi:((zs.take i).map (·.p.name)).contains xk=true:=by
         rcases hro with h | h
         ·rw [h] at hxe;simp at hxe
         ·simpa using h
        have HIT2:=Hh (fun n:Nat=>(show Calls Tryz.prog 13 #[.string ⟨xk.toArray⟩,u3] (wr.drewN n) fun e w'=>e=.returned (.bool true)∧w'=wr.drewN n from by
         have h1:=qCI xk u3 ((zs.take i).map (·.p.name)) (by rw [htl];omega) (wr.drewN n) (qAv (qDj (qDj HO5.out HBr.out) (Below.drewN (zC wr.heap.size wr) n)))
         rwa [hmi] at h1))
        go_quiet (exact Calls.quiet_of_same (HIT2.out _))
        go_wp2
        go_roundw
        case rel=>exact ⟨k2+1,rfl,by go_num,hkl2,Hh (Below.drewN HBr.out _)⟩
        case measure=>simp [intOf];omega
      ·have l1:¬ (k2:Int)<(rf.length:Int):=by omega
       have HO6:=Hh ((qDj HO5.out HBr.out).alloc (.cells #[.string ⟨nm.toArray⟩] 9))
       have HB6:=Hh (HB5.out.trans (HBr.out.mono HB5.out.size))
       have HB7:=Hh (HB6.out.alloc HB6.out.size (.cells #[.string ⟨nm.toArray⟩] 9))
       go_wp2_with (at_builtin;refine Stl.wpList_app _ rfl _ _ 22 rfl w1.heap.size 9 i0 (.string ByteArray.empty) 1 16 Tryz.underlying22 Hi.out Hz0.out Hz1.out Hz2.out rfl (by decide) u3 i _ rfl HO6.out (some ⟨wr.heap.size,0,none⟩) 1 1 [.string ⟨nm.toArray⟩] rfl rfl (fun h=>by cases h) (qAw _ _ _) (by simp [Value.oneCell']) (by unfold maxLen;omega) (by omega) (zt HB6.out.size (by simp)) ?_;intro A7 c7 w7 hown7 hgr7 hat7;have HO8:=Hh hown7;have HB8:=Hh (HB7.out.grown hgr7 HB7.out.size (fun k hk=>(HO6.out.lt k hk).1));clear hown7 hgr7 hat7)
       go_roundw
       case rel=>exact ⟨i+1,by go_num,hil,Hh ⟨HB8.out,by rw [HTK.out];exact HO8.out⟩⟩
       case measure=>simp [intOf];omega
  ·have i1:¬ (i:Int)<(zs.length:Int):=by omega
   obtain rfl:i=zs.length:=by omega
   have HFN:=Hh (qKR wr)
   have HX1:=Hh ((HS.out.below.block _ (qAa HX.out)).trans HX.out)
   have HBw:=Hh (HB0.out.trans (HS.out.below.mono HB0.out.size))
   have b0:wr.cell? ⟨w.heap.size,0,none⟩=some (.int .i64 0):=zK1 wr _ 0 _ _ _ HX1.out
   have b1:wr.cell? ⟨w.heap.size,1,none⟩=some (.int .i64 0):=zK1 wr _ 1 _ _ _ HX1.out
   clear b0 b1
   go_wp2_with (go_at_call 30;refine HFN.out.mono ?_;rintro ev w2 ⟨rfl,hb2⟩;have HB2:=Hh (HBw.out.trans (hb2.mono HBw.out.size));have hx2:=(hb2.block _ (qAa HX1.out)).trans HX1.out;have HX2:=Hh hx2;have b0:w2.cell? ⟨w.heap.size,0,none⟩=some (.int .i64 0):=zK1 w2 _ 0 _ _ _ hx2;have b1:w2.cell? ⟨w.heap.size,1,none⟩=some (.int .i64 0):=zK1 w2 _ 1 _ _ _ hx2;have f0:w2.frozen? ⟨w.heap.size,0,none⟩=false:=qAb hx2 0;have f1:w2.frozen? ⟨w.heap.size,1,none⟩=false:=qAb hx2 1;clear hb2 hx2)
   have HF:=Hh (show ((w2.setCell ⟨w.heap.size,0,none⟩ (.int .i64 0)).setCell ⟨w.heap.size,1,none⟩ (.int .i64 (-1))).heap[w.heap.size]?=some (.cells #[.int .i64 0,.int .i64 (-1)] 37 (0,0)) from qAd (qAd HX2.out 0 (.int .i64 0)) 1 (.int .i64 (-1)))
   have HBF:=Hh ((HB2.out.setCell (p:=⟨w.heap.size,0,none⟩) (zr _) (.int .i64 0)).setCell (p:=⟨w.heap.size,1,none⟩) (zr _) (.int .i64 (-1)))
   clear b0 b1 f0 f1
   generalize (w2.setCell ⟨w.heap.size,0,none⟩ (.int .i64 0)).setCell ⟨w.heap.size,1,none⟩ (.int .i64 (-1))=wz at *
   have r0:wz.cell? ⟨w.heap.size,0,none⟩=some (.int .i64 0):=zK1 wz _ 0 _ _ _ HF.out
   have r1:wz.cell? ⟨w.heap.size,1,none⟩=some (.int .i64 (-1)):=zK1 wz _ 1 _ _ _ HF.out
   refine zI1 (v:=qHD) ?_ rfl ⟨rfl,HBF.out⟩
   simp [results,Tryz.results26,go_sem,r0,r1,qHD]
end
theorem qJp (x:List UInt8):∀ l:List (List UInt8),(ins x l).length≤l.length+1
 | []=>zr _
 | y::r=>by
  have:=qJp x r
  unfold ins
  split
  ·simp;omega
  ·split
   ·simp
   ·simp
theorem qF6 (l:List (List UInt8)) (x:List UInt8) (acc:List (List UInt8)):insAll (l++[x]) acc=ins x (insAll l acc):=by
 unfold insAll
 rw [List.foldl_append]
 rfl
theorem qNe {w w':World} {v:Value} {l:List (List UInt8)} (h:Row w v l) (hb:Below w.heap.size w w'):Row w' v l:=qDj h hb
theorem qI8 {w:World} {v:Value} {l:List (List UInt8)} (h:Row w v l):Strs w v l:=qAv h
theorem qP9 {w:World} {v:Value} {l:List (List UInt8)} (h:Row w v l) {b:Nat} {cs:Array Value} (hb:w.heap[b]?=some (.cells cs 37 (0,0))) {u0 u1:Value}:Row ((w.setCell ⟨b,0,none⟩ u0).setCell ⟨b,1,none⟩ u1) v l:=by
 refine ⟨h.1,?_⟩
 rcases h.2 with h2 | ⟨g,cp,cur,e,h5,h6,h7⟩
 ·exact .inl h2
 ·have hne:g≠b:=by
   intro e2
   rw [e2,hb] at h6
   injection h6 with h6
   injection h6 with _ h8 _
   exact absurd h8 (by decide)
  exact .inr ⟨g,cp,cur,e,h5,by rw [zB _ ⟨b,1,none⟩ _ g hne,zB _ ⟨b,0,none⟩ _ g hne];exact h6,h7⟩
def qPG (w:World) (res:List (List UInt8)) (e:Ending) (w':World):Prop:=∃ v,e=.returned (.tuple #[v,qHD])∧Row w' v res∧Below w.heap.size w w'
section
variable {w:World} {A:Option Addr} {zs:List PX} {cap:Nat}
theorem qHL (h:PacksAt w A zs) (hP:qDc (zs.map (·.p))) {An:Option Addr} {cn:Nat} {names:List (List UInt8)} (hn:Strs w (.slice An names.length cn) names) (hnl:names.length≤1000) (hin:∀ x∈names,x∈zs.map (·.p.name)) :
  Calls Tryz.prog 10 #[.slice A zs.length cap,.slice An names.length cn] w (qPG w (closure (zs.map (·.p)) names)):=by
 have hz:zs.length≤40:=by have:=hP.many;rwa [zV] at this
 have H:=Hh h
 have HP:=Hh hP
 have HN:=Hh hn
 have HI:=Hh hin
 have HR20:=Hh (show ∀ y∈zs,y.p.refs.length≤20 from fun y hy=>hP.few y.p (zf.2 ⟨y,hy,rfl⟩))
 have HCL:=Hh (show closure (zs.map (·.p)) names=qAi (zs.map (·.p)).reverse (insAll names []) from rfl)
 generalize closure (zs.map (·.p)) names=res at HCL ⊢
 clear h hP hn hin
 have HB0:=Hh ((zC w.heap.size w).alloc (zr _) (.cells #[.int .i64 0,.int .i64 0] 37))
 have HX:=Hh (zL1 w (.cells #[.int .i64 0,.int .i64 0] 37))
 go_enter Tryz.func10,Tryz.ntmps10
 go_upto_region 1 with fail
 generalize w.alloc (.cells #[.int .i64 0,.int .i64 0] 37)=w1 at *
 have HPF:=Hh (qGk (cap:=cap) (H.out.later HB0.out) HP.out)
 go_upto_region 2 with (go_at_call 26;refine HPF.out.mono ?_;rintro ev w2 ⟨rfl,hb2⟩;have HB2:=Hh hb2;clear hb2)
 have HB23:=Hh ((zC w2.heap.size w2).alloc (zr _) (.cells #[.int .i64 0,.int .i64 (-1)] 37))
 have HX3:=Hh (zL1 w2 (.cells #[.int .i64 0,.int .i64 (-1)] 37))
 generalize w2.alloc (.cells #[.int .i64 0,.int .i64 (-1)] 37)=w3 at *
 have HB13:=Hh (HB2.out.trans (HB23.out.mono HB2.out.size))
 have c0:w3.cell? ⟨w2.heap.size,0,none⟩=some (.int .i64 0):=zK1 w3 _ 0 _ _ _ HX3.out
 have H3:=Hh ((H.out.later HB0.out).later HB13.out)
 have HN3:=Hh ((HN.out.later HB0.out).later HB13.out)
 have HXr:=Hh ((HB13.out.block _ (qAa HX.out)).trans HX.out)
 have HB3:=Hh (HB0.out.trans (HB13.out.mono HB0.out.size))
 go_upto_region 6 with fail
 clear c0
 go_loopw [7,8] (fun v a wr=>∃ i:Nat,a=.int .i64 i∧i≤names.length∧(insAll (names.take i) []).length≤i∧Hid (Row wr v (insAll (names.take i) []))∧Hid (Below w3.heap.size w3 wr)) (fun _ a _=>names.length-(intOf a).toNat)
 case atStart=>exact ⟨0,rfl,zy _,zr _,Hh (zG1 _ _ _ _),Hh (zC _ _)⟩
 case round =>
  obtain ⟨i,rfl,hi,hlen,HR,HB⟩:=hrel
  by_cases hil:i<names.length
  ·have i1:(i:Int)<(names.length:Int):=by omega
   have i2:(0:Int)≤(i:Int):=by omega
   obtain ⟨g,off,rfl,hgl,q0⟩:=(HN3.out.later HB.out).cellAt hil
   have HTK:=Hh (show insAll (names.take (i+1)) []=ins names[i] (insAll (names.take i) []) from by rw [zq hil,qF6])
   have hil2:=qJp names[i] (insAll (names.take i) [])
   rw [← HTK.out] at hil2
   have HFI:=Hh (qMA (cap:=cap) (H3.out.later HB.out) (by omega) names[i] (HI.out _ (zP hil)))
   have HWT:=Hh (qKC u7 (insAll (names.take i) []) names[i] (by omega) wr HR.out)
   generalize names[i]=x at *
   go_upto_region 10 with (go_at_call 27;refine HFI.out.mono ?_;rintro ev wz ⟨⟨q,rfl⟩,hwz⟩;have hwz:=hwz.symm;subst hwz;have hq:(0:Int)≤(q:Int):=Int.natCast_nonneg q)
   go_wp2_with (go_at_call 29;refine HWT.out.mono ?_;rintro ev w5 ⟨v5,rfl,hr5,hb5⟩;have HR5:=Hh hr5;have HB5:=Hh (HB.out.trans (hb5.mono HB.out.size));clear hr5 hb5)
   go_roundw
   case rel=>exact ⟨i+1,by go_num,hil,by omega,Hh (by rw [HTK.out];exact HR5.out),HB5⟩
   case measure=>simp [intOf];omega
  ·have i1:¬ (i:Int)<(names.length:Int):=by omega
   obtain rfl:i=names.length:=by omega
   rw [zn] at HR hlen
   generalize insAll names []=S0 at HR hlen HCL
   generalize hw4:wr=w4 at *
   clear hw4
   have k0:IntKind.i64.wrap ((zs.length:Int)-1)=(zs.length:Int)-1:=wrap_i64 (by omega) (by omega)
   go_upto_region 12 with fail
   go_loopw [7,9] (fun v a wq=>∃ m:Nat,m≤zs.length∧(m=0→a=.int .i64 (-1))∧(∀ j:Nat,m=j+1→a=.int .i64 j)∧(qAi ((zs.map (·.p)).drop m).reverse S0).length≤names.length+(zs.length-m)*20∧Hid (Row wq v (qAi ((zs.map (·.p)).drop m).reverse S0))∧Hid (Below w3.heap.size w3 wq)) (fun _ a _=>(intOf a+1).toNat)
   case atStart =>
    refine ⟨zs.length,zr _,fun e=>?_,fun j e=>?_,?_,?_,HB⟩
    ·rw [e];rfl
    ·congr 1;omega
    ·rw [show (zs.map (·.p)).drop zs.length=[] from by rw [List.drop_eq_nil_iff,zV];exact zr _]
     show S0.length≤_
     omega
    ·rw [show (zs.map (·.p)).drop zs.length=[] from by rw [List.drop_eq_nil_iff,zV];exact zr _]
     exact HR
   case round =>
    obtain ⟨m,hm,hz0',hzs,hol,HRq,HBq⟩:=hrel
    rcases m with _ | j
    ·obtain rfl:=hz0' rfl
     clear hz0' hzs
     rw [List.drop_zero,← HCL.out] at HRq
     have HFN:=Hh (qKR wr)
     have HX4:=Hh ((HBq.out.block _ (qAa HXr.out)).trans HXr.out)
     have HBw:=Hh (HB3.out.trans (HBq.out.mono HB3.out.size))
     go_wp2_with (go_at_call 30;refine HFN.out.mono ?_;rintro ev w6 ⟨rfl,hb2⟩;have HB2':=Hh (HBw.out.trans (hb2.mono HBw.out.size));have HRf:=Hh (qNe HRq.out hb2);have hx2:=(hb2.block _ (qAa HX4.out)).trans HX4.out;have HX2:=Hh hx2;have b0:w6.cell? ⟨w.heap.size,0,none⟩=some (.int .i64 0):=zK1 w6 _ 0 _ _ _ hx2;have b1:w6.cell? ⟨w.heap.size,1,none⟩=some (.int .i64 0):=zK1 w6 _ 1 _ _ _ hx2;have f0:w6.frozen? ⟨w.heap.size,0,none⟩=false:=qAb hx2 0;have f1:w6.frozen? ⟨w.heap.size,1,none⟩=false:=qAb hx2 1;clear hb2 hx2)
     have HF:=Hh (show ((w6.setCell ⟨w.heap.size,0,none⟩ (.int .i64 0)).setCell ⟨w.heap.size,1,none⟩ (.int .i64 (-1))).heap[w.heap.size]?=some (.cells #[.int .i64 0,.int .i64 (-1)] 37 (0,0)) from qAd (qAd HX2.out 0 (.int .i64 0)) 1 (.int .i64 (-1)))
     have HBF:=Hh ((HB2'.out.setCell (p:=⟨w.heap.size,0,none⟩) (zr _) (.int .i64 0)).setCell (p:=⟨w.heap.size,1,none⟩) (zr _) (.int .i64 (-1)))
     have HRF:=Hh (show Row ((w6.setCell ⟨w.heap.size,0,none⟩ (.int .i64 0)).setCell ⟨w.heap.size,1,none⟩ (.int .i64 (-1))) u7 res from qP9 HRf.out HX2.out)
     clear b0 b1 f0 f1
     generalize (w6.setCell ⟨w.heap.size,0,none⟩ (.int .i64 0)).setCell ⟨w.heap.size,1,none⟩ (.int .i64 (-1))=wz at *
     have r0:wz.cell? ⟨w.heap.size,0,none⟩=some (.int .i64 0):=zK1 wz _ 0 _ _ _ HF.out
     have r1:wz.cell? ⟨w.heap.size,1,none⟩=some (.int .i64 (-1)):=zK1 wz _ 1 _ _ _ HF.out
     refine zI1 (v:=.tuple #[u7,qHD]) ?_ rfl ⟨u7,rfl,HRF.out,HBF.out⟩
     simp [results,Tryz.results10,go_sem,r0,r1,qHD]
    ·obtain rfl:=hzs j rfl
     clear hz0' hzs
     have hjl:j<zs.length:=by omega
     have l1:(j:Int)<(zs.length:Int):=by omega
     have l2:(0:Int)≤(j:Int):=by omega
     have l3:IntKind.i64.wrap ((j:Int)-1)=(j:Int)-1:=wrap_i64 (by omega) (by omega)
     have hdr:(zs.map (·.p)).drop j=zs[j].p::(zs.map (·.p)).drop (j+1):=by
      rw [zG (by rw [zV];exact hjl),List.getElem_map]
     have HCO:=Hh (show qAi ((zs.map (·.p)).drop j).reverse S0=if (qAi ((zs.map (·.p)).drop (j+1)).reverse S0).contains zs[j].p.name then insAll zs[j].p.refs (qAi ((zs.map (·.p)).drop (j+1)).reverse S0) else qAi ((zs.map (·.p)).drop (j+1)).reverse S0 from by
      rw [hdr,List.reverse_cons,qBQ]
      rfl)
     have hr20:=HR20.out zs[j] (zP hjl)
     have HPA:=Hh (fun (W:World) (hb:Below w3.heap.size w3 W)=>(H3.out.later hb).at hjl)
     have HRS:=Hh (fun (W:World) (hb:Below w3.heap.size w3 W)=>((H3.out.later hb).refs zs[j] (zP hjl)).2)
     clear hdr
     generalize hoj:qAi ((zs.map (·.p)).drop j).reverse S0=outj at HCO
     have HOJ:=Hh hoj
     clear hoj
     generalize qAi ((zs.map (·.p)).drop (j+1)).reverse S0=out at *
     generalize zs[j]=y at *
     obtain ⟨g,off,hA,hgl,s0,s1,_⟩:=HPA.out wr HBq.out
     subst hA
     have HIT:=Hh (qCI y.p.name u7 out (by omega) wr (qI8 HRq.out))
     cases hct:out.contains y.p.name with
     | false =>
      rw [hct] at HIT HCO
      clear hct
      go_wp2_with (go_at_call 13;refine HIT.out.mono ?_;rintro ev wz ⟨rfl,hwz⟩;have hwz:=hwz.symm;subst hwz)
      go_roundw
      case rel =>
       refine ⟨j,by omega,fun e=>?_,fun j' e=>?_,?_,Hh ?_,HBq⟩
       ·rw [e];rfl
       ·congr 1;omega
       ·rw [HOJ.out,HCO.out];show out.length≤_;omega
       ·rw [HOJ.out,HCO.out];exact HRq.out
      case measure=>(simp [intOf];try omega)
     | true =>
      rw [hct] at HIT HCO
      clear hct
      go_upto_region 16 with (go_at_call 13;refine HIT.out.mono ?_;rintro ev wz ⟨rfl,hwz⟩;have hwz:=hwz.symm;subst hwz)
      clear s0 s1 HIT
      go_loopw [7,10] (fun v a wq=>∃ k:Nat,a=.int .i64 k∧k≤y.p.refs.length∧(insAll (y.p.refs.take k) out).length≤out.length+k∧Hid (Row wq v (insAll (y.p.refs.take k) out))∧Hid (Below w3.heap.size w3 wq)) (fun _ a _=>y.p.refs.length-(intOf a).toNat)
      case atStart=>exact ⟨0,rfl,zy _,zr _,HRq,HBq⟩
      case round =>
       obtain ⟨k,rfl,hk,hkl,HRk,HBk⟩:=hrel
       obtain ⟨g2,off2,hA,hgl2,s0,s1,_⟩:=HPA.out wr HBk.out
       injection hA with hA
       injection hA with e1 e2 _
       subst e1 e2
       by_cases hkr:k<y.p.refs.length
       ·have n1:(k:Int)<(y.p.refs.length:Int):=by omega
        have n2:(0:Int)≤(k:Int):=by omega
        obtain ⟨g6,off6,hA6,hg6,ck⟩:=(HRS.out wr HBk.out).cellAt hkr
        rw [hA6] at s1
        have HTK:=Hh (show insAll (y.p.refs.take (k+1)) out=ins y.p.refs[k] (insAll (y.p.refs.take k) out) from by rw [zq hkr,qF6])
        have hil2:=qJp y.p.refs[k] (insAll (y.p.refs.take k) out)
        rw [← HTK.out] at hil2
        have HWT:=Hh (qKC u7 (insAll (y.p.refs.take k) out) y.p.refs[k] (by omega) wr HRk.out)
        generalize y.p.refs[k]=x at *
        go_wp2_with (go_at_call 29;refine HWT.out.mono ?_;rintro ev w5 ⟨v5,rfl,hr5,hb5⟩;have HR5:=Hh hr5;have HB5:=Hh (HBk.out.trans (hb5.mono HBk.out.size));clear hr5 hb5)
        go_roundw
        case rel=>exact ⟨k+1,by go_num,hkr,by omega,Hh (by rw [HTK.out];exact HR5.out),HB5⟩
        case measure=>(simp [intOf];try omega)
       ·have n1:¬ (k:Int)<(y.p.refs.length:Int):=by omega
        obtain rfl:k=y.p.refs.length:=by omega
        rw [zn] at HRk hkl
        go_wp2
        go_roundw
        case rel =>
         refine ⟨j,by omega,fun e=>?_,fun j' e=>?_,?_,Hh ?_,HBk⟩
         ·rw [e];rfl
         ·congr 1;omega
         ·rw [HOJ.out,HCO.out];show (insAll y.p.refs out).length≤_;omega
         ·rw [HOJ.out,HCO.out];exact HRk.out
        case measure=>(simp [intOf];try omega)
end
end Go.Proofs.YthogfjmnnaoldaaGreatDoor
