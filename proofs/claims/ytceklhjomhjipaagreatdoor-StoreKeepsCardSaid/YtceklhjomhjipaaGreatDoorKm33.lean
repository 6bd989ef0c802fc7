/- Texts of this claim, merged: StoRead, Users, StoNeed. -/
import Derived.Test.YtceklhjomhjipaaGreatDoorKm32
set_option maxHeartbeats 16000000
set_option maxRecDepth 1000000
set_option linter.all false
namespace Go.Proofs.YtceklhjomhjipaaGreatDoor
open Go.RowKit Go.Sort Go.Shelf Stl
def TlPost (p:Nat→Addr) (w:World) (r:Except Nat (List UInt8)) (ev:Ending) (w':World):Prop :=
 ∃ (a:ByteArray) (er:Value),ev=.returned (.tuple #[.string a,er])∧Below w.heap.size w w' ∧
  match r with
  | .error cd=>er=qAB p cd∧cd≠0
  | .ok x=>er=.nilIface∧a=⟨x.toArray⟩
section
variable {w:World} {A:Option Addr} {zs:List PkX} {c:Nat→Col} {b:Nat} {s:Sto} {bd:Nat} {cap:Nat} {R:Option Addr} {rc tp:Nat} {p:Nat→Addr}
theorem qNe (h:StoX w c b s bd A cap zs R rc tp) (hg:qAS s) (hE:Env w c p) (rest:List UInt8) (hr:rest.length≤1000000) :
  Calls Tryz.prog 44 #[.pointer (some ⟨b,0,none⟩),.string ⟨rest.toArray⟩] w (TlPost p w (s.read rest)):=by
 have H:=Hh h
 have HG:=Hh hg
 have HE:=Hh hE
 obtain ⟨res,hres⟩:∃ res,res=s.read rest:=⟨_,rfl⟩
 rw [← hres]
 unfold Sto.read at hres
 clear h hg hE
 cases hc:cutAt 32 rest with
 | none =>
  rw [hc] at hres
  have HRS:=Hh (show res=.error 1 from hres)
  have HCUT:=Hh (qE8 32 hc (by omega) w HE.out.max)
  clear hc hres
  go_enter Tryz.func44,Tryz.ntmps44
  go_upto_region 3 with (go_at_call 37;refine HCUT.out.mono ?_;rintro ev w1 ⟨rfl,hb1⟩;have HB1:=Hh hb1;clear hb1)
  have hg:w1.cell? ⟨3,0,none⟩=some (.iface 377 (.pointer (some (p 1)))):=((HE.out.errs.later HB1.out).cell 1 (by decide) (by decide)).trans (by rw [qAc p (by decide)])
  go_quiet (fail)
  go_wp2
  go_ret2
  rw [HRS.out]
  exact ⟨_,_,rfl,Below.drewN HB1.out _,by rw [qAc p (by decide)];rfl,by decide⟩
 | some q =>
  obtain ⟨name,pt⟩:=q
  rw [hc] at hres
  simp only at hres
  have hnl:=qDV 32 hc
  have HCUT:=Hh (qDh 32 hc (by omega) w HE.out.max)
  clear hc
  go_enter Tryz.func44,Tryz.ntmps44
  go_upto_region 4 with (go_at_call 37;refine HCUT.out.mono ?_;rintro ev w1 ⟨rfl,hb1⟩;have HB1:=Hh hb1;clear hb1)
  have HTR:=Hh (qO1 (H.out.below HB1.out) HG.out (HE.out.below HB1.out) name)
  cases ht:s.tree name with
  | error cd =>
   rw [ht] at hres HTR
   have HRS:=Hh (show res=.error cd from hres)
   clear ht hres
   go_upto_region 5 with (go_at_call 90;refine HTR.out.mono ?_;rintro ev w2 ⟨hb2,a0,a1,a2,A4,m4,cp4,er,rfl,rfl,hcd⟩;have HB2:=Hh (HB1.out.trans (hb2.mono HB1.out.size));have HEO:=Hh (qAc p hcd);have HCD:=Hh hcd;clear hb2 hcd)
   have HB3:=Hh (HB2.out.alloc HB2.out.size (.cells #[.string a0,.string a1,.bool a2,.slice A4 m4 cp4] 114))
   rw [HEO.out]
   go_wp2
   go_ret2
   rw [HRS.out]
   exact ⟨_,_,rfl,HB3.out,by rw [HEO.out];rfl,HCD.out⟩
  | ok n =>
   rw [ht] at hres HTR
   simp only at hres
   clear ht
   go_upto_region 5 with (go_at_call 90;refine HTR.out.mono ?_;rintro ev w2 ⟨hb2,a0,a1,a2,A4,m4,cp4,er,rfl,rfl,hn2⟩;have HB2:=Hh (HB1.out.trans (hb2.mono HB1.out.size));have HN2:=Hh (NodeP.at _ _ hn2);clear hb2 hn2)
   have hb3:=(zB w2.heap.size w2).alloc (zq _) (.cells #[.string a0,.string a1,.bool a2,.slice A4 m4 cp4] 114)
   have HY3:=Hh (zK1 w2 (.cells #[.string a0,.string a1,.bool a2,.slice A4 m4 cp4] 114))
   have HN3:=Hh (NodeAt.later hb3 _ _ HN2.out)
   have HB3:=Hh (HB2.out.alloc HB2.out.size (.cells #[.string a0,.string a1,.bool a2,.slice A4 m4 cp4] 114))
   clear hb3
   go_upto_region 7 with fail
   generalize w2.alloc (.cells #[.string a0,.string a1,.bool a2,.slice A4 m4 cp4] 114)=w3 at *
   have q0:=ce0 HY3.out
   have q1:=ce1 HY3.out
   have q2:=ce2 HY3.out
   have q3:=ce3 HY3.out
   have HPG:=Hh (qKv (p:=p) n _ pt (by omega) w3 (HE.out.errs.later HB3.out) (HE.out.below HB3.out).max HN3.out)
   cases hgp:getPath n pt with
   | error cd =>
    rw [hgp] at hres HPG
    have HRS:=Hh (show res=.error cd from hres)
    clear hgp hres
    go_upto_region 8 with (go_at_call 91;refine HPG.out.mono ?_;rintro ev w4 ⟨hb4,e0,e1,e2,A5,m5,cp5,er,rfl,rfl,hcd⟩;have HB4:=Hh (HB3.out.trans (hb4.mono HB3.out.size));have HEO:=Hh (qAc p hcd);have HCD:=Hh hcd;clear hb4 hcd)
    have HB5:=Hh (HB4.out.alloc HB4.out.size (.cells #[.string e0,.string e1,.bool e2,.slice A5 m5 cp5] 114))
    rw [HEO.out]
    clear q0 q1 q2 q3
    go_wp2
    go_ret2
    rw [HRS.out]
    exact ⟨_,_,rfl,HB5.out,by rw [HEO.out];rfl,HCD.out⟩
   | ok x =>
    rw [hgp] at hres HPG
    have HRS:=Hh (show res=.ok (qFf x) from hres)
    have hkk:=qPe hgp
    obtain ⟨k,d,e,ks⟩:=x
    have HKL:=Hh (show ∀ q∈ks,q.1.length≤12 from hkk.2)
    have hkl:ks.length≤200:=hkk.1
    clear hgp hres hkk
    go_upto_region 8 with (go_at_call 91;refine HPG.out.mono ?_;rintro ev w4 ⟨hb4,e0,e1,e2,A5,m5,cp5,er,rfl,rfl,hn4⟩;have HB4:=Hh (HB3.out.trans (hb4.mono HB3.out.size));have HN4:=Hh (NodeP.at _ _ hn4);clear hb4 hn4)
    obtain ⟨A6,cp6,hq,_,hks⟩:=NodeAt.open HN4.out
    simp only [zD,Value.string.injEq,Value.bool.injEq,zC1,and_true] at hq
    obtain ⟨rfl,rfl,rfl,rfl,rfl,rfl⟩:=hq
    have hb5:=(zB w4.heap.size w4).alloc (zq _) (.cells #[.string ⟨k.toArray⟩,.string ⟨d.toArray⟩,.bool e2,.slice A5 ks.length cp5] 114)
    have HY5:=Hh (zK1 w4 (.cells #[.string ⟨k.toArray⟩,.string ⟨d.toArray⟩,.bool e2,.slice A5 ks.length cp5] 114))
    have HN5:=Hh (NodeAt.later hb5 _ _ HN4.out)
    have HB5:=Hh (HB4.out.alloc HB4.out.size (.cells #[.string ⟨k.toArray⟩,.string ⟨d.toArray⟩,.bool e2,.slice A5 ks.length cp5] 114))
    clear hb5 q0 q1 q2 q3 hks
    go_upto_region 10 with fail
    generalize w4.alloc (.cells #[.string ⟨k.toArray⟩,.string ⟨d.toArray⟩,.bool e2,.slice A5 ks.length cp5] 114)=w5 at *
    have q0:=ce0 HY5.out
    have q1:=ce1 HY5.out
    have q3:=ce3 HY5.out
    cases h1:k==[102,105,108,101] with
    | true =>
     have HT:=Hh (show qFf (.mk k d e2 ks)=d from (show qFf (.mk k d e2 ks)=(if k=kFile then d else if k=kLink then 45::62::d else qAx (ks.map (·.1))) from rfl).trans (zM1 (eq_of_beq h1)))
     go_wp2
     go_ret2
     rw [HRS.out,HT.out]
     exact ⟨_,_,rfl,HB5.out,rfl,rfl⟩
    | false =>
     cases h2:k==[108,105,110,107] with
     | true =>
      have HT:=Hh (show qFf (.mk k d e2 ks)=45::62::d from (show qFf (.mk k d e2 ks)=(if k=kFile then d else if k=kLink then 45::62::d else qAx (ks.map (·.1))) from rfl).trans ((zL1 (fun hk=>by rw [hk] at h1;exact absurd h1 (by decide))).trans (zM1 (eq_of_beq h2))))
      go_wp2
      go_ret2
      rw [HRS.out,HT.out]
      exact ⟨_,_,rfl,HB5.out,rfl,ByteArray.ext (by simp)⟩
     | false =>
      have HT:=Hh (show qFf (.mk k d e2 ks)=qAx (ks.map (·.1)) from (show qFf (.mk k d e2 ks)=(if k=kFile then d else if k=kLink then 45::62::d else qAx (ks.map (·.1))) from rfl).trans ((zL1 (fun hk=>by rw [hk] at h1;exact absurd h1 (by decide))).trans (zL1 (fun hk=>by rw [hk] at h2;exact absurd h2 (by decide)))))
      go_upto_region 17 with fail
      clear q0 q1 q3
      obtain ⟨i0,hi,hz0,hz1,hz2⟩:=qGB
      have Hi:=Hh hi
      have Hz0:=Hh hz0
      have Hz1:=Hh hz1
      have Hz2:=Hh hz2
      clear hi hz0 hz1 hz2
      go_loopw [12,56] (fun v a wr=>∃ (j:Nat),a=.int .i64 j∧j≤ks.length∧Hid (Below w5.heap.size w5 wr)∧Hid (wr.ownsRow w5.heap.size 9 1 v j (((ks.take j).map (·.1)).map encStr))) (fun _ a _=>ks.length-(intOf a).toNat)
      case atStart=>exact ⟨0,rfl,zx _,Hh (zB _ _),Hh (zF1 _ _ _ _)⟩
      case round =>
       obtain ⟨j,rfl,hj,HB,HO⟩:=hrel
       by_cases hjl:j<ks.length
       ·have i1:(j:Int)<(ks.length:Int):=by omega
        have i2:(0:Int)≤(j:Int):=by omega
        obtain ⟨A7,c7,hq,_,hks⟩:=NodeAt.open (NodeAt.later HB.out _ _ HN5.out)
        simp only [zD,zC1,and_true,true_and] at hq
        obtain ⟨rfl,rfl⟩:=hq
        obtain ⟨g,off,rfl,hgl,hka⟩:=hks (by intro e;rw [e] at hjl;simp at hjl)
        obtain ⟨⟨s0,_⟩,v0,v1,v2,v3,s1,s2,s3,s4,hsub⟩:=KidsAt.at ks off j ks[j].1 ks[j].2 hka (zL hjl)
        have HTK:=Hh (show ((ks.take (j+1)).map (·.1)).map encStr=((ks.take j).map (·.1)).map encStr++[.string ⟨ks[j].1.toArray⟩] by
         rw [zo hjl,zU,zU];rfl)
        generalize ks[j].2=x8 at hsub
        obtain ⟨k8,d8,e8,ks8⟩:=x8
        obtain ⟨A8,c8,hq8,_⟩:=NodeAt.open hsub
        simp only [zD,and_true] at hq8
        obtain ⟨rfl,rfl,rfl,rfl⟩:=hq8
        clear hsub hka hks
        generalize ks[j].1=nm at *
        have hb6:=(zB wr.heap.size wr).alloc (zq _) (.cells #[.string ⟨nm.toArray⟩,.string ⟨k8.toArray⟩,.string ⟨d8.toArray⟩,.bool e8,.slice A8 ks8.length c8] 161)
        have HY6:=Hh (zK1 wr (.cells #[.string ⟨nm.toArray⟩,.string ⟨k8.toArray⟩,.string ⟨d8.toArray⟩,.bool e8,.slice A8 ks8.length c8] 161))
        have HB6:=Hh (HB.out.trans (hb6.mono HB.out.size))
        have HO6:=Hh (HO.out.alloc (.cells #[.string ⟨nm.toArray⟩,.string ⟨k8.toArray⟩,.string ⟨d8.toArray⟩,.bool e8,.slice A8 ks8.length c8] 161))
        clear hb6
        go_upto_region 19 with fail
        clear s0 s1 s2 s3 s4
        generalize wr.alloc (.cells #[.string ⟨nm.toArray⟩,.string ⟨k8.toArray⟩,.string ⟨d8.toArray⟩,.bool e8,.slice A8 ks8.length c8] 161)=w6 at *
        have r0:=ce0 HY6.out
        have HO7:=Hh (HO6.out.alloc (.cells #[.string ⟨nm.toArray⟩] 9))
        have HB7:=Hh (HB6.out.alloc HB6.out.size (.cells #[.string ⟨nm.toArray⟩] 9))
        go_wp2_with (at_builtin;refine Stl.wpList_app _ rfl _ _ 22 rfl w5.heap.size 9 i0 (.string ByteArray.empty) 1 16 Tryz.underlying22 Hi.out Hz0.out Hz1.out Hz2.out rfl (by decide) u12 j _ rfl HO7.out (some ⟨w6.heap.size,0,none⟩) 1 1 [.string ⟨nm.toArray⟩] rfl rfl (fun h=>by cases h) (qAH _ _ _) (by simp [Value.oneCell']) (by unfold maxLen;omega) (by omega) (zr HB6.out.size (by simp)) ?_;intro A7 c7 w7 hown7 hgr7 hat7;have HO8:=Hh hown7;have HB8:=Hh (HB7.out.grown hgr7 HB7.out.size (fun k hk=>(HO7.out.lt k hk).1));clear hown7 hgr7 hat7)
        go_roundw
        case rel=>exact ⟨j+1,by go_num,hjl,HB8,Hh (by rw [HTK.out];exact HO8.out)⟩
        case measure=>simp [intOf];omega
       ·have i1:¬ (j:Int)<(ks.length:Int):=by omega
        obtain rfl:j=ks.length:=by omega
        obtain ⟨A3,c3,e3⟩:=Stl.owns_slice _ HO.out
        subst e3
        have ho:=HO.out
        rw [zm] at ho
        have HJ:=Hh (show Calls Tryz.prog 86 #[.slice A3 ks.length c3] wr _ from by
         have h1:=qBq (w:=wr) (A:=A3) (cap:=c3) (l:=ks.map (·.1)) (by have:=qAQ ho;rwa [zT]) (by rw [zT];exact qBG ho) (by rw [zT];omega) (by
          have:=qBV 12 (ks.map (·.1)) (fun x hx=>by obtain ⟨q,hq,rfl⟩:=ze.1 hx;exact HKL.out q hq)
          rw [zT] at this
          omega)
         rw [zT] at h1
         exact h1)
        clear ho
        go_wp2_with (go_at_call 86;refine HJ.out.mono ?_;rintro ev w9 ⟨rfl,hb9⟩;have HB9:=Hh (HB5.out.trans ((HB.out.trans (hb9.mono HB.out.size)).mono HB5.out.size));clear hb9)
        go_ret2
        rw [HRS.out,HT.out]
        exact ⟨_,_,rfl,HB9.out,rfl,rfl⟩
end
def qAZ (s:List UInt8) (l:List PX):List (List UInt8):=(l.filter fun y=>y.p.name != s&&y.p.refs.contains s).map (·.p.name)
theorem qJs (s:List UInt8) (l:List PX) (y:PX):qAZ s (l++[y])=qAZ s l++(if (y.p.name != s&&y.p.refs.contains s)=true then [y.p.name] else []):=by
 unfold qAZ
 rw [List.filter_append,zU]
 cases h:(y.p.name != s&&y.p.refs.contains s) with
 | true=>rw [zM1 rfl,zK (p:=fun y:PX=>y.p.name != s&&y.p.refs.contains s) h];rfl
 | false=>rw [zL1 (by decide),zJ (p:=fun y:PX=>y.p.name != s&&y.p.refs.contains s) (by simp only [h];decide)];rfl
theorem qJI (zs:List PX) (hn:(zs.map (·.p.name)).Nodup) (s:List UInt8):(qAZ s zs).mergeSort leB=insAll (qAZ s zs) []:=by
 have h1:(qAZ s zs).Nodup:=(List.filter_sublist.map _).nodup hn
 have hr:Stl.Rise (insAll (qAZ s zs) []):=rise_insAll _ _ rise_nil
 have h2:(insAll (qAZ s zs) []).Nodup:=List.Pairwise.imp (R:=(·<·)) (S:=(·≠·)) (fun {a b} h (e:a=b)=>Stl.blt_irrefl a (e▸h)) hr
 have hp:(qAZ s zs).Perm (insAll (qAZ s zs) []):=(List.perm_ext_iff_of_nodup h1 h2).2 fun x=>by rw [mem_insAll];simp
 rw [mergeSort_of_perm hp]
 refine List.mergeSort_of_pairwise (hr.imp fun h=>?_)
 simpa using List.le_of_lt h
theorem qHO (s:List UInt8) (l:List PX):(qAZ s l).length≤l.length:=by
 unfold qAZ
 rw [zT]
 exact zS _ _
theorem qLQ (zs:List PX) (s:List UInt8):insAll (qAZ s zs) []=qD6 (zs.map (·.p)) s:=by
 unfold qAZ qD6
 rw [List.filter_map,zW]
 rfl
theorem qNI {w:World} {A:Option Addr} {zs:List PX} (h:PacksAt w A zs) (hP:qEJ (zs.map (·.p))) (cap:Nat) (hcap:zs.length≤cap) (s:List UInt8) (hin:s∈zs.map (·.p.name)) :
  Calls Tryz.prog 92 #[.slice A zs.length cap,.string ⟨s.toArray⟩] w (qKC w (qD6 (zs.map (·.p)) s)):=by
 have HP:=Hh hP
 have H:=Hh h
 have HIN:=Hh hin
 have hmany:zs.length≤40:=by have:=hP.many;simpa using this
 have HCK:=Hh (qIu h hP cap hcap)
 have HUS:=Hh (qLQ zs s)
 generalize qD6 (zs.map (·.p)) s=res at HUS ⊢
 have HBN:=Hh (fun (W:World) (hb:Below w.heap.size w W)=>qH9 (h.later (hb.alloc hb.size (.cells #[.string ⟨s.toArray⟩] 9))) hP cap (w:=W.alloc (.cells #[.string ⟨s.toArray⟩] 9)) (An:=some ⟨W.heap.size,0,none⟩) (cn:=1) (names:=[s]) ⟨_,_,rfl,fun _=>⟨W.heap.size,0,rfl,by simp,fun j x hx=>by
  have hj:j=0:=by have:=(zM.1 hx).1;simpa using this
  subst hj
  have hx':x=s:=by simpa using hx.symm
  rw [hx',zw]
  exact zJ1 _ _ 0 _ _ _ (zK1 W (.cells #[.string ⟨s.toArray⟩] 9))⟩⟩ (by simp) (fun x hx=>by rw [zh.1 hx];exact hin))
 simp only [zQ,List.length_nil,zw] at HBN
 obtain ⟨i0,hi,hz0,hz1,hz2⟩:=qGB
 have Hi:=Hh hi
 have Hz0:=Hh hz0
 have Hz1:=Hh hz1
 have Hz2:=Hh hz2
 clear hP h hin hi hz0 hz1 hz2
 go_enter Tryz.func92,Tryz.ntmps92
 go_upto_region 9 with (first
  | (go_at_call 150;refine HCK.out.mono ?_;rintro ev w2 ⟨rfl,hb2⟩;have HB2:=Hh hb2;clear hb2)
  | (go_at_call 151;refine (HBN.out _ HB2.out).mono ?_;rintro ev w3 ⟨bm,rfl,hm3,hb3⟩;have HB3:=Hh ((HB2.out.alloc HB2.out.size (.cells #[.string ⟨s.toArray⟩] 9)).trans (hb3.mono (zr HB2.out.size (by simp))));clear hm3 hb3)
  | fail)
 go_loopw [9,29] (fun v a wr=>∃ (j:Nat),a=.int .i64 j∧j≤zs.length∧Hid (Below w.heap.size w wr)∧Hid (wr.ownsRow w.heap.size 9 1 v (qAZ s (zs.take j)).length ((qAZ s (zs.take j)).map encStr))) (fun _ a _=>zs.length-(intOf a).toNat)
 case atStart=>exact ⟨0,rfl,zx _,HB3,Hh (zF1 _ _ _ _)⟩
 case round =>
  obtain ⟨j,rfl,hj,HB,HO⟩:=hrel
  have hul:=zr (qHO s (zs.take j)) (List.length_take_le _ _)
  by_cases hjl:j<zs.length
  ·have i1:(j:Int)<(zs.length:Int):=by omega
   have i2:(0:Int)≤(j:Int):=by omega
   obtain ⟨b,off,hA,hb',s0,s1,s2,s3,s4,s5⟩:=(H.out.later HB.out).at hjl
   subst hA
   have HTK:=Hh (show qAZ s (zs.take (j+1))=qAZ s (zs.take j)++(if (zs[j].p.name != s&&zs[j].p.refs.contains s)=true then [zs[j].p.name] else []) by rw [zo hjl];exact qJs s (zs.take j) zs[j])
   have HRF:=Hh (H.out.refs _ (zO hjl))
   have hyr:zs[j].p.refs.length≤1000000:=by have:=HP.out.few zs[j].p (ze.2 ⟨_,zO hjl,rfl⟩);omega
   generalize zs[j]=y at *
   have hb5:=(zB wr.heap.size wr).alloc (zq _) (.cells #[.string ⟨y.p.name.toArray⟩,.slice y.a y.p.refs.length y.cap,.string y.t0,.string y.t1,.bool y.t2,.slice y.t3 y.t4 y.t5] 200)
   have HY5:=Hh (zK1 wr (.cells #[.string ⟨y.p.name.toArray⟩,.slice y.a y.p.refs.length y.cap,.string y.t0,.string y.t1,.bool y.t2,.slice y.t3 y.t4 y.t5] 200))
   have HB5:=Hh (HB.out.alloc HB.out.size (.cells #[.string ⟨y.p.name.toArray⟩,.slice y.a y.p.refs.length y.cap,.string y.t0,.string y.t1,.bool y.t2,.slice y.t3 y.t4 y.t5] 200))
   have HO5:=Hh (HO.out.alloc (.cells #[.string ⟨y.p.name.toArray⟩,.slice y.a y.p.refs.length y.cap,.string y.t0,.string y.t1,.bool y.t2,.slice y.t3 y.t4 y.t5] 200))
   clear hb5
   go_upto_region 11 with fail
   clear s0 s1 s2 s3 s4 s5
   generalize wr.alloc (.cells #[.string ⟨y.p.name.toArray⟩,.slice y.a y.p.refs.length y.cap,.string y.t0,.string y.t1,.bool y.t2,.slice y.t3 y.t4 y.t5] 200)=w5 at *
   have r0:=ce0 HY5.out
   have r1:=ce1 HY5.out
   have HCN:=Hh (qCb _ _ s w5 (HRF.out.2.later HB5.out) (by omega))
   cases hq1:y.p.name==s with
   | true =>
    have HE:=Hh (show qAZ s (zs.take (j+1))=qAZ s (zs.take j) by rw [HTK.out,zL1 (by simp [bne,hq1]),List.append_nil])
    have hq2:(y.p.name != s)=false:=by simp [bne,hq1]
    clear HTK
    go_wp2_with fail
    go_roundw
    case rel=>exact ⟨j+1,by go_num,hjl,HB5,Hh (by rw [HE.out];exact HO5.out)⟩
    case measure=>simp [intOf];omega
   | false =>
    have hq2:(y.p.name != s)=true:=by simp [bne,hq1]
    cases hq:y.p.refs.contains s with
    | false =>
     have HE:=Hh (show qAZ s (zs.take (j+1))=qAZ s (zs.take j) by rw [HTK.out,zL1 (by rw [hq];simp),List.append_nil])
     rw [hq] at HCN
     clear HTK hq
     go_wp2_with (go_at_call 116;refine HCN.out.mono ?_;rintro ev wz ⟨rfl,rfl⟩)
     go_roundw
     case rel=>exact ⟨j+1,by go_num,hjl,HB5,Hh (by rw [HE.out];exact HO5.out)⟩
     case measure=>simp [intOf];omega
    | true =>
     have HE:=Hh (show qAZ s (zs.take (j+1))=qAZ s (zs.take j)++[y.p.name] by rw [HTK.out,zM1 (by rw [hq,hq2];rfl)])
     rw [hq] at HCN
     clear HTK hq
     have HO6:=Hh (HO5.out.alloc (.cells #[.string ⟨y.p.name.toArray⟩] 9))
     have HB6:=Hh (HB5.out.alloc HB5.out.size (.cells #[.string ⟨y.p.name.toArray⟩] 9))
     go_wp2_with (first
      | (go_at_call 116;refine HCN.out.mono ?_;rintro ev wz ⟨rfl,rfl⟩)
      | (at_builtin;refine Stl.wpList_app _ rfl _ _ 22 rfl w.heap.size 9 i0 (.string ByteArray.empty) 1 16 Tryz.underlying22 Hi.out Hz0.out Hz1.out Hz2.out rfl (by decide) u9 (qAZ s (zs.take j)).length _ rfl HO6.out (some ⟨_,0,none⟩) 1 1 [.string ⟨y.p.name.toArray⟩] rfl rfl (fun h=>by cases h) (qAH _ _ _) (by simp [Value.oneCell']) (by unfold maxLen;omega) (by omega) (zr HB5.out.size (by simp)) ?_;intro A7 c7 w7 hown7 hgr7 hat7;have HO7:=Hh hown7;have HB7:=Hh (HB6.out.grown hgr7 HB6.out.size (fun k hk=>(HO6.out.lt k hk).1));clear hown7 hgr7 hat7))
     go_roundw
     case rel=>exact ⟨j+1,by go_num,hjl,HB7,Hh (by rw [HE.out,zP,zU];exact HO7.out)⟩
     case measure=>simp [intOf];omega
  ·have i1:¬ (j:Int)<(zs.length:Int):=by omega
   obtain rfl:j=zs.length:=by omega
   obtain ⟨A3,c3,e3⟩:=Stl.owns_slice _ HO.out
   subst e3
   have ho:=HO.out
   rw [zm] at ho hul
   have HSR:=Hh (qF4 A3 c3 w.heap.size (qAZ s zs) (by omega) wr ho)
   have HSO:=Hh (qJI zs (by have:=HP.out.names;rwa [zW] at this) s)
   have HBR:=Hh ho
   clear ho
   go_wp2_with (go_at_call 129;refine HSR.out.mono ?_;rintro ev w8 ⟨rfl,hr8,hg8⟩;have HR8:=Hh hr8;have HG8:=Hh hg8;clear hr8 hg8)
   go_ret2
   have hr8:=HR8.out
   rw [HSO.out,HUS.out] at hr8
   have hlen:(qAZ s zs).length=res.length:=by
    have:=congrArg List.length HSO.out
    rw [List.length_mergeSort,HUS.out] at this
    exact this
   rw [hlen] at hr8
   refine ⟨_,rfl,?_,HB.out.grown HG8.out HB.out.size (fun k hk=>(HBR.out.lt k hk).1)⟩
   rw [hlen]
   exact hr8
def qI8 (s:Sto) (word name:List UInt8):Except Nat (List UInt8) :=
 match s.find name with
 | none=>.error 6
 | some q=>.ok (qAx (if word=[114,101,102,115] then q.refs else if word=[117,115,101,114,115] then qD6 s.l name else closure s.l [name]))
theorem qEc {l:List Pk} (hP:qEJ l) {r:List (List UInt8)} (hr:Rise r) (hin:∀ x∈r,x∈l.map (·.name)):r.length≤40∧(qAx r).length≤1000:=by
 have h1:r.length≤40:=zr (qD9 (qEU hr) hin) (by rw [zT];exact hP.many)
 have h2:=qBV 12 r (fun x hx=>by
  obtain ⟨q,hq,rfl⟩:=ze.1 (hin x hx)
  exact qBO (hP.well q hq))
 refine ⟨h1,?_⟩
 have h3:r.length*(12+1)≤40*13:=Nat.mul_le_mul h1 (zq _)
 omega
theorem qOf {w:World} {g cp:Nat} {x:List UInt8} (h:w.cell? ⟨g,0,none⟩=some (.string ⟨x.toArray⟩)):Strs w (.slice (some ⟨g,0,none⟩) [x].length cp) [x] :=
 ⟨_,_,rfl,fun _=>⟨g,0,rfl,lt_of_cell h,fun j y hy=>by
  cases j with
  | zero=>simp only [List.getElem?_cons_zero,zB1] at hy;rw [← hy];exact h
  | succ j=>simp at hy⟩⟩
section
variable {w:World} {A:Option Addr} {zs:List PkX} {c:Nat→Col} {b:Nat} {s:Sto} {bd:Nat} {cap:Nat} {R:Option Addr} {rc tp:Nat} {p:Nat→Addr}
theorem qPy (h:StoX w c b s bd A cap zs R rc tp) (hg:qAS s) (hE:Env w c p) (word name:List UInt8) :
  Calls Tryz.prog 45 #[.pointer (some ⟨b,0,none⟩),.string ⟨word.toArray⟩,.string ⟨name.toArray⟩] w (TlPost p w (qI8 s word name)):=by
 have hfew:=h.few hg.ok
 have hrf:=h.fewRefs hg.ok
 have H:=Hh h
 have HG:=Hh hg
 have HE:=Hh hE
 obtain ⟨res,hres⟩:∃ res,res=qI8 s word name:=⟨_,rfl⟩
 rw [← hres]
 unfold qI8 at hres
 have HFD:=Hh (qDm h (by omega) name)
 clear h hg hE
 go_enter Tryz.func45,Tryz.ntmps45
 cases hf:s.find name with
 | none =>
  rw [hf] at hres
  have HRS:=Hh (show res=.error 6 from hres)
  have HF:=Hh hf
  clear hf hres
  go_upto_region 3 with (go_at_call 68;refine HFD.out.mono ?_;rintro ev w1 ⟨⟨i,rfl,hi⟩,hb1⟩;have hneg:=(hi.none_ H.out.eq).1 HF.out;have HB1:=Hh hb1;clear hb1 hi)
  have hg:w1.cell? ⟨7,0,none⟩=some (.iface 377 (.pointer (some (p 6)))):=((HE.out.errs.later HB1.out).cell 6 (by decide) (by decide)).trans (by rw [qAc p (by decide)])
  go_quiet (fail)
  go_wp2
  go_ret2
  rw [HRS.out]
  exact ⟨_,_,rfl,Below.drewN HB1.out _,by rw [qAc p (by decide)];rfl,by decide⟩
 | some pk =>
  rw [hf] at hres
  simp only at hres
  have hmem:=qCs hf
  have HF:=Hh hf
  have HIN:=Hh (show name∈s.l.map (·.name) from ze.2 ⟨pk,hmem.1,hmem.2⟩)
  have HPM:=Hh hmem.1
  clear hf hmem
  go_upto_region 6 with (go_at_call 68;refine HFD.out.mono ?_;rintro ev w1 ⟨⟨i,rfl,hi⟩,hb1⟩;obtain ⟨ki,hki,rfl,hpk⟩:=hi.some_ H.out.eq HG.out.ok.pks.names HF.out;have HPK:=Hh hpk;have HB1:=Hh hb1;clear hb1 hi hpk)
  have HX1:=Hh (H.out.below HB1.out)
  cases h1:word==[114,101,102,115] with
  | true =>
   rw [zM1 (eq_of_beq h1)] at hres
   have HRS:=Hh hres
   have hfn:=qEc HG.out.ok.pks (r:=pk.refs) (HG.out.ok.pks.rise pk HPM.out) (fun x hx=>(qEV s.l [] HG.out.ok.pks.refs pk HPM.out x hx).resolve_right (by simp))
   have HFN:=Hh hfn
   clear hres hfn
   have hro:=HX1.out.ro zs[ki] (zO hki)
   obtain ⟨g,hA,hgl,s0,s1,s2⟩:=HX1.out.kept.at hki
   subst hA
   rw [HPK.out] at s1 hro
   have HJ:=Hh (qBq (hro.2.strs zs[ki].cap) hro.1 (by have:=HFN.out.1;omega) (by have:=HFN.out.2;omega))
   generalize zs[ki].a=Az at *
   generalize zs[ki].cap=cz at *
   clear s0 s2 hro
   have c1:=ce1 HX1.out.own
   have k1:(ki:Int)<(zs.length:Int):=by omega
   have k2:(0:Int)≤(ki:Int):=by omega
   go_upto_region 12 with fail
   go_wp2_with (go_at_call 86;refine HJ.out.mono ?_;rintro ev w9 ⟨rfl,hb9⟩;have HB9:=Hh (HB1.out.trans (hb9.mono HB1.out.size));clear hb9)
   go_ret2
   rw [HRS.out]
   exact ⟨_,_,rfl,HB9.out,rfl,rfl⟩
  | false =>
   rw [zL1 (by simpa using h1)] at hres
   have HPK2:=Hh (qJq HX1.out (by omega) (fun x hx=>by have:=hrf x hx;omega))
   cases h2:word==[117,115,101,114,115] with
   | true =>
    rw [zM1 (eq_of_beq h2)] at hres
    have HRS:=Hh hres
    have hfn:=qEc HG.out.ok.pks (r:=qD6 s.l name) (rise_insAll _ _ rise_nil) (fun x hx=>by
     rcases (mem_insAll x _ _).1 hx with h | h
     ·obtain ⟨q,hq,rfl⟩:=ze.1 h
      exact ze.2 ⟨q,(zZ.1 hq).1,rfl⟩
     ·simp at h)
    have HFN:=Hh hfn
    clear hres hfn
    go_upto_region 12 with (first
     | (go_at_call 67;refine HPK2.out.mono ?_;rintro ev w2 ⟨A2,cap2,ys,rfl,hcap2,hys,hr2,hrr2,hz2,hb2⟩;have HB2:=Hh (HB1.out.trans (hb2.mono HB1.out.size));have HYS:=Hh hys;have HPA:=Hh (qCh hr2 hrr2);have HIY:=Hh (show name∈ys.map (·.p.name) by { have h1:=HIN.out;rw [← hys,zW] at h1;exact h1 });have hcap2':=hcap2;clear hr2 hrr2 hz2 hb2 hys)
     | (go_at_call 92;refine (qNI HPA.out (by rw [HYS.out];exact HG.out.ok.pks) cap2 hcap2 name HIY.out).mono ?_;rintro ev w3 ⟨v3,rfl,hr3,hb3⟩;rw [HYS.out] at hr3;obtain ⟨A3,cap3,rfl⟩:=Stl.owns_slice _ hr3;have HR3:=Hh hr3;have HB3:=Hh (HB2.out.trans (hb3.mono HB2.out.size));clear hr3 hb3)
     | fail)
    have HJ:=Hh (qBq (qBI HR3.out) (qBG HR3.out) (by have:=HFN.out.1;omega) (by have:=HFN.out.2;omega))
    go_wp2_with (go_at_call 86;refine HJ.out.mono ?_;rintro ev w9 ⟨rfl,hb9⟩;have HB9:=Hh (HB3.out.trans (hb9.mono HB3.out.size));clear hb9)
    go_ret2
    rw [HRS.out]
    exact ⟨_,_,rfl,HB9.out,rfl,rfl⟩
   | false =>
    rw [zL1 (by simpa using h2)] at hres
    have HRS:=Hh hres
    have hfn:=qEc HG.out.ok.pks (r:=closure s.l [name]) (qFo _ _) (qDA HG.out.ok.pks.refs (fun x hx=>by rw [zh.1 hx];exact HIN.out))
    have HFN:=Hh hfn
    clear hres hfn
    go_upto_region 12 with (first
     | (go_at_call 67;refine HPK2.out.mono ?_;rintro ev w2 ⟨A2,cap2,ys,rfl,hcap2,hys,hr2,hrr2,hz2,hb2⟩;have HB2:=Hh (HB1.out.trans (hb2.mono HB1.out.size));have HYS:=Hh hys;have HPA:=Hh (qCh hr2 hrr2);have HIY:=Hh (show name∈ys.map (·.p.name) by { have h1:=HIN.out;rw [← hys,zW] at h1;exact h1 });have hcap2':=hcap2;clear hr2 hrr2 hz2 hb2 hys)
     | (go_at_call 93;refine (qF2 (names:=[name]) (cn:=1) (An:=some ⟨w2.heap.size,0,none⟩) (HPA.out.later ((zB w2.heap.size w2).alloc (zq _) _)) (by rw [HYS.out];exact HG.out.ok.pks) cap2 hcap2 (qOf (zJ1 _ _ 0 _ _ _ (zK1 w2 (.cells #[.string ⟨name.toArray⟩] 9)))) (by simp) (fun x hx=>by rw [zh.1 hx];exact HIY.out)).mono ?_;rintro ev w3 ⟨v3,rfl,hr3,hb3⟩;rw [HYS.out] at hr3;obtain ⟨A3,cap3,rfl⟩:=Stl.owns_slice _ hr3;have HR3:=Hh hr3;have hba:=HB2.out.alloc HB2.out.size (.cells #[.string ⟨name.toArray⟩] 9);have HB3:=Hh (hba.trans (hb3.mono hba.size));clear hr3 hb3 hba)
     | fail)
    have HJ:=Hh (qBq (qBI HR3.out) (qBG HR3.out) (by have:=HFN.out.1;omega) (by have:=HFN.out.2;omega))
    go_wp2_with (go_at_call 86;refine HJ.out.mono ?_;rintro ev w9 ⟨rfl,hb9⟩;have HB9:=Hh (HB3.out.trans (hb9.mono HB3.out.size));clear hb9)
    go_ret2
    rw [HRS.out]
    exact ⟨_,_,rfl,HB9.out,rfl,rfl⟩
end
end Go.Proofs.YtceklhjomhjipaaGreatDoor
