/- Texts of this claim, merged: Scan, Firsts, PutMem, Files, CutPure. -/
import Derived.Lib.CountLaws
import Derived.Lib.CutLaws
import Derived.Lib.IndexMore
import Derived.Lib.Split
import Derived.Lib.SplitLaws
import Derived.Test.YtkcjmccdkeigmaaGreatDoorOm26
set_option maxHeartbeats 16000000
set_option maxRecDepth 1000000
set_option linter.all false
namespace Go.Proofs.YtkcjmccdkeigmaaGreatDoor
open Go.RowKit Go.Sort Go.Shelf Stl
def qPM (T:Tab) (n:Nat):Bool:=match T.read n with | .ok _=>false | .error _=>true
theorem qQC (T:Tab):T.scan=T.all.filter (qPM T):=rfl
theorem qDc {T:Tab} {n cd:Nat} (h:T.read n=.error cd):cd≠0:=by
 unfold Tab.read at h
 split at h
 ·cases h;decide
 ·split at h
  ·cases h
  ·cases h;decide
section
variable {w:World} {c:Nat→Col} {b:Nat} {T:Tab} {p:Nat→Addr}
theorem qO5 (h:TabAt w c b T) (ht:qBn T) (hD:T.disk.length≤1000000) (hL:T.l.length≤1000000) (hE:Errs w p) :
  Calls Tryz.prog 87 #[.pointer (some ⟨b,0,none⟩)] w fun e w'=>∃ A cap,e=.returned (.slice A T.scan.length cap)∧w'.ownsRow w.heap.size 3 1 (.slice A T.scan.length cap) T.scan.length (T.scan.map qJG)∧Below w.heap.size w w':=by
 have HALL:=Hh (qHM h hL)
 have HS:=Hh (qQC T)
 have hal:∀ n∈T.all,n≤1000000:=fun n hn=>by
  unfold Tab.all at hn
  have:=List.mem_range.1 (zZ.1 hn).1
  omega
 have hll:T.all.length≤1000000:=by
  unfold Tab.all
  have:=zS (fun n=>(T.at_ n).isSome) (List.range T.l.length)
  simp at this ⊢
  omega
 generalize T.scan=res at HS ⊢
 generalize T.all=all at HALL HS hal hll
 have HT:=Hh h
 have HOK:=Hh ht
 have HDD:=Hh hD
 have HE:=Hh hE
 have HAL:=Hh hal
 clear h ht hD hL hE hal
 go_enter Tryz.func87,Tryz.ntmps87
 go_upto_region 5 with (go_at_call 137;refine HALL.out.mono ?_;rintro ev wx ⟨A,cap,rfl,hr,hb⟩;have HRW:=Hh hr;have HBX:=Hh hb;clear hr hb)
 go_loopw [3,13] (fun v a wr=>∃ (i:Nat) (acc:List Nat),a=.int .i64 i∧i≤all.length∧acc.length≤i∧Hid (Below wx.heap.size wx wr)∧Hid (wr.ownsRow wx.heap.size 3 1 v acc.length (acc.map qJG))∧Hid (acc=(all.take i).filter (qPM T))) (fun _ a _=>all.length-(intOf a).toNat)
 case atStart=>exact ⟨0,[],rfl,zw _,zo _,Hh (zB _ _),Hh (zE1 _ _ _ _),Hh rfl⟩
 case round =>
  obtain ⟨i,acc,rfl,hi,hacc,HB,HO,HA⟩:=hrel
  by_cases hil:i<all.length
  ·have i1:(i:Int)<(all.length:Int):=by omega
   have i2:(0:Int)≤(i:Int):=by omega
   have hbr:Below w.heap.size w wr:=HBX.out.trans (HB.out.mono HBX.out.size)
   have HRD:=Hh (qB2 (HT.out.below hbr) HOK.out HDD.out all[i] (HAL.out _ (zO hil)) (HE.out.later hbr))
   have hap:∃ g,A=some ⟨g,0,none⟩∧g<wx.heap.size:=by
    rcases HRW.out.2 with ⟨_,h0⟩ | ⟨g,cp,cur,e,_,h6,_⟩
    ·omega
    ·simp only [zB1] at e
     exact ⟨g,e.1,qAa h6⟩
   obtain ⟨g,rfl,hgl⟩:=hap
   have q0:wr.cell? ⟨g,i,none⟩=some (.int .i64 (all[i]:Nat)):=by
    rw [HB.out.cell (p:=⟨g,i,none⟩) hgl,HRW.out.cellAt i (by omega),zN,zL hil]
    rfl
   have HAN:=Hh (show (all.take (i+1)).filter (qPM T)=acc++(if qPM T all[i] then [all[i]] else []) by
    rw [zn hil,List.filter_append,← HA.out]
    simp only [zI,List.filter_nil])
   generalize all[i]=n at HRD q0 HAN
   cases hrd:T.read n with
   | ok s =>
    rw [hrd,show qDu p (.ok s)=#[.string ⟨s.toArray⟩,.nilIface] from rfl] at HRD
    have HAN2:=Hh (show acc=(all.take (i+1)).filter (qPM T) by
     rw [HAN.out]
     simp [qPM,hrd])
    clear hrd hbr
    go_wp2_with (go_at_call 133;refine HRD.out.mono ?_;rintro ev w3 ⟨rfl,hb3⟩;have HB3:=Hh (HB.out.trans (hb3.mono HB.out.size));have HO3:=Hh (HO.out.kept (Below.toGrown hb3 none) (by cases Value.ownBlock u3<;>simp));clear hb3)
    clear q0
    go_roundw
    case rel=>exact ⟨i+1,acc,by go_num,hil,by omega,HB3,HO3,HAN2⟩
    case measure=>simp [intOf];omega
   | error cd =>
    rw [hrd,show qDu p (.error cd)=#[.string ⟨#[]⟩,qAM p cd] from rfl,qAc p (qDc hrd)] at HRD
    have HAN2:=Hh (show acc++[n]=(all.take (i+1)).filter (qPM T) by
     rw [HAN.out]
     simp [qPM,hrd])
    obtain ⟨i0,hii,hz0,hz1,hz2⟩:=qJX.info
    have HII:=Hh hii
    have HZ0:=Hh hz0
    have HZ1:=Hh hz1
    have HZ2:=Hh hz2
    clear hrd hbr hii hz0 hz1 hz2
    go_upto_region 9 with (go_at_call 133;refine HRD.out.mono ?_;rintro ev w3 ⟨rfl,hb3⟩;have HB3:=Hh (HB.out.trans (hb3.mono HB.out.size));have HO3:=Hh (HO.out.kept (Below.toGrown hb3 none) (by cases Value.ownBlock u3<;>simp));clear hb3)
    have hb4:Below w3.heap.size w3 (w3.alloc (.cells #[.int .i64 n] 3)):=(zB _ w3).alloc (zo _) _
    have HB4:=Hh (HB3.out.trans (hb4.mono HB3.out.size))
    have HO4:=Hh (HO3.out.kept (Below.toGrown hb4 none) (by cases Value.ownBlock u3<;>simp))
    clear hb4 q0
    go_wp2_with (at_builtin;refine Stl.wpList_app _ rfl _ _ 166 rfl wx.heap.size 3 i0 (.int .i64 0) 1 8 Tryz.underlying166 HII.out HZ0.out HZ1.out HZ2.out rfl (by decide) u3 acc.length (acc.map qJG) rfl HO4.out (some ⟨w3.heap.size,0,none⟩) 1 1 [.int .i64 n] rfl rfl (fun h=>by cases h) (qAJ _ _ _) (by simp [Value.oneCell']) (by unfold maxLen;omega) (by omega) (zq HB3.out.size (by simp)) ?_;intro A5 c5 w5 hown5 hgr5 hat;have HO5:=Hh hown5;have HB5:=Hh (HB4.out.grown hgr5 HB4.out.size (fun k hk=>(HO4.out.lt k hk).1));clear hown5 hgr5 hat)
    go_roundw
    case rel=>exact ⟨i+1,acc++[n],by go_num,hil,by simp;omega,HB5,by simpa using HO5,HAN2⟩
    case measure=>simp [intOf];omega
  ·have i1:¬ (i:Int)<(all.length:Int):=by omega
   have HR:=Hh (show res=acc by
    have:=HA.out
    rw [zm (by omega)] at this
    rw [HS.out,this])
   obtain ⟨A3,c3,e3⟩:=Stl.owns_slice _ HO.out
   subst e3
   go_wp2
   go_ret
   rw [HR.out]
   exact ⟨A3,c3,rfl,ownsRow_base_a HO.out HBX.out.size,HBX.out.trans (HB.out.mono HBX.out.size)⟩
end
def qBC (T:Tab) (l:List Nat) (x:qO3):Option Value:=(qBK T l x.1).map fun n:Nat=>Value.int .i64 (n:Int)
abbrev qMx (w:World) (b n:Nat) (f:qO3→Option Value):Prop:=Stl.zzMapAt Tryz.prog 301 qQU w b n f
def qRb (w:World) (T:Tab) (l:List Nat) (e:Ending) (w':World):Prop:=∃ bm n,e=.returned (.map (some bm))∧qMx w' bm n (qBC T l)∧Below w.heap.size w w'
structure FsSt (w wr:World) (T:Tab) (A:Option Addr) (cap:Nat) (all:List Nat) (j:Nat):Prop where
 below:Below w.heap.size w wr
 row:wr.ownsRow (w.heap.size+1) 3 1 (.slice A all.length cap) all.length (all.map qJG)
 map:qMx wr w.heap.size j (qBC T (all.take j))
theorem FsSt.later {w wr w2:World} {T:Tab} {A:Option Addr} {cap:Nat} {all:List Nat} {j:Nat} (h:FsSt w wr T A cap all j) (hb:Below wr.heap.size wr w2):FsSt w w2 T A cap all j :=
 ⟨h.below.trans (hb.mono h.below.size),h.row.kept (Below.toGrown hb none) (by cases Value.ownBlock (Value.slice A all.length cap)<;>simp),h.map.of_block (hb.block _ h.map.lt)⟩
section
variable {w:World} {c:Nat→Col} {b:Nat} {T:Tab} {p:Nat→Addr}
theorem qL4 (h:TabAt w c b T) (ht:qBn T) (hD:T.disk.length≤1000000) (hL:T.l.length≤1000000) (hE:Errs w p) :
  Calls Tryz.prog 155 #[.pointer (some ⟨b,0,none⟩)] w (qRb w T T.all):=by
 have hmm:=@run_makeMap Tryz.prog
 have hb1:Below w.heap.size w (w.alloc (.map #[] 0)):=(zB _ w).alloc (zo _) _
 have hz1:(w.alloc (.map #[] 0)).heap.size=w.heap.size+1:=by simp
 have HALL:=Hh (qHM (h.below hb1) hL)
 have HM1:=Hh (zzMapAt.made w Tryz.prog 301 qQU)
 have hal:∀ n∈T.all,n≤1000000∧∃ x,T.at_ n=some x:=fun n hn=>by
  have h1:=qEU.1 hn
  obtain ⟨x,hx⟩:=zy.1 h1
  have:=qEf hx
  exact ⟨by omega,x,hx⟩
 have hll:T.all.length≤1000000:=by
  unfold Tab.all
  have:=zS (fun n=>(T.at_ n).isSome) (List.range T.l.length)
  simp at this ⊢
  omega
 generalize T.all=all at HALL hal hll ⊢
 have HT:=Hh h
 have HOK:=Hh ht
 have HDD:=Hh hD
 have HE:=Hh hE
 have HAL:=Hh hal
 have HB1:=Hh hb1
 clear h ht hD hL hE hal hb1
 go_enter Tryz.func155,Tryz.ntmps155
 go_upto_region 2 with fail
 generalize w.alloc (.map #[] 0)=w1 at *
 go_upto_region 3 with (go_at_call 137;refine HALL.out.mono ?_;rintro ev wx ⟨A,cap,rfl,hr,hb⟩;have HRW:=Hh hr;have HBX:=Hh hb;clear hr hb)
 have H0:=Hh (show FsSt w wx T A cap all 0 from ⟨HB1.out.trans (HBX.out.mono HB1.out.size),by have:=HRW.out;rwa [hz1] at this,(HM1.out.of_block (HBX.out.block _ HM1.out.lt)).congr fun x=>rfl⟩)
 clear hz1
 go_loopw [16] (fun a wr=>∃ j:Nat,a=.int .i64 j∧j≤all.length∧Hid (FsSt w wr T A cap all j)) (fun a _=>all.length-(intOf a).toNat)
 case atStart=>exact ⟨0,rfl,zw _,H0⟩
 case round =>
  obtain ⟨j,rfl,hj,HS⟩:=hrel
  by_cases hjl:j<all.length
  ·have i1:(j:Int)<(all.length:Int):=by omega
   have i2:(0:Int)≤(j:Int):=by omega
   obtain ⟨hnb,x,hx⟩:=HAL.out _ (zO hjl)
   have HRD:=Hh (qB2 (HT.out.below HS.out.below) HOK.out HDD.out all[j] hnb (HE.out.later HS.out.below))
   have hap:∃ g,A=some ⟨g,0,none⟩∧g<wr.heap.size:=by
    rcases HS.out.row.2 with ⟨_,h0⟩ | ⟨g,cp,cur,e,_,h6,_⟩
    ·omega
    ·simp only [zB1] at e
     exact ⟨g,e.1,qAa h6⟩
   obtain ⟨g,rfl,hgl⟩:=hap
   have q0:wr.cell? ⟨g,j,none⟩=some (.int .i64 (all[j]:Nat)):=by
    rw [HS.out.row.cellAt j (by omega),zN,zL hjl]
    rfl
   have HTK:=Hh (show all.take (j+1)=all.take j++[all[j]] from zn hjl)
   generalize all[j]=n at HRD q0 HTK hx hnb
   have HX:=Hh hx
   cases hrd:T.read n with
   | error cd =>
    rw [hrd,show qDu p (.error cd)=#[.string ⟨#[]⟩,qAM p cd] from rfl,qAc p (qDc hrd)] at HRD
    have HFN:=Hh (show ∀ y:qO3,qBC T (all.take (j+1)) y=qBC T (all.take j) y from fun y=>by
     unfold qBC
     rw [HTK.out,qCX]
     cases qBK T (all.take j) y.1 with
     | some m=>rfl
     | none=>rw [zK1 (by rw [qN3 hrd];simp)])
    clear hrd hx
    go_upto_region 6 with (go_at_call 133;refine HRD.out.mono ?_;rintro ev w3 ⟨rfl,hb3⟩;have HS3:=Hh (HS.out.later hb3);clear hb3)
    clear q0
    have HST:=Hh (qCg (HT.out.below HS3.out.below) HOK.out n hnb HX.out)
    simp only [qGh,qAC] at HST
    go_upto_region 7 with (go_at_call 131;refine HST.out.mono ?_;rintro ev w4 ⟨A4,cap4,rfl,hr4,hb4⟩;have HS4:=Hh (HS3.out.later hb4);clear hb4 hr4)
    have HS5:=Hh (HS4.out.later (w2:=w4.alloc (.cells #[.int .i64 x.bytes,.int .i64 x.links,.bool x.exec,.slice A4 x.blocks.length cap4,.int .u32 x.sum.toNat] 201)) ((zB _ w4).alloc (zo _) _))
    generalize w4.alloc (.cells #[.int .i64 x.bytes,.int .i64 x.links,.bool x.exec,.slice A4 x.blocks.length cap4,.int .u32 x.sum.toNat] 201)=w5 at *
    go_wp2_with fail
    go_roundw
    case rel=>exact ⟨j+1,by go_num,hjl,Hh ⟨HS5.out.below,HS5.out.row,(HS5.out.map.mono (by omega)).congr HFN.out⟩⟩
    case measure=>simp [intOf];omega
   | ok s =>
    rw [hrd,show qDu p (.ok s)=#[.string ⟨s.toArray⟩,.nilIface] from rfl] at HRD
    have hsl:s.length≤maxLen:=by
     have h1:s.length≤x.bytes:=by
      unfold Tab.read at hrd
      rw [HX.out] at hrd
      simp only at hrd
      split at hrd
      ·cases hrd
       unfold Tab.raw
       exact List.length_take_le _ _
      ·cases hrd
     have h2:=HOK.out.bytes n x HX.out
     unfold maxLen
     omega
    have hky:=qKw hrd HX.out
    have HKY:=Hh hky
    clear hrd hx hky
    go_upto_region 6 with (go_at_call 133;refine HRD.out.mono ?_;rintro ev w3 ⟨rfl,hb3⟩;have HS3:=Hh (HS.out.later hb3);clear hb3)
    clear q0
    have HST:=Hh (qCg (HT.out.below HS3.out.below) HOK.out n hnb HX.out)
    simp only [qGh,qAC] at HST
    go_upto_region 7 with (go_at_call 131;refine HST.out.mono ?_;rintro ev w4 ⟨A4,cap4,rfl,hr4,hb4⟩;have HS4:=Hh (HS3.out.later hb4);clear hb4 hr4)
    have HS5:=Hh (HS4.out.later (w2:=w4.alloc (.cells #[.int .i64 x.bytes,.int .i64 x.links,.bool x.exec,.slice A4 x.blocks.length cap4,.int .u32 x.sum.toNat] 201)) ((zB _ w4).alloc (zo _) _))
    have HX5:=Hh (zJ1 w4 (.cells #[.int .i64 x.bytes,.int .i64 x.links,.bool x.exec,.slice A4 x.blocks.length cap4,.int .u32 x.sum.toNat] 201))
    generalize w4.alloc (.cells #[.int .i64 x.bytes,.int .i64 x.links,.bool x.exec,.slice A4 x.blocks.length cap4,.int .u32 x.sum.toNat] 201)=w5 at *
    have x2:=ce2 HX5.out
    obtain ⟨ky,hkye⟩:∃ ky:qO3,ky=⟨(s,x.exec),hsl⟩:=⟨_,rfl⟩
    have hlk:=HS5.out.map.getOk (t:=257) okK Tryz.underlying257 (qHc w5) (i:=ky) trivial
    have HKE:=Hh hkye
    cases hfi:qBK T (all.take j) (s,x.exec) with
    | some m =>
     have hff:qBC T (all.take j) ky=some (.int .i64 (m:Int)):=by unfold qBC;rw [hkye];simp only [hfi];rfl
     rw [hff,hkye] at hlk
     simp only [zx,Option.isSome_some,mkT,mkK] at hlk
     have HFN:=Hh (show ∀ y:qO3,qBC T (all.take (j+1)) y=qBC T (all.take j) y from fun y=>by
      unfold qBC
      rw [HTK.out,qCX]
      cases hy:qBK T (all.take j) y.1 with
      | some m=>rfl
      | none =>
       rw [zK1 (fun e=>by
        rw [HKY.out] at e
        injection e with e
        rw [← e,hfi] at hy
        cases hy)])
     clear hfi hff hkye
     go_wp2_with fail
     go_roundw
     case rel=>exact ⟨j+1,by go_num,hjl,Hh ⟨HS5.out.below,HS5.out.row,(HS5.out.map.mono (by omega)).congr HFN.out⟩⟩
     case measure=>simp [intOf];omega
    | none =>
     have hff:qBC T (all.take j) ky=none:=by unfold qBC;rw [hkye];simp only [hfi];rfl
     rw [hff,hkye] at hlk
     simp only [Option.getD_none,Option.isSome_none,mkT,mkK] at hlk
     have HFN:=Hh (show ∀ y:qO3,qBC T (all.take (j+1)) y=if y=ky then some (.int .i64 (n:Int)) else qBC T (all.take j) y from fun y=>by
      unfold qBC
      rw [HTK.out,qCX]
      by_cases hy:y=ky
      ·rw [zL1 hy,hy,HKE.out]
       simp only [hfi,HKY.out,if_true]
       rfl
      ·rw [zK1 hy]
       cases qBK T (all.take j) y.1 with
       | some m=>rfl
       | none =>
        rw [zK1 (fun e=>by
         rw [HKY.out] at e
         injection e with e
         apply hy
         rw [HKE.out]
         exact Subtype.ext e.symm)])
     clear hfi hff hkye
     go_wp2_with (at_mapUpdate;refine qBg rfl _ _ _ 257 3 rfl okK Tryz.underlying257 rfl HS5.out.map (by unfold maxLen;omega) ky trivial (by rw [HKE.out];rfl) (.int .i64 n) rfl ?_;intro W6 hmap6 hturn6;have HMP6:=Hh hmap6;have HTN6:=Hh hturn6;clear hmap6 hturn6)
     go_roundw
     case rel =>
      refine ⟨j+1,by go_num,hjl,Hh ⟨HS5.out.below.grown HTN6.out.grown HS5.out.below.size (fun k hk=>by injection hk with hk;omega),HS5.out.row.kept HTN6.out.grown ?_,HMP6.out.congr HFN.out⟩⟩
      refine .inr fun e=>?_
      have:=(HS5.out.row.lt _ e).1
      omega
     case measure=>simp [intOf];omega
  ·have i1:¬ (j:Int)<(all.length:Int):=by omega
   obtain rfl:j=all.length:=by omega
   have hm:=HS.out.map
   rw [zk] at hm
   have HM:=Hh hm
   clear hm
   go_wp2
   go_ret
   exact ⟨_,_,rfl,HM.out,HS.out.below⟩
end
end Go.Proofs.YtkcjmccdkeigmaaGreatDoor
namespace Go.Proofs.YtkcjmccdkeigmaaGreatDoor
open Go.RowKit Go.Maps Go.Sort Go.Shelf Stl
theorem qKY {l:List Ent} {e:Ent} (h:∀ x∈l,x.k≠e.k) (j:Nat):qAj (l++[e]) j=if j=e.k then some e else qAj l j:=by
 unfold qAj
 rw [List.find?_append]
 by_cases hj:j=e.k
 ·subst hj
  rw [zL1 rfl,List.find?_eq_none.2 (fun x hx=>by simpa using h x hx)]
  simp
 ·rw [zK1 hj]
  cases hf:l.find? fun x=>x.k==j with
  | some x=>rfl
  | none=>simp [Ne.symm hj]
theorem qFg (l:List Ent) (k:Nat) (s:List UInt8) (n j:Nat):qAj (qAO l k s n) j=(qAj l j).map fun e=>if e.k=k then { e with f:=qAo e.f s n } else e:=by
 unfold qAj qAO
 induction l with
 | nil=>rfl
 | cons x r ih =>
  have hk:(if x.k=k then { x with f:=qAo x.f s n } else x).k=x.k:=by split<;>rfl
  rw [zV,List.find?_cons,List.find?_cons,hk]
  cases hx:x.k==j
  ·exact ih
  ·rfl
structure DirsBut (w:World) (c:Nat→Col) (b:Nat) (d:Stl.Dirs) (bt bm:Nat) (nd:Nat→List Value) (fm:Nat→Nat):Prop where
 own:w.heap[b]?=some (.cells #[.pointer (some ⟨bt,0,none⟩),.map (some bm),.int .i64 d.next] 94 (0,0))
 col:c b=.dirs
 mcol:c bm=.dirsMap
 map:qDi w bm d.l.length (qA8 d.l nd fm)
 node:∀ k e,qAj d.l k=some e→RoNode w c e.n (nd k)
 fcol:∀ k e,qAj d.l k=some e→c (fm k)=.files k
 files:∀ k e,qAj d.l k=some e→qBk w (fm k) e.f.length (fileAt e.f)
section
variable {w w2 w3:World} {c c2:Nat→Col} {S:Col→Bool} {b:Nat} {d:Stl.Dirs} {bt bm:Nat} {nd:Nat→List Value} {fm:Nat→Nat}
theorem DirsIn.but (h:DirsIn w c b d bt bm nd fm):DirsBut w c b d bt bm nd fm:=⟨h.own,h.col,h.mcol,h.map,h.node,h.fcol,h.files⟩
theorem DirsBut.full (h:DirsBut w c b d bt bm nd fm) {T:Tab} (ht:TabAt w c bt T):DirsIn w c b { d with t:=T } bt bm nd fm:=⟨h.own,h.col,ht,h.mcol,h.map,h.node,h.fcol,h.files⟩
theorem DirsBut.ext (h:DirsBut w c b d bt bm nd fm) (e:Ext w w2 c c2 S) (h0:S .ro=false) (h1:S .dirs=false) (h2:S .dirsMap=false) (h3:∀ j,S (.files j)=false):DirsBut w2 c2 b d bt bm nd fm :=
 ⟨(e.kept h.own h.col h1).1,(e.kept h.own h.col h1).2,e.col h.map.lt h.mcol h2,h.map.ext e h.mcol h2,
  fun j x hx=>(h.node j x hx).ext e h0,fun j x hx=>e.col (h.files j x hx).lt (h.fcol j x hx) (h3 j),fun j x hx=>(h.files j x hx).ext e (h.fcol j x hx) (h3 j)⟩
theorem DirsBut.put (h:DirsBut w c b d bt bm nd fm) (hn:∀ x∈d.l,x.k<d.next) {n:Nd} {vs:List Value} {f:List (List UInt8×Nat)} {bf:Nat} (hr:RoNode w c n vs) (hfc:c bf=.files d.next) (hf:qBk w bf f.length (fileAt f))
  (hm:qDi w2 bm (d.l.length+1) (fun j=>if j=d.next then some (.agg (vs++[Value.map (some bf)]).toArray) else qA8 d.l nd fm j)) (e:Ext w w2 c c (S1 .dirsMap)) :
  DirsBut (w2.setCell ⟨b,2,none⟩ (.int .i64 ((d.next+1:Nat):Int))) c b { d with l:=d.l++[⟨d.next,n,f⟩],next:=d.next+1 } bt bm (fun j=>if j=d.next then vs else nd j) (fun j=>if j=d.next then bf else fm j) ∧
   Ext w2 (w2.setCell ⟨b,2,none⟩ (.int .i64 ((d.next+1:Nat):Int))) c c (S1 .dirs):=by
 have hb2:=e.kept h.own h.col rfl
 obtain ⟨s1,s2⟩:=Ext.cell hb2.1 hb2.2 2 (.int .i64 ((d.next+1:Nat):Int))
 have hne:∀ x∈d.l,x.k≠(⟨d.next,n,f⟩:Ent).k:=fun x hx=>Nat.ne_of_lt (hn x hx)
 have hs:=qKY hne
 have hE:∀ j x,qAj (d.l++[⟨d.next,n,f⟩]) j=some x→(j=d.next∧x=⟨d.next,n,f⟩)∨(j≠d.next∧qAj d.l j=some x):=by
  intro j x hx
  rw [hs] at hx
  by_cases hj:j=d.next
  ·rw [zL1 hj] at hx;exact .inl ⟨hj,(Option.some.inj hx).symm⟩
  ·rw [zK1 hj] at hx;exact .inr ⟨hj,hx⟩
 have e3:Ext w (w2.setCell ⟨b,2,none⟩ (.int .i64 ((d.next+1:Nat):Int))) c c (fun y=>decide (y=.dirs)||decide (y=.dirsMap)):=(e.mono (S':=fun y=>decide (y=.dirs)||decide (y=.dirsMap)) (qAE rfl)).then s2 (qAE rfl)
 refine ⟨⟨by simpa using s1,h.col,h.mcol,?_,fun j x hx=>?_,fun j x hx=>?_,fun j x hx=>?_⟩,s2⟩
 ·have:=(hm.ext s2 h.mcol rfl).congr (g:=qA8 (d.l++[⟨d.next,n,f⟩]) (fun j=>if j=d.next then vs else nd j) (fun j=>if j=d.next then bf else fm j)) (fun j=>by
   unfold qA8
   rw [hs]
   by_cases hj:j=d.next<;>simp [hj])
  simpa using this
 ·rcases hE j x hx with ⟨rfl,rfl⟩ | ⟨hj,hx⟩
  ·simp only [if_true]
   exact hr.ext e3 rfl
  ·simp only [zK1 hj]
   exact (h.node j x hx).ext e3 rfl
 ·rcases hE j x hx with ⟨rfl,rfl⟩ | ⟨hj,hx⟩
  ·simp only [if_true]
   exact hfc
  ·simp only [zK1 hj]
   exact h.fcol j x hx
 ·rcases hE j x hx with ⟨rfl,rfl⟩ | ⟨hj,hx⟩
  ·simp only [if_true]
   exact hf.ext e3 hfc (by simp)
  ·simp only [zK1 hj]
   exact (h.files j x hx).ext e3 (h.fcol j x hx) (by simp)
theorem DirsBut.share (h:DirsBut w c b d bt bm nd fm) {k:Nat} {en:Ent} (he:qAj d.l k=some en) {s:List UInt8} (n:Nat) (hs:(qAD en.f s).isSome=true)
  (hm:qBk w2 (fm k) (en.f.length+1) (fun x=>if x=s then some (.int .i64 (n:Int)) else fileAt en.f x)) (e:Ext w w2 c c (S1 (.files k))) :
  DirsBut w2 c b { d with l:=qAO d.l k s n } bt bm nd fm:=by
 have hek:en.k=k:=(qA7 he).2
 have hE:∀ j x,qAj (qAO d.l k s n) j=some x→∃ y,qAj d.l j=some y∧x.n=y.n∧((j=k∧y=en∧x.f=qAo en.f s n)∨(j≠k∧x=y)):=by
  intro j x hx
  rw [qFg] at hx
  cases hy:qAj d.l j with
  | none=>rw [hy] at hx;cases hx
  | some y =>
   rw [hy] at hx
   simp only [zz,zA1] at hx
   have hyk:=(qA7 hy).2
   by_cases hj:j=k
   ·subst hj
    rw [he] at hy
    cases hy
    rw [zL1 hek] at hx
    subst hx
    exact ⟨en,rfl,rfl,.inl ⟨rfl,rfl,rfl⟩⟩
   ·rw [zK1 (by rw [hyk];exact hj)] at hx
    exact ⟨y,rfl,by rw [hx],.inr ⟨hj,hx.symm⟩⟩
 have hlen:(qAO d.l k s n).length=d.l.length:=by simp [qAO]
 refine ⟨(e.kept h.own h.col (qBo (by intro e;cases e))).1,h.col,h.mcol,?_,fun j x hx=>?_,fun j x hx=>?_,fun j x hx=>?_⟩
 ·rw [show ({ d with l:=qAO d.l k s n }:Stl.Dirs).l.length=d.l.length from hlen]
  refine (h.map.ext e h.mcol (qBo (by intro e;cases e))).congr fun j=>?_
  unfold qA8
  show ((qAj (qAO d.l k s n) j).map _)=_
  rw [qFg]
  cases qAj d.l j<;>rfl
 ·obtain ⟨y,hy,hn,_⟩:=hE j x hx
  rw [hn]
  exact (h.node j y hy).ext e (qBo (by intro e;cases e))
 ·obtain ⟨y,hy,_,_⟩:=hE j x hx
  exact h.fcol j y hy
 ·obtain ⟨y,hy,_,h3⟩:=hE j x hx
  rcases h3 with ⟨rfl,rfl,h4⟩ | ⟨hj,rfl⟩
  ·rw [h4]
   have hl2:(qAo y.f s n).length=y.f.length:=by simp [qAo]
   rw [hl2]
   have:=(hm.congr (g:=fileAt (qAo y.f s n)) (fun x=>by
    unfold fileAt
    rw [qBB]
    by_cases hx:x=s
    ·subst hx
     rw [zL1 rfl,zL1 rfl]
     cases hq:qAD y.f x with
     | none=>rw [hq] at hs;cases hs
     | some m=>rfl
    ·rw [zK1 hx,zK1 hx])).tight okS.keyed (y.f.map (·.1)) (fun x hx=>by
     unfold fileAt at hx
     rw [qBB] at hx
     have h5:(qAD y.f x).isSome=true:=by
      by_cases h6:x=s
      ·rw [h6];exact hs
      ·rw [zK1 h6] at hx;simpa using hx
     unfold qAD at h5
     cases hf:y.f.find? fun p=>p.1==x with
     | none=>rw [hf] at h5;cases h5
     | some q =>
      have h7:=zf hf
      have h8:=List.find?_some hf
      exact zb.2 ⟨q,h7,by simpa using h8⟩)
   simpa using this
  ·exact (h.files j x hy).ext e (h.fcol j x hy) (qBo (by intro e;injection e with e;exact hj e))
end
def qBf (l:List It):List (List UInt8):=(l.filter fun x=>x.n.kind==kFile).map fun x=>told x.path
theorem qEC (a b:List It):qBf (a++b)=qBf a++qBf b:=by simp [qBf]
theorem qJz (x:It) (h:x.n.kind=kFile):qBf [x]=[told x.path]:=by simp [qBf,h]
theorem qIc (x:It) (h:x.n.kind≠kFile):qBf [x]=[]:=by simp [qBf,h]
theorem qHj (l:List It):(qBf l).length≤l.length:=by simp [qBf,zS]
structure PSt (w0 W:World) (b5:Nat) (pre:List It):Prop where
 out:∃ A c,W.heap[b5]?=some (.cells #[.slice A (qBf pre).length c] 22 (0,0))∧W.ownsRow w0.heap.size 9 1 (.slice A (qBf pre).length c) (qBf pre).length ((qBf pre).map encStr)
 old:w0.heap.size≤b5
 below:Below w0.heap.size w0 W
theorem PSt.later {w0 W W':World} {b5:Nat} {pre:List It} (h:PSt w0 W b5 pre) (hb:Below W.heap.size W W'):PSt w0 W' b5 pre:=by
 obtain ⟨A,c,h1,h2⟩:=h.out
 exact ⟨⟨A,c,(hb.block _ (zM1 h1)).trans h1,h2.kept (Below.toGrown hb none) (by cases Value.ownBlock (Value.slice A (qBf pre).length c)<;>simp)⟩,h.old,h.below.trans (hb.mono h.below.size)⟩
theorem qLT {w0 W w2 w3:World} {b5:Nat} {pre:List It} {x:It} {Ao A3:Option Addr} {co c3:Nat} {acc:List (List UInt8)}
  (HS:PSt w0 W b5 pre) (HB2:Below W.heap.size W w2) (HO1:w2.heap[b5]?=some (.cells #[.slice Ao acc.length co] 22 (0,0)))
  (HO3:w2.ownsRow w0.heap.size 9 1 (.slice Ao acc.length co) acc.length (acc.map encStr)) (HO4:w3.ownsRow w0.heap.size 9 1 (.slice A3 (acc.length+1) c3) (acc.length+1) (acc.map encStr++[encStr (told x.path)]))
  (HG3:w2.grownBy w3 (Value.slice Ao acc.length co).ownBlock) (HR:qBf (pre++[x])=acc++[told x.path]) :
  PSt w0 (w3.setCell ⟨b5,0,none⟩ (.slice A3 (acc.length+1) c3)) b5 (pre++[x])∧NKeep W (w3.setCell ⟨b5,0,none⟩ (.slice A3 (acc.length+1) c3)):=by
 have s3:=(HG3.block _ (zM1 HO1) (qAX HO3 HO1 (by decide))).trans HO1
 have hz:=HS.below.size
 have hb2:Below w0.heap.size w0 w2:=HS.below.trans (HB2.mono hz)
 have hb3:Below w0.heap.size w0 w3:=hb2.grown HG3 hb2.size (fun k hk=>(HO3.lt k hk).1)
 refine ⟨⟨⟨A3,c3,?_,?_⟩,HS.old,hb3.setCell HS.old _⟩,?_⟩
 ·rw [one_setCell s3,HR]
  simp
 ·rw [HR,zP,zU]
  exact zN1 HO4 (qAX HO4 s3 (by decide)).symm _
 ·intro k cs T fr hk h1 h2
  have k2:=(HB2.block _ (zM1 hk)).trans hk
  have k3:=(HG3.block _ (zM1 k2) (qAX HO3 k2 h1)).trans k2
  rw [zA _ _ _ _ (by
   rintro rfl
   rw [s3] at k3
   injection k3 with k3
   injection k3 with _ k3
   exact h2.1 k3.symm)]
  exact k3
theorem qLy {w0 W:World} {b5:Nat} {pre:List It} (x:It) (vs:List Value) (h:PSt w0 W b5 pre) (W0:World) (hn:NodeAt W0 x.n vs) (hp:(qBf pre).length≤1000000) :
  Calls Tryz.prog 181 (#[.agg vs.toArray,.string ⟨(told x.path).toArray⟩]++#[.pointer (some ⟨b5,0,none⟩)]) W (qHs (fun l W'=>PSt w0 W' b5 l) (pre++[x]) W):=by
 obtain ⟨p',deep,n⟩:=x
 obtain ⟨k,d,e,ks⟩:=n
 obtain ⟨A,c,rfl,_,_⟩:=hn.open
 have HS:=Hh h
 have hb1:Below W.heap.size W (W.alloc (.cells #[.string ⟨k.toArray⟩,.string ⟨d.toArray⟩,.bool e,.slice A ks.length c] 40)):=(zB _ W).alloc (zo _) _
 have HS1:=Hh (h.later hb1)
 have HB:=Hh hb1
 clear h hn hb1
 simp only
 generalize hpt:told p'=pt
 rcases (show (k=kFile∧(k==[102,105,108,101])=true)∨(k≠kFile∧(k==[102,105,108,101])=false) from by
   by_cases h:k=kFile
   ·exact .inl ⟨h,by subst h;decide⟩
   ·exact .inr ⟨h,by simpa [kFile] using h⟩) with ⟨hk,hk'⟩ | ⟨hk,hk'⟩
 ·have HR:=Hh (show qBf (pre++[⟨p',deep,.mk k d e ks⟩])=qBf pre++[told (⟨p',deep,.mk k d e ks⟩:It).path] by rw [qEC,qJz ⟨p',deep,.mk k d e ks⟩ hk])
  obtain ⟨Ao,co,ho1,ho2⟩:=HS1.out.out
  generalize qBf pre=acc at HR ho1 ho2 hp
  have HO1:=Hh ho1
  have HO2:=Hh ho2
  have HP:=Hh hpt
  have c5:=cell_of_one ho1
  have f5:=free_of_one ho1
  obtain ⟨i0,hi,hz0,hz1,hz2⟩:=qGv
  have Hi:=Hh hi
  have Hz0:=Hh hz0
  have Hz1:=Hh hz1
  have Hz2:=Hh hz2
  clear hk ho1 ho2 hi hz0 hz1 hz2 hpt
  go_enter Tryz.func181,Tryz.ntmps181
  go_upto_region 2 with fail
  generalize W.alloc (.cells #[.string ⟨k.toArray⟩,.string ⟨d.toArray⟩,.bool e,.slice A ks.length c] 40)=W1 at *
  have hb2:Below W1.heap.size W1 (W1.alloc (.cells #[.string ⟨pt.toArray⟩] 9)):=(zB _ W1).alloc (zo _) _
  have HB2:=Hh hb2
  have HO3:=Hh (HO2.out.kept (Below.toGrown hb2 none) (by cases Value.ownBlock (Value.slice Ao acc.length co)<;>simp))
  have HOX:=Hh ((hb2.block _ (zM1 HO1.out)).trans HO1.out)
  clear hb2
  go_wp2_with (at_builtin;refine Stl.wpList_app _ rfl _ _ 22 rfl w0.heap.size 9 i0 (.string ByteArray.empty) 1 16 Tryz.underlying22 Hi.out Hz0.out Hz1.out Hz2.out rfl (by decide) (.slice Ao acc.length co) acc.length (acc.map encStr) rfl HO3.out (some ⟨W1.heap.size,0,none⟩) 1 1 [.string ⟨pt.toArray⟩] rfl rfl (fun h=>by cases h) (qAJ _ _ _) (by simp [Value.oneCell']) (by unfold maxLen;omega) (by omega) (zq HS1.out.below.size HB2.out.size) ?_;intro A3 c3 w3 hown3 hgr3 hat;have HO4:=Hh hown3;have HG3:=Hh hgr3;have HS3:=Hh ((hgr3.block _ (zM1 HOX.out) (qAX HO3.out HOX.out (by decide))).trans HOX.out);have c5':=cell_of_one HS3.out;have f5':=free_of_one HS3.out;clear hown3 hgr3 hat)
  go_end0
  refine ⟨rfl,?_⟩
  have HR2:=HR.out
  have:=qLT (x:=⟨p',deep,.mk k d e ks⟩) HS1.out HB2.out HOX.out HO3.out (by simp only [HP.out];exact HO4.out) HG3.out (by simpa only [HP.out] using HR2)
  exact ⟨this.1,(NKeep.of_below HB.out).trans this.2⟩
 ·have HR:=Hh (show qBf (pre++[⟨p',deep,.mk k d e ks⟩])=qBf pre by rw [qEC,qIc ⟨p',deep,.mk k d e ks⟩ hk,List.append_nil])
  clear hk
  go_enter Tryz.func181,Tryz.ntmps181
  go_wp2
  go_end0
  refine ⟨rfl,?_,NKeep.of_below HB.out⟩
  obtain ⟨q2,q3,q4⟩:=HS1.out
  exact ⟨by rw [HR.out];exact q2,q3,q4⟩
theorem qHS:∀ args w,(callFunc 181 args).run Tryz.prog w=.ok (.enter 181 args) w:=enters_of Tryz.func181 (by kernel_rfl) rfl
theorem qLd (n:Nd):qAw n=qBf (items n):=rfl
theorem qJg (p:Nat→Addr) (n:Nd) (vs:List Value) (w:World) (hE:Errs w p) (hn:NodeAt w n vs) :
  Calls Tryz.prog 121 #[.agg vs.toArray] w (qHh (qAw n) w):=by
 have HR:=Hh (qLd n)
 generalize qAw n=res at HR
 have HE:=Hh hE
 have HN:=Hh hn
 obtain ⟨k,d,e,ks⟩:=n
 obtain ⟨A,c,rfl,_,_⟩:=hn.open
 clear hE hn
 have hbl:Below w.heap.size w ((w.alloc (.cells #[.string ⟨k.toArray⟩,.string ⟨d.toArray⟩,.bool e,.slice A ks.length c] 40)).alloc (.cells #[.slice none 0 0] 22)):=((zB _ w).alloc (zo _) _).alloc (by simp) _
 have k2:((w.alloc (.cells #[.string ⟨k.toArray⟩,.string ⟨d.toArray⟩,.bool e,.slice A ks.length c] 40)).alloc (.cells #[.slice none 0 0] 22)).heap[w.heap.size+1]?=some (.cells #[.slice none 0 0] 22 (0,0)):=by
  have:=zJ1 (w.alloc (.cells #[.string ⟨k.toArray⟩,.string ⟨d.toArray⟩,.bool e,.slice A ks.length c] 40)) (.cells #[.slice none 0 0] 22)
  simpa using this
 have h0:PSt w ((w.alloc (.cells #[.string ⟨k.toArray⟩,.string ⟨d.toArray⟩,.bool e,.slice A ks.length c] 40)).alloc (.cells #[.slice none 0 0] 22)) (w.heap.size+1) [] :=
  ⟨⟨none,0,k2,zE1 _ _ _ _⟩,by omega,hbl⟩
 have h:=qHp p w HE.out (.mk k d e ks) _ HN.out 181 #[.pointer (some ⟨w.heap.size+1,0,none⟩)] qHS
  (fun l W=>PSt w W (w.heap.size+1) l) (fun pre W W' h hb=>h.later hb) (fun pre W h=>h.below)
  (fun ht pre x W vs hI hnx hr=>by
   obtain ⟨i1,i2⟩:=items_well ht
   obtain ⟨rest,hr⟩:=hr
   have hlen:pre.length≤200:=by
    have:=congrArg List.length hr
    simp at this
    omega
   have:=qHj pre
   exact qLy x vs hI w hnx (by omega)) _ h0
 have HH:=Hh h
 clear h h0 k2 hbl
 go_enter Tryz.func121,Tryz.ntmps121
 go_upto_region 3 with (go_at_call 115;refine HH.out.mono ?_;rintro ev w2 ⟨rfl,hI,_⟩;obtain ⟨Ao,co,ho1,ho2⟩:=hI.out;have HB2:=Hh hI.below;have HO2:=Hh ho2;have c5:=cell_of_one ho1;clear ho1 ho2 hI)
 go_wp2
 go_ret
 rw [← HR.out] at HO2
 exact ⟨Ao,co,by rw [← HR.out];rfl,HO2.out,HB2.out⟩
end Go.Proofs.YtkcjmccdkeigmaaGreatDoor
namespace Stl
open Go
theorem qGd (c:UInt8):∀ l:List UInt8,(cutAt c l=none∧Lib.index l [c]=-1∧c∉l)∨∃ a b,cutAt c l=some (a,b)∧Lib.index l [c]=a.length∧l=a++c::b
 | []=>.inl ⟨rfl,rfl,by simp⟩
 | x::r=>by
  by_cases h:x=c
  ·subst h
   refine .inr ⟨[],r,by simp [cutAt],?_,rfl⟩
   rw [Lib.index_one]
   simp [Lib.indexByte]
  ·have hx:¬ (x==c)=true:=by simpa using h
   rcases qGd c r with ⟨h1,h2,h3⟩ | ⟨a,b,h1,h2,h3⟩
   ·refine .inl ⟨by simp [cutAt,h,h1],?_,by simp [h3];exact fun e=>h e.symm⟩
    rw [Lib.index_one] at h2 ⊢
    unfold Lib.indexByte
    rw [zK1 hx,zL1 (by rw [h2];rfl)]
   ·refine .inr ⟨x::a,b,by simp [cutAt,h,h1],?_,by rw [h3];rfl⟩
    rw [Lib.index_one] at h2 ⊢
    unfold Lib.indexByte
    rw [zK1 hx,zK1 (by rw [h2];simp),h2]
    simp
theorem qPL (c:UInt8) (l:List UInt8):Lib.cut l [c]=match cutAt c l with | none=>(l,[],false) | some p=>(p.1,p.2,true):=by
 unfold Lib.cut
 rcases qGd c l with ⟨h1,h2,_⟩ | ⟨a,b,h1,h2,h3⟩
 ·rw [h1,h2];rfl
 ·rw [h1,h2,zL1 (by omega)]
  simp [h3]
theorem qCa (c:UInt8):∀ l:List UInt8,qAl c l=match cutAt c l with | none=>[l] | some p=>p.1::qAl c p.2
 | []=>rfl
 | x::r=>by
  by_cases h:x=c
  ·simp [qAl,cutAt,h]
  ·have ih:=qCa c r
   simp only [qAl,cutAt,zK1 h]
   rw [ih]
   cases cutAt c r<;>rfl
theorem qIP (c:UInt8):∀ (n:Nat) (l:List UInt8),l.length≤n→Lib.splitB ⟨#[c]⟩ 0 (Lib.countB ⟨l.toArray⟩ ⟨#[c]⟩) ⟨l.toArray⟩=(qAl c l).map (fun x=>⟨x.toArray⟩)∧Lib.countB ⟨l.toArray⟩ ⟨#[c]⟩+1=(qAl c l).length
 | n,l,hn=>by
  rcases qGd c l with ⟨h1,h2,_⟩ | ⟨a,b,h1,h2,h3⟩
  ·have e:Lib.indexB ⟨l.toArray⟩ ⟨#[c]⟩=-1:=h2
   rw [qCa,h1,Lib.splitB_miss _ _ _ _ e,Lib.countB_miss _ _ e]
   exact ⟨rfl,rfl⟩
  ·have e:Lib.indexB ⟨l.toArray⟩ ⟨#[c]⟩=a.length:=h2
   have hl:l.length=a.length+1+b.length:=by rw [h3];simp;omega
   have ex:(ByteArray.mk l.toArray).extract (a.length+1) (ByteArray.mk l.toArray).size=⟨b.toArray⟩:=by
    apply ByteArray.ext
    apply Array.toList_inj.1
    rw [Lib.extract_to_end]
    simp [h3]
   have ex0:(ByteArray.mk l.toArray).extract 0 (a.length+0)=⟨a.toArray⟩:=by
    apply ByteArray.ext
    apply Array.toList_inj.1
    rw [Lib.extract_data]
    simp [h3]
   have hc:=Lib.countB_hit ⟨l.toArray⟩ ⟨#[c]⟩ a.length (zo 1) e
   have hs:(ByteArray.mk #[c]).size=1:=rfl
   rw [hs,ex] at hc
   match n,hn with
   | 0,hn=>omega
   | n+1,hn =>
    obtain ⟨i1,i2⟩:=qIP c n b (by omega)
    rw [hc,Nat.add_comm 1,Lib.splitB_hit _ _ _ _ _ e,hs,ex,ex0,i1,qCa c l,h1]
    exact ⟨rfl,by simp;omega⟩
theorem qGy (c:UInt8) (l:List UInt8):∀ x∈qAl c l,x.length≤l.length:=by
 induction l with
 | nil=>simp [qAl]
 | cons a r ih =>
  intro x hx
  simp only [qAl] at hx
  split at hx
  ·rcases zY.1 hx with rfl | hx
   ·simp
   ·have:=ih x hx;simp;omega
  ·cases hs:qAl c r with
   | nil =>
    rw [hs] at hx
    simp at hx
    subst hx
    simp
   | cons y t =>
    rw [hs] at hx ih
    rcases zY.1 hx with rfl | hx
    ·have:=ih y (by simp);simp;omega
    ·have:=ih x (by simp [hx]);simp;omega
theorem qGs (c:UInt8) (l:List UInt8):(qAl c l).length≤l.length+1:=by
 induction l with
 | nil=>simp [qAl]
 | cons a r ih =>
  simp only [qAl]
  split
  ·simp;omega
  ·cases hs:qAl c r with
   | nil=>simp
   | cons y t=>rw [hs] at ih;simp at ih ⊢;omega
end Stl
