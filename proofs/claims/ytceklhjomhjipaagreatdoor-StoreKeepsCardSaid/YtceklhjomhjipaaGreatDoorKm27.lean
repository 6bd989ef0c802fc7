/- Texts of this claim, merged: Scan, Firsts, PutMem, Files, CutPure. -/
import Derived.Lib.CountLaws
import Derived.Lib.CutLaws
import Derived.Lib.IndexMore
import Derived.Lib.Split
import Derived.Lib.SplitLaws
import Derived.Test.YtceklhjomhjipaaGreatDoorKm26
set_option maxHeartbeats 16000000
set_option maxRecDepth 1000000
set_option linter.all false
namespace Go.Proofs.YtceklhjomhjipaaGreatDoor
open Go.RowKit Go.Sort Go.Shelf Stl
def qPH (T:Tab) (n:Nat):Bool:=match T.read n with | .ok _=>false | .error _=>true
theorem qQx (T:Tab):T.scan=T.all.filter (qPH T):=rfl
theorem qC7 {T:Tab} {n cd:Nat} (h:T.read n=.error cd):cd≠0:=by
 unfold Tab.read at h
 split at h
 ·cases h;decide
 ·split at h
  ·cases h
  ·cases h;decide
section
variable {w:World} {c:Nat→Col} {b:Nat} {T:Tab} {p:Nat→Addr}
theorem qON (h:TabAt w c b T) (ht:qBl T) (hD:T.disk.length≤1000000) (hL:T.l.length≤1000000) (hE:Errs w p) :
  Calls Tryz.prog 89 #[.pointer (some ⟨b,0,none⟩)] w fun e w'=>∃ A cap,e=.returned (.slice A T.scan.length cap)∧w'.ownsRow w.heap.size 3 1 (.slice A T.scan.length cap) T.scan.length (T.scan.map qH4)∧Below w.heap.size w w':=by
 have HALL:=Hh (qFC h hL)
 have HS:=Hh (qQx T)
 have hal:∀ n∈T.all,n≤1000000:=fun n hn=>by
  unfold Tab.all at hn
  have:=List.mem_range.1 (zZ.1 hn).1
  omega
 have hll:T.all.length≤1000000:=by
  unfold Tab.all
  have:=zS (fun n=>(T.at_ n).isSome) (List.range T.l.length)
  simp at this ⊢
  omega
 generalize T.scan=res at HS ⊢
 generalize T.all=all at HALL HS hal hll
 have HT:=Hh h
 have HOK:=Hh ht
 have HDD:=Hh hD
 have HE:=Hh hE
 have HAL:=Hh hal
 clear h ht hD hL hE hal
 go_enter Tryz.func89,Tryz.ntmps89
 go_upto_region 5 with (go_at_call 53;refine HALL.out.mono ?_;rintro ev wx ⟨A,cap,rfl,hr,hb⟩;have HRW:=Hh hr;have HBX:=Hh hb;clear hr hb)
 go_loopw [3,13] (fun v a wr=>∃ (i:Nat) (acc:List Nat),a=.int .i64 i∧i≤all.length∧acc.length≤i∧Hid (Below wx.heap.size wx wr)∧Hid (wr.ownsRow wx.heap.size 3 1 v acc.length (acc.map qH4))∧Hid (acc=(all.take i).filter (qPH T))) (fun _ a _=>all.length-(intOf a).toNat)
 case atStart=>exact ⟨0,[],rfl,zx _,zq _,Hh (zB _ _),Hh (zF1 _ _ _ _),Hh rfl⟩
 case round =>
  obtain ⟨i,acc,rfl,hi,hacc,HB,HO,HA⟩:=hrel
  by_cases hil:i<all.length
  ·have i1:(i:Int)<(all.length:Int):=by omega
   have i2:(0:Int)≤(i:Int):=by omega
   have hbr:Below w.heap.size w wr:=HBX.out.trans (HB.out.mono HBX.out.size)
   have HRD:=Hh (qBX (HT.out.below hbr) HOK.out HDD.out all[i] (HAL.out _ (zO hil)) (HE.out.later hbr))
   have hap:∃ g,A=some ⟨g,0,none⟩∧g<wx.heap.size:=by
    rcases HRW.out.2 with ⟨_,h0⟩ | ⟨g,cp,cur,e,_,h6,_⟩
    ·omega
    ·simp only [zC1] at e
     exact ⟨g,e.1,qAa h6⟩
   obtain ⟨g,rfl,hgl⟩:=hap
   have q0:wr.cell? ⟨g,i,none⟩=some (.int .i64 (all[i]:Nat)):=by
    rw [HB.out.cell (p:=⟨g,i,none⟩) hgl,HRW.out.cellAt i (by omega),zN,zL hil]
    rfl
   have HAN:=Hh (show (all.take (i+1)).filter (qPH T)=acc++(if qPH T all[i] then [all[i]] else []) by
    rw [zo hil,List.filter_append,← HA.out]
    simp only [zI,List.filter_nil])
   generalize all[i]=n at HRD q0 HAN
   cases hrd:T.read n with
   | ok s =>
    rw [hrd,show qDw p (.ok s)=#[.string ⟨s.toArray⟩,.nilIface] from rfl] at HRD
    have HAN2:=Hh (show acc=(all.take (i+1)).filter (qPH T) by
     rw [HAN.out]
     simp [qPH,hrd])
    clear hrd hbr
    go_wp2_with (go_at_call 143;refine HRD.out.mono ?_;rintro ev w3 ⟨rfl,hb3⟩;have HB3:=Hh (HB.out.trans (hb3.mono HB.out.size));have HO3:=Hh (HO.out.kept (Below.toGrown hb3 none) (by cases Value.ownBlock u3<;>simp));clear hb3)
    clear q0
    go_roundw
    case rel=>exact ⟨i+1,acc,by go_num,hil,by omega,HB3,HO3,HAN2⟩
    case measure=>simp [intOf];omega
   | error cd =>
    rw [hrd,show qDw p (.error cd)=#[.string ⟨#[]⟩,qAB p cd] from rfl,qAc p (qC7 hrd)] at HRD
    have HAN2:=Hh (show acc++[n]=(all.take (i+1)).filter (qPH T) by
     rw [HAN.out]
     simp [qPH,hrd])
    obtain ⟨i0,hii,hz0,hz1,hz2⟩:=qJ8.info
    have HII:=Hh hii
    have HZ0:=Hh hz0
    have HZ1:=Hh hz1
    have HZ2:=Hh hz2
    clear hrd hbr hii hz0 hz1 hz2
    go_upto_region 9 with (go_at_call 143;refine HRD.out.mono ?_;rintro ev w3 ⟨rfl,hb3⟩;have HB3:=Hh (HB.out.trans (hb3.mono HB.out.size));have HO3:=Hh (HO.out.kept (Below.toGrown hb3 none) (by cases Value.ownBlock u3<;>simp));clear hb3)
    have hb4:Below w3.heap.size w3 (w3.alloc (.cells #[.int .i64 n] 3)):=(zB _ w3).alloc (zq _) _
    have HB4:=Hh (HB3.out.trans (hb4.mono HB3.out.size))
    have HO4:=Hh (HO3.out.kept (Below.toGrown hb4 none) (by cases Value.ownBlock u3<;>simp))
    clear hb4 q0
    go_wp2_with (at_builtin;refine Stl.wpList_app _ rfl _ _ 68 rfl wx.heap.size 3 i0 (.int .i64 0) 1 8 Tryz.underlying68 HII.out HZ0.out HZ1.out HZ2.out rfl (by decide) u3 acc.length (acc.map qH4) rfl HO4.out (some ⟨w3.heap.size,0,none⟩) 1 1 [.int .i64 n] rfl rfl (fun h=>by cases h) (qAH _ _ _) (by simp [Value.oneCell']) (by unfold maxLen;omega) (by omega) (zr HB3.out.size (by simp)) ?_;intro A5 c5 w5 hown5 hgr5 hat;have HO5:=Hh hown5;have HB5:=Hh (HB4.out.grown hgr5 HB4.out.size (fun k hk=>(HO4.out.lt k hk).1));clear hown5 hgr5 hat)
    go_roundw
    case rel=>exact ⟨i+1,acc++[n],by go_num,hil,by simp;omega,HB5,by simpa using HO5,HAN2⟩
    case measure=>simp [intOf];omega
  ·have i1:¬ (i:Int)<(all.length:Int):=by omega
   have HR:=Hh (show res=acc by
    have:=HA.out
    rw [zn (by omega)] at this
    rw [HS.out,this])
   obtain ⟨A3,c3,e3⟩:=Stl.owns_slice _ HO.out
   subst e3
   go_wp2
   go_ret
   rw [HR.out]
   exact ⟨A3,c3,rfl,ownsRow_base_a HO.out HBX.out.size,HBX.out.trans (HB.out.mono HBX.out.size)⟩
end
def qBz (T:Tab) (l:List Nat) (x:qOM):Option Value:=(qBD T l x.1).map fun n:Nat=>Value.int .i64 (n:Int)
abbrev qNN (w:World) (b n:Nat) (f:qOM→Option Value):Prop:=Stl.zzMapAt Tryz.prog 306 qQS w b n f
def qQ4 (w:World) (T:Tab) (l:List Nat) (e:Ending) (w':World):Prop:=∃ bm n,e=.returned (.map (some bm))∧qNN w' bm n (qBz T l)∧Below w.heap.size w w'
structure FsSt (w wr:World) (T:Tab) (A:Option Addr) (cap:Nat) (all:List Nat) (j:Nat):Prop where
 below:Below w.heap.size w wr
 row:wr.ownsRow (w.heap.size+1) 3 1 (.slice A all.length cap) all.length (all.map qH4)
 map:qNN wr w.heap.size j (qBz T (all.take j))
theorem FsSt.later {w wr w2:World} {T:Tab} {A:Option Addr} {cap:Nat} {all:List Nat} {j:Nat} (h:FsSt w wr T A cap all j) (hb:Below wr.heap.size wr w2):FsSt w w2 T A cap all j :=
 ⟨h.below.trans (hb.mono h.below.size),h.row.kept (Below.toGrown hb none) (by cases Value.ownBlock (Value.slice A all.length cap)<;>simp),h.map.of_block (hb.block _ h.map.lt)⟩
section
variable {w:World} {c:Nat→Col} {b:Nat} {T:Tab} {p:Nat→Addr}
theorem qLk (h:TabAt w c b T) (ht:qBl T) (hD:T.disk.length≤1000000) (hL:T.l.length≤1000000) (hE:Errs w p) :
  Calls Tryz.prog 170 #[.pointer (some ⟨b,0,none⟩)] w (qQ4 w T T.all):=by
 have hmm:=@run_makeMap Tryz.prog
 have hb1:Below w.heap.size w (w.alloc (.map #[] 0)):=(zB _ w).alloc (zq _) _
 have hz1:(w.alloc (.map #[] 0)).heap.size=w.heap.size+1:=by simp
 have HALL:=Hh (qFC (h.below hb1) hL)
 have HM1:=Hh (zzMapAt.made w Tryz.prog 306 qQS)
 have hal:∀ n∈T.all,n≤1000000∧∃ x,T.at_ n=some x:=fun n hn=>by
  have h1:=qER.1 hn
  obtain ⟨x,hx⟩:=zz.1 h1
  have:=qDR hx
  exact ⟨by omega,x,hx⟩
 have hll:T.all.length≤1000000:=by
  unfold Tab.all
  have:=zS (fun n=>(T.at_ n).isSome) (List.range T.l.length)
  simp at this ⊢
  omega
 generalize T.all=all at HALL hal hll ⊢
 have HT:=Hh h
 have HOK:=Hh ht
 have HDD:=Hh hD
 have HE:=Hh hE
 have HAL:=Hh hal
 have HB1:=Hh hb1
 clear h ht hD hL hE hal hb1
 go_enter Tryz.func170,Tryz.ntmps170
 go_upto_region 2 with fail
 generalize w.alloc (.map #[] 0)=w1 at *
 go_upto_region 3 with (go_at_call 53;refine HALL.out.mono ?_;rintro ev wx ⟨A,cap,rfl,hr,hb⟩;have HRW:=Hh hr;have HBX:=Hh hb;clear hr hb)
 have H0:=Hh (show FsSt w wx T A cap all 0 from ⟨HB1.out.trans (HBX.out.mono HB1.out.size),by have:=HRW.out;rwa [hz1] at this,(HM1.out.of_block (HBX.out.block _ HM1.out.lt)).congr fun x=>rfl⟩)
 clear hz1
 go_loopw [16] (fun a wr=>∃ j:Nat,a=.int .i64 j∧j≤all.length∧Hid (FsSt w wr T A cap all j)) (fun a _=>all.length-(intOf a).toNat)
 case atStart=>exact ⟨0,rfl,zx _,H0⟩
 case round =>
  obtain ⟨j,rfl,hj,HS⟩:=hrel
  by_cases hjl:j<all.length
  ·have i1:(j:Int)<(all.length:Int):=by omega
   have i2:(0:Int)≤(j:Int):=by omega
   obtain ⟨hnb,x,hx⟩:=HAL.out _ (zO hjl)
   have HRD:=Hh (qBX (HT.out.below HS.out.below) HOK.out HDD.out all[j] hnb (HE.out.later HS.out.below))
   have hap:∃ g,A=some ⟨g,0,none⟩∧g<wr.heap.size:=by
    rcases HS.out.row.2 with ⟨_,h0⟩ | ⟨g,cp,cur,e,_,h6,_⟩
    ·omega
    ·simp only [zC1] at e
     exact ⟨g,e.1,qAa h6⟩
   obtain ⟨g,rfl,hgl⟩:=hap
   have q0:wr.cell? ⟨g,j,none⟩=some (.int .i64 (all[j]:Nat)):=by
    rw [HS.out.row.cellAt j (by omega),zN,zL hjl]
    rfl
   have HTK:=Hh (show all.take (j+1)=all.take j++[all[j]] from zo hjl)
   generalize all[j]=n at HRD q0 HTK hx hnb
   have HX:=Hh hx
   cases hrd:T.read n with
   | error cd =>
    rw [hrd,show qDw p (.error cd)=#[.string ⟨#[]⟩,qAB p cd] from rfl,qAc p (qC7 hrd)] at HRD
    have HFN:=Hh (show ∀ y:qOM,qBz T (all.take (j+1)) y=qBz T (all.take j) y from fun y=>by
     unfold qBz
     rw [HTK.out,qDa]
     cases qBD T (all.take j) y.1 with
     | some m=>rfl
     | none=>rw [zL1 (by rw [qPa hrd];simp)])
    clear hrd hx
    go_upto_region 6 with (go_at_call 143;refine HRD.out.mono ?_;rintro ev w3 ⟨rfl,hb3⟩;have HS3:=Hh (HS.out.later hb3);clear hb3)
    clear q0
    have HST:=Hh (qBS (HT.out.below HS3.out.below) HOK.out n hnb HX.out)
    simp only [qFw,qAz] at HST
    go_upto_region 7 with (go_at_call 54;refine HST.out.mono ?_;rintro ev w4 ⟨A4,cap4,rfl,hr4,hb4⟩;have HS4:=Hh (HS3.out.later hb4);clear hb4 hr4)
    have HS5:=Hh (HS4.out.later (w2:=w4.alloc (.cells #[.int .i64 x.bytes,.int .i64 x.links,.bool x.exec,.slice A4 x.blocks.length cap4,.int .u32 x.sum.toNat] 71)) ((zB _ w4).alloc (zq _) _))
    generalize w4.alloc (.cells #[.int .i64 x.bytes,.int .i64 x.links,.bool x.exec,.slice A4 x.blocks.length cap4,.int .u32 x.sum.toNat] 71)=w5 at *
    go_wp2_with fail
    go_roundw
    case rel=>exact ⟨j+1,by go_num,hjl,Hh ⟨HS5.out.below,HS5.out.row,(HS5.out.map.mono (by omega)).congr HFN.out⟩⟩
    case measure=>simp [intOf];omega
   | ok s =>
    rw [hrd,show qDw p (.ok s)=#[.string ⟨s.toArray⟩,.nilIface] from rfl] at HRD
    have hsl:s.length≤maxLen:=by
     have h1:s.length≤x.bytes:=by
      unfold Tab.read at hrd
      rw [HX.out] at hrd
      simp only at hrd
      split at hrd
      ·cases hrd
       unfold Tab.raw
       exact List.length_take_le _ _
      ·cases hrd
     have h2:=HOK.out.bytes n x HX.out
     unfold maxLen
     omega
    have hky:=qKh hrd HX.out
    have HKY:=Hh hky
    clear hrd hx hky
    go_upto_region 6 with (go_at_call 143;refine HRD.out.mono ?_;rintro ev w3 ⟨rfl,hb3⟩;have HS3:=Hh (HS.out.later hb3);clear hb3)
    clear q0
    have HST:=Hh (qBS (HT.out.below HS3.out.below) HOK.out n hnb HX.out)
    simp only [qFw,qAz] at HST
    go_upto_region 7 with (go_at_call 54;refine HST.out.mono ?_;rintro ev w4 ⟨A4,cap4,rfl,hr4,hb4⟩;have HS4:=Hh (HS3.out.later hb4);clear hb4 hr4)
    have HS5:=Hh (HS4.out.later (w2:=w4.alloc (.cells #[.int .i64 x.bytes,.int .i64 x.links,.bool x.exec,.slice A4 x.blocks.length cap4,.int .u32 x.sum.toNat] 71)) ((zB _ w4).alloc (zq _) _))
    have HX5:=Hh (zK1 w4 (.cells #[.int .i64 x.bytes,.int .i64 x.links,.bool x.exec,.slice A4 x.blocks.length cap4,.int .u32 x.sum.toNat] 71))
    generalize w4.alloc (.cells #[.int .i64 x.bytes,.int .i64 x.links,.bool x.exec,.slice A4 x.blocks.length cap4,.int .u32 x.sum.toNat] 71)=w5 at *
    have x2:=ce2 HX5.out
    obtain ⟨ky,hkye⟩:∃ ky:qOM,ky=⟨(s,x.exec),hsl⟩:=⟨_,rfl⟩
    have hlk:=HS5.out.map.getOk (t:=265) okK Tryz.underlying265 (qHJ w5) (i:=ky) trivial
    have HKE:=Hh hkye
    cases hfi:qBD T (all.take j) (s,x.exec) with
    | some m =>
     have hff:qBz T (all.take j) ky=some (.int .i64 (m:Int)):=by unfold qBz;rw [hkye];simp only [hfi];rfl
     rw [hff,hkye] at hlk
     simp only [zy,Option.isSome_some,mkT,mkK] at hlk
     have HFN:=Hh (show ∀ y:qOM,qBz T (all.take (j+1)) y=qBz T (all.take j) y from fun y=>by
      unfold qBz
      rw [HTK.out,qDa]
      cases hy:qBD T (all.take j) y.1 with
      | some m=>rfl
      | none =>
       rw [zL1 (fun e=>by
        rw [HKY.out] at e
        injection e with e
        rw [← e,hfi] at hy
        cases hy)])
     clear hfi hff hkye
     go_wp2_with fail
     go_roundw
     case rel=>exact ⟨j+1,by go_num,hjl,Hh ⟨HS5.out.below,HS5.out.row,(HS5.out.map.mono (by omega)).congr HFN.out⟩⟩
     case measure=>simp [intOf];omega
    | none =>
     have hff:qBz T (all.take j) ky=none:=by unfold qBz;rw [hkye];simp only [hfi];rfl
     rw [hff,hkye] at hlk
     simp only [Option.getD_none,Option.isSome_none,mkT,mkK] at hlk
     have HFN:=Hh (show ∀ y:qOM,qBz T (all.take (j+1)) y=if y=ky then some (.int .i64 (n:Int)) else qBz T (all.take j) y from fun y=>by
      unfold qBz
      rw [HTK.out,qDa]
      by_cases hy:y=ky
      ·rw [zM1 hy,hy,HKE.out]
       simp only [hfi,HKY.out,if_true]
       rfl
      ·rw [zL1 hy]
       cases qBD T (all.take j) y.1 with
       | some m=>rfl
       | none =>
        rw [zL1 (fun e=>by
         rw [HKY.out] at e
         injection e with e
         apply hy
         rw [HKE.out]
         exact Subtype.ext e.symm)])
     clear hfi hff hkye
     go_wp2_with (at_mapUpdate;refine qBf rfl _ _ _ 265 3 rfl okK Tryz.underlying265 rfl HS5.out.map (by unfold maxLen;omega) ky trivial (by rw [HKE.out];rfl) (.int .i64 n) rfl ?_;intro W6 hmap6 hturn6;have HMP6:=Hh hmap6;have HTN6:=Hh hturn6;clear hmap6 hturn6)
     go_roundw
     case rel =>
      refine ⟨j+1,by go_num,hjl,Hh ⟨HS5.out.below.grown HTN6.out.grown HS5.out.below.size (fun k hk=>by injection hk with hk;omega),HS5.out.row.kept HTN6.out.grown ?_,HMP6.out.congr HFN.out⟩⟩
      refine .inr fun e=>?_
      have:=(HS5.out.row.lt _ e).1
      omega
     case measure=>simp [intOf];omega
  ·have i1:¬ (j:Int)<(all.length:Int):=by omega
   obtain rfl:j=all.length:=by omega
   have hm:=HS.out.map
   rw [zm] at hm
   have HM:=Hh hm
   clear hm
   go_wp2
   go_ret
   exact ⟨_,_,rfl,HM.out,HS.out.below⟩
end
end Go.Proofs.YtceklhjomhjipaaGreatDoor
namespace Go.Proofs.YtceklhjomhjipaaGreatDoor
open Go.RowKit Go.Maps Go.Sort Go.Shelf Stl
theorem qLd {l:List Ent} {e:Ent} (h:∀ x∈l,x.k≠e.k) (j:Nat):qAi (l++[e]) j=if j=e.k then some e else qAi l j:=by
 unfold qAi
 rw [List.find?_append]
 by_cases hj:j=e.k
 ·subst hj
  rw [zM1 rfl,List.find?_eq_none.2 (fun x hx=>by simpa using h x hx)]
  simp
 ·rw [zL1 hj]
  cases hf:l.find? fun x=>x.k==j with
  | some x=>rfl
  | none=>simp [Ne.symm hj]
theorem qFk (l:List Ent) (k:Nat) (s:List UInt8) (n j:Nat):qAi (qAM l k s n) j=(qAi l j).map fun e=>if e.k=k then { e with f:=qAp e.f s n } else e:=by
 unfold qAi qAM
 induction l with
 | nil=>rfl
 | cons x r ih =>
  have hk:(if x.k=k then { x with f:=qAp x.f s n } else x).k=x.k:=by split<;>rfl
  rw [zV,List.find?_cons,List.find?_cons,hk]
  cases hx:x.k==j
  ·exact ih
  ·rfl
structure DirsBut (w:World) (c:Nat→Col) (b:Nat) (d:Stl.Dirs) (bt bm:Nat) (nd:Nat→List Value) (fm:Nat→Nat):Prop where
 own:w.heap[b]?=some (.cells #[.pointer (some ⟨bt,0,none⟩),.map (some bm),.int .i64 d.next] 89 (0,0))
 col:c b=.dirs
 mcol:c bm=.dirsMap
 map:qDf w bm d.l.length (qA3 d.l nd fm)
 node:∀ k e,qAi d.l k=some e→RoNode w c e.n (nd k)
 fcol:∀ k e,qAi d.l k=some e→c (fm k)=.files k
 files:∀ k e,qAi d.l k=some e→qBj w (fm k) e.f.length (fileAt e.f)
section
variable {w w2 w3:World} {c c2:Nat→Col} {S:Col→Bool} {b:Nat} {d:Stl.Dirs} {bt bm:Nat} {nd:Nat→List Value} {fm:Nat→Nat}
theorem DirsIn.but (h:DirsIn w c b d bt bm nd fm):DirsBut w c b d bt bm nd fm:=⟨h.own,h.col,h.mcol,h.map,h.node,h.fcol,h.files⟩
theorem DirsBut.full (h:DirsBut w c b d bt bm nd fm) {T:Tab} (ht:TabAt w c bt T):DirsIn w c b { d with t:=T } bt bm nd fm:=⟨h.own,h.col,ht,h.mcol,h.map,h.node,h.fcol,h.files⟩
theorem DirsBut.ext (h:DirsBut w c b d bt bm nd fm) (e:Ext w w2 c c2 S) (h0:S .ro=false) (h1:S .dirs=false) (h2:S .dirsMap=false) (h3:∀ j,S (.files j)=false):DirsBut w2 c2 b d bt bm nd fm :=
 ⟨(e.kept h.own h.col h1).1,(e.kept h.own h.col h1).2,e.col h.map.lt h.mcol h2,h.map.ext e h.mcol h2,
  fun j x hx=>(h.node j x hx).ext e h0,fun j x hx=>e.col (h.files j x hx).lt (h.fcol j x hx) (h3 j),fun j x hx=>(h.files j x hx).ext e (h.fcol j x hx) (h3 j)⟩
theorem DirsBut.put (h:DirsBut w c b d bt bm nd fm) (hn:∀ x∈d.l,x.k<d.next) {n:Nd} {vs:List Value} {f:List (List UInt8×Nat)} {bf:Nat} (hr:RoNode w c n vs) (hfc:c bf=.files d.next) (hf:qBj w bf f.length (fileAt f))
  (hm:qDf w2 bm (d.l.length+1) (fun j=>if j=d.next then some (.agg (vs++[Value.map (some bf)]).toArray) else qA3 d.l nd fm j)) (e:Ext w w2 c c (S1 .dirsMap)) :
  DirsBut (w2.setCell ⟨b,2,none⟩ (.int .i64 ((d.next+1:Nat):Int))) c b { d with l:=d.l++[⟨d.next,n,f⟩],next:=d.next+1 } bt bm (fun j=>if j=d.next then vs else nd j) (fun j=>if j=d.next then bf else fm j) ∧
   Ext w2 (w2.setCell ⟨b,2,none⟩ (.int .i64 ((d.next+1:Nat):Int))) c c (S1 .dirs):=by
 have hb2:=e.kept h.own h.col rfl
 obtain ⟨s1,s2⟩:=Ext.cell hb2.1 hb2.2 2 (.int .i64 ((d.next+1:Nat):Int))
 have hne:∀ x∈d.l,x.k≠(⟨d.next,n,f⟩:Ent).k:=fun x hx=>Nat.ne_of_lt (hn x hx)
 have hs:=qLd hne
 have hE:∀ j x,qAi (d.l++[⟨d.next,n,f⟩]) j=some x→(j=d.next∧x=⟨d.next,n,f⟩)∨(j≠d.next∧qAi d.l j=some x):=by
  intro j x hx
  rw [hs] at hx
  by_cases hj:j=d.next
  ·rw [zM1 hj] at hx;exact .inl ⟨hj,(Option.some.inj hx).symm⟩
  ·rw [zL1 hj] at hx;exact .inr ⟨hj,hx⟩
 have e3:Ext w (w2.setCell ⟨b,2,none⟩ (.int .i64 ((d.next+1:Nat):Int))) c c (fun y=>decide (y=.dirs)||decide (y=.dirsMap)):=(e.mono (S':=fun y=>decide (y=.dirs)||decide (y=.dirsMap)) (qAE rfl)).then s2 (qAE rfl)
 refine ⟨⟨by simpa using s1,h.col,h.mcol,?_,fun j x hx=>?_,fun j x hx=>?_,fun j x hx=>?_⟩,s2⟩
 ·have:=(hm.ext s2 h.mcol rfl).congr (g:=qA3 (d.l++[⟨d.next,n,f⟩]) (fun j=>if j=d.next then vs else nd j) (fun j=>if j=d.next then bf else fm j)) (fun j=>by
   unfold qA3
   rw [hs]
   by_cases hj:j=d.next<;>simp [hj])
  simpa using this
 ·rcases hE j x hx with ⟨rfl,rfl⟩ | ⟨hj,hx⟩
  ·simp only [if_true]
   exact hr.ext e3 rfl
  ·simp only [zL1 hj]
   exact (h.node j x hx).ext e3 rfl
 ·rcases hE j x hx with ⟨rfl,rfl⟩ | ⟨hj,hx⟩
  ·simp only [if_true]
   exact hfc
  ·simp only [zL1 hj]
   exact h.fcol j x hx
 ·rcases hE j x hx with ⟨rfl,rfl⟩ | ⟨hj,hx⟩
  ·simp only [if_true]
   exact hf.ext e3 hfc (by simp)
  ·simp only [zL1 hj]
   exact (h.files j x hx).ext e3 (h.fcol j x hx) (by simp)
theorem DirsBut.share (h:DirsBut w c b d bt bm nd fm) {k:Nat} {en:Ent} (he:qAi d.l k=some en) {s:List UInt8} (n:Nat) (hs:(qAI en.f s).isSome=true)
  (hm:qBj w2 (fm k) (en.f.length+1) (fun x=>if x=s then some (.int .i64 (n:Int)) else fileAt en.f x)) (e:Ext w w2 c c (S1 (.files k))) :
  DirsBut w2 c b { d with l:=qAM d.l k s n } bt bm nd fm:=by
 have hek:en.k=k:=(qA5 he).2
 have hE:∀ j x,qAi (qAM d.l k s n) j=some x→∃ y,qAi d.l j=some y∧x.n=y.n∧((j=k∧y=en∧x.f=qAp en.f s n)∨(j≠k∧x=y)):=by
  intro j x hx
  rw [qFk] at hx
  cases hy:qAi d.l j with
  | none=>rw [hy] at hx;cases hx
  | some y =>
   rw [hy] at hx
   simp only [zA1,zB1] at hx
   have hyk:=(qA5 hy).2
   by_cases hj:j=k
   ·subst hj
    rw [he] at hy
    cases hy
    rw [zM1 hek] at hx
    subst hx
    exact ⟨en,rfl,rfl,.inl ⟨rfl,rfl,rfl⟩⟩
   ·rw [zL1 (by rw [hyk];exact hj)] at hx
    exact ⟨y,rfl,by rw [hx],.inr ⟨hj,hx.symm⟩⟩
 have hlen:(qAM d.l k s n).length=d.l.length:=by simp [qAM]
 refine ⟨(e.kept h.own h.col (qBm (by intro e;cases e))).1,h.col,h.mcol,?_,fun j x hx=>?_,fun j x hx=>?_,fun j x hx=>?_⟩
 ·rw [show ({ d with l:=qAM d.l k s n }:Stl.Dirs).l.length=d.l.length from hlen]
  refine (h.map.ext e h.mcol (qBm (by intro e;cases e))).congr fun j=>?_
  unfold qA3
  show ((qAi (qAM d.l k s n) j).map _)=_
  rw [qFk]
  cases qAi d.l j<;>rfl
 ·obtain ⟨y,hy,hn,_⟩:=hE j x hx
  rw [hn]
  exact (h.node j y hy).ext e (qBm (by intro e;cases e))
 ·obtain ⟨y,hy,_,_⟩:=hE j x hx
  exact h.fcol j y hy
 ·obtain ⟨y,hy,_,h3⟩:=hE j x hx
  rcases h3 with ⟨rfl,rfl,h4⟩ | ⟨hj,rfl⟩
  ·rw [h4]
   have hl2:(qAp y.f s n).length=y.f.length:=by simp [qAp]
   rw [hl2]
   have:=(hm.congr (g:=fileAt (qAp y.f s n)) (fun x=>by
    unfold fileAt
    rw [qBw]
    by_cases hx:x=s
    ·subst hx
     rw [zM1 rfl,zM1 rfl]
     cases hq:qAI y.f x with
     | none=>rw [hq] at hs;cases hs
     | some m=>rfl
    ·rw [zL1 hx,zL1 hx])).tight okS.keyed (y.f.map (·.1)) (fun x hx=>by
     unfold fileAt at hx
     rw [qBw] at hx
     have h5:(qAI y.f x).isSome=true:=by
      by_cases h6:x=s
      ·rw [h6];exact hs
      ·rw [zL1 h6] at hx;simpa using hx
     unfold qAI at h5
     cases hf:y.f.find? fun p=>p.1==x with
     | none=>rw [hf] at h5;cases h5
     | some q =>
      have h7:=zg hf
      have h8:=List.find?_some hf
      exact ze.2 ⟨q,h7,by simpa using h8⟩)
   simpa using this
  ·exact (h.files j x hy).ext e (h.fcol j x hy) (qBm (by intro e;injection e with e;exact hj e))
end
def qBa (l:List It):List (List UInt8):=(l.filter fun x=>x.n.kind==kFile).map fun x=>told x.path
theorem qEy (a b:List It):qBa (a++b)=qBa a++qBa b:=by simp [qBa]
theorem qKg (x:It) (h:x.n.kind=kFile):qBa [x]=[told x.path]:=by simp [qBa,h]
theorem qIs (x:It) (h:x.n.kind≠kFile):qBa [x]=[]:=by simp [qBa,h]
theorem qHQ (l:List It):(qBa l).length≤l.length:=by simp [qBa,zS]
structure PSt (w0 W:World) (b5:Nat) (pre:List It):Prop where
 out:∃ A c,W.heap[b5]?=some (.cells #[.slice A (qBa pre).length c] 22 (0,0))∧W.ownsRow w0.heap.size 9 1 (.slice A (qBa pre).length c) (qBa pre).length ((qBa pre).map encStr)
 old:w0.heap.size≤b5
 below:Below w0.heap.size w0 W
theorem PSt.later {w0 W W':World} {b5:Nat} {pre:List It} (h:PSt w0 W b5 pre) (hb:Below W.heap.size W W'):PSt w0 W' b5 pre:=by
 obtain ⟨A,c,h1,h2⟩:=h.out
 exact ⟨⟨A,c,(hb.block _ (zN1 h1)).trans h1,h2.kept (Below.toGrown hb none) (by cases Value.ownBlock (Value.slice A (qBa pre).length c)<;>simp)⟩,h.old,h.below.trans (hb.mono h.below.size)⟩
theorem qMc {w0 W w2 w3:World} {b5:Nat} {pre:List It} {x:It} {Ao A3:Option Addr} {co c3:Nat} {acc:List (List UInt8)}
  (HS:PSt w0 W b5 pre) (HB2:Below W.heap.size W w2) (HO1:w2.heap[b5]?=some (.cells #[.slice Ao acc.length co] 22 (0,0)))
  (HO3:w2.ownsRow w0.heap.size 9 1 (.slice Ao acc.length co) acc.length (acc.map encStr)) (HO4:w3.ownsRow w0.heap.size 9 1 (.slice A3 (acc.length+1) c3) (acc.length+1) (acc.map encStr++[encStr (told x.path)]))
  (HG3:w2.grownBy w3 (Value.slice Ao acc.length co).ownBlock) (HR:qBa (pre++[x])=acc++[told x.path]) :
  PSt w0 (w3.setCell ⟨b5,0,none⟩ (.slice A3 (acc.length+1) c3)) b5 (pre++[x])∧NKeep W (w3.setCell ⟨b5,0,none⟩ (.slice A3 (acc.length+1) c3)):=by
 have s3:=(HG3.block _ (zN1 HO1) (qAT HO3 HO1 (by decide))).trans HO1
 have hz:=HS.below.size
 have hb2:Below w0.heap.size w0 w2:=HS.below.trans (HB2.mono hz)
 have hb3:Below w0.heap.size w0 w3:=hb2.grown HG3 hb2.size (fun k hk=>(HO3.lt k hk).1)
 refine ⟨⟨⟨A3,c3,?_,?_⟩,HS.old,hb3.setCell HS.old _⟩,?_⟩
 ·rw [one_setCell s3,HR]
  simp
 ·rw [HR,zP,zU]
  exact zO1 HO4 (qAT HO4 s3 (by decide)).symm _
 ·intro k cs T fr hk h1 h2
  have k2:=(HB2.block _ (zN1 hk)).trans hk
  have k3:=(HG3.block _ (zN1 k2) (qAT HO3 k2 h1)).trans k2
  rw [zA _ _ _ _ (by
   rintro rfl
   rw [s3] at k3
   injection k3 with k3
   injection k3 with _ k3
   exact h2.1 k3.symm)]
  exact k3
theorem qLi {w0 W:World} {b5:Nat} {pre:List It} (x:It) (vs:List Value) (h:PSt w0 W b5 pre) (W0:World) (hn:NodeAt W0 x.n vs) (hp:(qBa pre).length≤1000000) :
  Calls Tryz.prog 196 (#[.agg vs.toArray,.string ⟨(told x.path).toArray⟩]++#[.pointer (some ⟨b5,0,none⟩)]) W (qH2 (fun l W'=>PSt w0 W' b5 l) (pre++[x]) W):=by
 obtain ⟨p',deep,n⟩:=x
 obtain ⟨k,d,e,ks⟩:=n
 obtain ⟨A,c,rfl,_,_⟩:=hn.open
 have HS:=Hh h
 have hb1:Below W.heap.size W (W.alloc (.cells #[.string ⟨k.toArray⟩,.string ⟨d.toArray⟩,.bool e,.slice A ks.length c] 114)):=(zB _ W).alloc (zq _) _
 have HS1:=Hh (h.later hb1)
 have HB:=Hh hb1
 clear h hn hb1
 simp only
 generalize hpt:told p'=pt
 rcases (show (k=kFile∧(k==[102,105,108,101])=true)∨(k≠kFile∧(k==[102,105,108,101])=false) from by
   by_cases h:k=kFile
   ·exact .inl ⟨h,by subst h;decide⟩
   ·exact .inr ⟨h,by simpa [kFile] using h⟩) with ⟨hk,hk'⟩ | ⟨hk,hk'⟩
 ·have HR:=Hh (show qBa (pre++[⟨p',deep,.mk k d e ks⟩])=qBa pre++[told (⟨p',deep,.mk k d e ks⟩:It).path] by rw [qEy,qKg ⟨p',deep,.mk k d e ks⟩ hk])
  obtain ⟨Ao,co,ho1,ho2⟩:=HS1.out.out
  generalize qBa pre=acc at HR ho1 ho2 hp
  have HO1:=Hh ho1
  have HO2:=Hh ho2
  have HP:=Hh hpt
  have c5:=cell_of_one ho1
  have f5:=free_of_one ho1
  obtain ⟨i0,hi,hz0,hz1,hz2⟩:=qGB
  have Hi:=Hh hi
  have Hz0:=Hh hz0
  have Hz1:=Hh hz1
  have Hz2:=Hh hz2
  clear hk ho1 ho2 hi hz0 hz1 hz2 hpt
  go_enter Tryz.func196,Tryz.ntmps196
  go_upto_region 2 with fail
  generalize W.alloc (.cells #[.string ⟨k.toArray⟩,.string ⟨d.toArray⟩,.bool e,.slice A ks.length c] 114)=W1 at *
  have hb2:Below W1.heap.size W1 (W1.alloc (.cells #[.string ⟨pt.toArray⟩] 9)):=(zB _ W1).alloc (zq _) _
  have HB2:=Hh hb2
  have HO3:=Hh (HO2.out.kept (Below.toGrown hb2 none) (by cases Value.ownBlock (Value.slice Ao acc.length co)<;>simp))
  have HOX:=Hh ((hb2.block _ (zN1 HO1.out)).trans HO1.out)
  clear hb2
  go_wp2_with (at_builtin;refine Stl.wpList_app _ rfl _ _ 22 rfl w0.heap.size 9 i0 (.string ByteArray.empty) 1 16 Tryz.underlying22 Hi.out Hz0.out Hz1.out Hz2.out rfl (by decide) (.slice Ao acc.length co) acc.length (acc.map encStr) rfl HO3.out (some ⟨W1.heap.size,0,none⟩) 1 1 [.string ⟨pt.toArray⟩] rfl rfl (fun h=>by cases h) (qAH _ _ _) (by simp [Value.oneCell']) (by unfold maxLen;omega) (by omega) (zr HS1.out.below.size HB2.out.size) ?_;intro A3 c3 w3 hown3 hgr3 hat;have HO4:=Hh hown3;have HG3:=Hh hgr3;have HS3:=Hh ((hgr3.block _ (zN1 HOX.out) (qAT HO3.out HOX.out (by decide))).trans HOX.out);have c5':=cell_of_one HS3.out;have f5':=free_of_one HS3.out;clear hown3 hgr3 hat)
  go_end0
  refine ⟨rfl,?_⟩
  have HR2:=HR.out
  have:=qMc (x:=⟨p',deep,.mk k d e ks⟩) HS1.out HB2.out HOX.out HO3.out (by simp only [HP.out];exact HO4.out) HG3.out (by simpa only [HP.out] using HR2)
  exact ⟨this.1,(NKeep.of_below HB.out).trans this.2⟩
 ·have HR:=Hh (show qBa (pre++[⟨p',deep,.mk k d e ks⟩])=qBa pre by rw [qEy,qIs ⟨p',deep,.mk k d e ks⟩ hk,List.append_nil])
  clear hk
  go_enter Tryz.func196,Tryz.ntmps196
  go_wp2
  go_end0
  refine ⟨rfl,?_,NKeep.of_below HB.out⟩
  obtain ⟨q2,q3,q4⟩:=HS1.out
  exact ⟨by rw [HR.out];exact q2,q3,q4⟩
theorem qHm:∀ args w,(callFunc 196 args).run Tryz.prog w=.ok (.enter 196 args) w:=enters_of Tryz.func196 (by kernel_rfl) rfl
theorem qLS (n:Nd):qAv n=qBa (items n):=rfl
theorem qIJ (p:Nat→Addr) (n:Nd) (vs:List Value) (w:World) (hE:Errs w p) (hn:NodeAt w n vs) :
  Calls Tryz.prog 132 #[.agg vs.toArray] w (qHL (qAv n) w):=by
 have HR:=Hh (qLS n)
 generalize qAv n=res at HR
 have HE:=Hh hE
 have HN:=Hh hn
 obtain ⟨k,d,e,ks⟩:=n
 obtain ⟨A,c,rfl,_,_⟩:=hn.open
 clear hE hn
 have hbl:Below w.heap.size w ((w.alloc (.cells #[.string ⟨k.toArray⟩,.string ⟨d.toArray⟩,.bool e,.slice A ks.length c] 114)).alloc (.cells #[.slice none 0 0] 22)):=((zB _ w).alloc (zq _) _).alloc (by simp) _
 have k2:((w.alloc (.cells #[.string ⟨k.toArray⟩,.string ⟨d.toArray⟩,.bool e,.slice A ks.length c] 114)).alloc (.cells #[.slice none 0 0] 22)).heap[w.heap.size+1]?=some (.cells #[.slice none 0 0] 22 (0,0)):=by
  have:=zK1 (w.alloc (.cells #[.string ⟨k.toArray⟩,.string ⟨d.toArray⟩,.bool e,.slice A ks.length c] 114)) (.cells #[.slice none 0 0] 22)
  simpa using this
 have h0:PSt w ((w.alloc (.cells #[.string ⟨k.toArray⟩,.string ⟨d.toArray⟩,.bool e,.slice A ks.length c] 114)).alloc (.cells #[.slice none 0 0] 22)) (w.heap.size+1) [] :=
  ⟨⟨none,0,k2,zF1 _ _ _ _⟩,by omega,hbl⟩
 have h:=qHH p w HE.out (.mk k d e ks) _ HN.out 196 #[.pointer (some ⟨w.heap.size+1,0,none⟩)] qHm
  (fun l W=>PSt w W (w.heap.size+1) l) (fun pre W W' h hb=>h.later hb) (fun pre W h=>h.below)
  (fun ht pre x W vs hI hnx hr=>by
   obtain ⟨i1,i2⟩:=items_well ht
   obtain ⟨rest,hr⟩:=hr
   have hlen:pre.length≤200:=by
    have:=congrArg List.length hr
    simp at this
    omega
   have:=qHQ pre
   exact qLi x vs hI w hnx (by omega)) _ h0
 have HH:=Hh h
 clear h h0 k2 hbl
 go_enter Tryz.func132,Tryz.ntmps132
 go_upto_region 3 with (go_at_call 126;refine HH.out.mono ?_;rintro ev w2 ⟨rfl,hI,_⟩;obtain ⟨Ao,co,ho1,ho2⟩:=hI.out;have HB2:=Hh hI.below;have HO2:=Hh ho2;have c5:=cell_of_one ho1;clear ho1 ho2 hI)
 go_wp2
 go_ret
 rw [← HR.out] at HO2
 exact ⟨Ao,co,by rw [← HR.out];rfl,HO2.out,HB2.out⟩
end Go.Proofs.YtceklhjomhjipaaGreatDoor
namespace Stl
open Go
theorem qEL (c:UInt8):∀ l:List UInt8,(cutAt c l=none∧Lib.index l [c]=-1∧c∉l)∨∃ a b,cutAt c l=some (a,b)∧Lib.index l [c]=a.length∧l=a++c::b
 | []=>.inl ⟨rfl,rfl,by simp⟩
 | x::r=>by
  by_cases h:x=c
  ·subst h
   refine .inr ⟨[],r,by simp [cutAt],?_,rfl⟩
   rw [Lib.index_one]
   simp [Lib.indexByte]
  ·have hx:¬ (x==c)=true:=by simpa using h
   rcases qEL c r with ⟨h1,h2,h3⟩ | ⟨a,b,h1,h2,h3⟩
   ·refine .inl ⟨by simp [cutAt,h,h1],?_,by simp [h3];exact fun e=>h e.symm⟩
    rw [Lib.index_one] at h2 ⊢
    unfold Lib.indexByte
    rw [zL1 hx,zM1 (by rw [h2];rfl)]
   ·refine .inr ⟨x::a,b,by simp [cutAt,h,h1],?_,by rw [h3];rfl⟩
    rw [Lib.index_one] at h2 ⊢
    unfold Lib.indexByte
    rw [zL1 hx,zL1 (by rw [h2];simp),h2]
    simp
theorem qPQ (c:UInt8) (l:List UInt8):Lib.cut l [c]=match cutAt c l with | none=>(l,[],false) | some p=>(p.1,p.2,true):=by
 unfold Lib.cut
 rcases qEL c l with ⟨h1,h2,_⟩ | ⟨a,b,h1,h2,h3⟩
 ·rw [h1,h2];rfl
 ·rw [h1,h2,zM1 (by omega)]
  simp [h3]
theorem qCc (c:UInt8):∀ l:List UInt8,qAk c l=match cutAt c l with | none=>[l] | some p=>p.1::qAk c p.2
 | []=>rfl
 | x::r=>by
  by_cases h:x=c
  ·simp [qAk,cutAt,h]
  ·have ih:=qCc c r
   simp only [qAk,cutAt,zL1 h]
   rw [ih]
   cases cutAt c r<;>rfl
theorem qIP (c:UInt8):∀ (n:Nat) (l:List UInt8),l.length≤n→Lib.splitB ⟨#[c]⟩ 0 (Lib.countB ⟨l.toArray⟩ ⟨#[c]⟩) ⟨l.toArray⟩=(qAk c l).map (fun x=>⟨x.toArray⟩)∧Lib.countB ⟨l.toArray⟩ ⟨#[c]⟩+1=(qAk c l).length
 | n,l,hn=>by
  rcases qEL c l with ⟨h1,h2,_⟩ | ⟨a,b,h1,h2,h3⟩
  ·have e:Lib.indexB ⟨l.toArray⟩ ⟨#[c]⟩=-1:=h2
   rw [qCc,h1,Lib.splitB_miss _ _ _ _ e,Lib.countB_miss _ _ e]
   exact ⟨rfl,rfl⟩
  ·have e:Lib.indexB ⟨l.toArray⟩ ⟨#[c]⟩=a.length:=h2
   have hl:l.length=a.length+1+b.length:=by rw [h3];simp;omega
   have ex:(ByteArray.mk l.toArray).extract (a.length+1) (ByteArray.mk l.toArray).size=⟨b.toArray⟩:=by
    apply ByteArray.ext
    apply Array.toList_inj.1
    rw [Lib.extract_to_end]
    simp [h3]
   have ex0:(ByteArray.mk l.toArray).extract 0 (a.length+0)=⟨a.toArray⟩:=by
    apply ByteArray.ext
    apply Array.toList_inj.1
    rw [Lib.extract_data]
    simp [h3]
   have hc:=Lib.countB_hit ⟨l.toArray⟩ ⟨#[c]⟩ a.length (zq 1) e
   have hs:(ByteArray.mk #[c]).size=1:=rfl
   rw [hs,ex] at hc
   match n,hn with
   | 0,hn=>omega
   | n+1,hn =>
    obtain ⟨i1,i2⟩:=qIP c n b (by omega)
    rw [hc,Nat.add_comm 1,Lib.splitB_hit _ _ _ _ _ e,hs,ex,ex0,i1,qCc c l,h1]
    exact ⟨rfl,by simp;omega⟩
theorem qGz (c:UInt8) (l:List UInt8):∀ x∈qAk c l,x.length≤l.length:=by
 induction l with
 | nil=>simp [qAk]
 | cons a r ih =>
  intro x hx
  simp only [qAk] at hx
  split at hx
  ·rcases zY.1 hx with rfl | hx
   ·simp
   ·have:=ih x hx;simp;omega
  ·cases hs:qAk c r with
   | nil =>
    rw [hs] at hx
    simp at hx
    subst hx
    simp
   | cons y t =>
    rw [hs] at hx ih
    rcases zY.1 hx with rfl | hx
    ·have:=ih y (by simp);simp;omega
    ·have:=ih x (by simp [hx]);simp;omega
theorem qGx (c:UInt8) (l:List UInt8):(qAk c l).length≤l.length+1:=by
 induction l with
 | nil=>simp [qAk]
 | cons a r ih =>
  simp only [qAk]
  split
  ·simp;omega
  ·cases hs:qAk c r with
   | nil=>simp
   | cons y t=>rw [hs] at ih;simp at ih ⊢;omega
end Stl
