/- Texts of this claim, merged: Reader. -/
import Derived.Test.YtceklhjomhjipaaGreatDoorKm37
set_option maxHeartbeats 16000000
set_option maxRecDepth 1000000
set_option linter.all false
namespace Go.Proofs.YtceklhjomhjipaaGreatDoor
open Go.RowKit Go.Sort Go.Shelf Stl
def RC (r:Nat):Nat→Col:=fun b=>if b=r then .tape else .ro
theorem qNZ (r:Nat):RC r r=.tape:=by simp [RC]
theorem qAR {r b:Nat} (h:b≠r):RC r b=.ro:=by simp [RC,h]
def RdAt (w:World) (r:Nat) (s:List UInt8) (n:Nat):Prop:=w.heap[r]?=some (.cells #[.string ⟨s.toArray⟩,.int .i64 n] 210 (0,0))
def RdEnv (w:World) (r:Nat) (p:Nat→Addr):Prop:=∃ W0,Errs W0 p∧LibVars W0∧Below W0.heap.size W0 w∧W0.heap.size≤r
section
variable {w w2:World} {r:Nat} {p:Nat→Addr}
theorem RdEnv.ext (h:RdEnv w r p) (e:Ext w w2 (RC r) (RC r) (S1 .tape)):RdEnv w2 r p:=by
 obtain ⟨W0,h1,h2,h3,h4⟩:=h
 exact ⟨W0,h1,h2,h3.trans (e.below h3.size (fun b hb=>by rw [qAR (by omega)];rfl)),h4⟩
theorem RdEnv.errs (h:RdEnv w r p):Errs w p:=by obtain ⟨W0,h1,_,h3,_⟩:=h;exact h1.later h3
theorem RdEnv.vars (h:RdEnv w r p):LibVars w:=by obtain ⟨W0,_,h2,h3,_⟩:=h;exact h2.later h3
theorem qAK (hb:Below w.heap.size w w2):Ext w w2 (RC r) (RC r) (S1 .tape):=Ext.of_below hb _ _
theorem RdAt.later {s:List UInt8} {n:Nat} (h:RdAt w r s n) (hb:Below w.heap.size w w2):RdAt w2 r s n:=(hb.block r (qAa h)).trans h
theorem RdEnv.below (h:RdEnv w r p) (hb:Below w.heap.size w w2):RdEnv w2 r p:=h.ext (qAK hb)
def NumRes (r:Nat) (s:List UInt8) (n:Nat) (ev:Ending) (w':World):Prop :=
 match qAW s with
 | none=>ev=.returned (.tuple #[.int .i64 0,.bool false])
 | some (k,s1)=>ev=.returned (.tuple #[.int .i64 k,.bool true])∧RdAt w' r s1 n
theorem NumIs.no {n:Int} {ok:Bool} (h:NumIs none n ok):ok=false:=by
 rcases h with h | ⟨m,h,_⟩
 ·exact h.2
 ·cases h
theorem NumIs.yes {k:Nat} {n:Int} {ok:Bool} (h:NumIs (some k) n ok):ok=true∧n=(k:Int):=by
 rcases h with h | ⟨m,h,h2,h3⟩
 ·cases h.1
 ·injection h with h
  subst h
  exact ⟨h2,h3⟩
theorem NumRes.no {s:List UInt8} {n:Nat} {w':World} (h:qAW s=none):NumRes r s n (.returned (.tuple #[.int .i64 0,.bool false])) w':=by
 unfold NumRes
 rw [h]
theorem NumRes.yes {s s1:List UInt8} {n k:Nat} {w':World} (h:qAW s=some (k,s1)) (hr:RdAt w' r s1 n):NumRes r s n (.returned (.tuple #[.int .i64 k,.bool true])) w':=by
 unfold NumRes
 rw [h]
 exact ⟨rfl,hr⟩
theorem qES {s:List UInt8} {n:Nat} (hr:RdAt w r s n) (hE:RdEnv w r p) (hs:s.length≤20000) :
  Calls Tryz.prog 231 #[.pointer (some ⟨r,0,none⟩)] w fun ev w'=>Ext w w' (RC r) (RC r) (S1 .tape)∧NumRes r s n ev w':=by
 have c0:=ce0 hr
 have HR:=Hh hr
 have HE:=Hh hE
 have hl:=qAa hr
 obtain ⟨m,hm,hm1,hx⟩:∃ m:Nat,min (s.length:Int) 7=(m:Int)∧(m:Int)≤(s.length:Int)∧(⟨s.toArray⟩:ByteArray).extract 0 m=⟨(s.take 7).toArray⟩:=by
  refine ⟨min s.length 7,by omega,by omega,?_⟩
  rw [qBb]
  congr 2
  rcases Nat.le_total s.length 7 with h | h
  ·rw [Nat.min_eq_left h,zm,zn h]
  ·rw [Nat.min_eq_right h]
 have hm0:(0:Int)≤(m:Int):=by omega
 clear hr hE
 go_enter Tryz.func231,Tryz.ntmps231
 go_upto_region 1 with fail
 cases hc:cutAt 58 (s.take 7) with
 | none =>
  have HN:=Hh (show qAW s=none by unfold qAW;rw [hc])
  have HCUT:=Hh (qE8 58 hc (by simp;omega) w.drew HE.out.vars.max)
  clear hc
  go_region_held3 (fun w'=>w'.cell? ⟨r,0,none⟩=some (.string ⟨s.toArray⟩))
   (first
    | exact c0
    | exact c0'
    | go_keep)
   (first
    | (go_at_call 37;refine HCUT.out.mono ?_;rintro ev w2 ⟨rfl,hb2⟩;have c0':w2.cell? ⟨r,0,none⟩=some (.string ⟨s.toArray⟩):=(hb2.cell (p:=⟨r,0,none⟩) hl).trans c0)
    | fail)
  have HB2:=Hh ((zB w.heap.size w).drew.trans (hb2.mono (zq _)))
  clear c0 c0' hb2 hm hm0 hm1 hx
  go_wp2_with (go_at_call 82;refine (qBE (s.take 7) (by simp;omega) w2 (HE.out.below HB2.out).vars).mono ?_;rintro ev w3 ⟨hb3,n3,ok3,rfl,hni⟩;have HB3:=Hh (HB2.out.trans (hb3.mono HB2.out.size));clear hb3 hni)
  all_goals
   go_ret2
   exact ⟨qAK HB3.out,NumRes.no HN.out⟩
 | some q =>
  obtain ⟨d,t⟩:=q
  have HCUT:=Hh (qDh 58 hc (by simp;omega) w.drew HE.out.vars.max)
  have hdl:d.length≤20000:=by
   have h1:=qBF hc
   have h2:=congrArg List.length h1
   simp at h2
   omega
  cases hn:numberOf d 6 with
  | none =>
   have HN:=Hh (show qAW s=none by unfold qAW;rw [hc];simp only;rw [hn];rfl)
   have HNO:=Hh hn
   clear hc hn
   go_region_held3 (fun w'=>w'.cell? ⟨r,0,none⟩=some (.string ⟨s.toArray⟩))
    (first
     | exact c0
     | exact c0'
     | go_keep)
    (first
     | (go_at_call 37;refine HCUT.out.mono ?_;rintro ev w2 ⟨rfl,hb2⟩;have c0':w2.cell? ⟨r,0,none⟩=some (.string ⟨s.toArray⟩):=(hb2.cell (p:=⟨r,0,none⟩) hl).trans c0)
     | fail)
   have HB2:=Hh ((zB w.heap.size w).drew.trans (hb2.mono (zq _)))
   clear c0 c0' hb2 hm hm0 hm1 hx
   go_wp2_with (go_at_call 82;refine (qBE d (by omega) w2 (HE.out.below HB2.out).vars).mono ?_;rw [HNO.out];rintro ev w3 ⟨hb3,n3,ok3,rfl,hni⟩;have HB3:=Hh (HB2.out.trans (hb3.mono HB2.out.size));obtain rfl:ok3=false:=hni.no;clear hb3 hni)
   go_ret2
   exact ⟨qAK HB3.out,NumRes.no HN.out⟩
  | some k =>
   have hh:qAW s=some (k,s.drop (d.length+1)):=by unfold qAW;rw [hc];simp only;rw [hn];rfl
   obtain ⟨d',t',g1,g2,g3,g4,g5,g6⟩:=qBK hh
   rw [hc] at g1
   injection g1 with g1
   injection g1 with g1 g1'
   subst g1
   have HN:=Hh hh
   have HNO:=Hh hn
   have HG4:=Hh g4
   clear hc hn hh g1' g2 g3 g5 g6 g4
   go_region_held3 (fun w'=>w'.cell? ⟨r,0,none⟩=some (.string ⟨s.toArray⟩))
    (first
     | exact c0
     | exact c0'
     | go_keep)
    (first
     | (go_at_call 37;refine HCUT.out.mono ?_;rintro ev w2 ⟨rfl,hb2⟩;have c0':w2.cell? ⟨r,0,none⟩=some (.string ⟨s.toArray⟩):=(hb2.cell (p:=⟨r,0,none⟩) hl).trans c0)
     | fail)
   have HB2:=Hh ((zB w.heap.size w).drew.trans (hb2.mono (zq _)))
   clear c0 c0' hb2 hm hm0 hm1 hx
   have hx2:=extract_drop s (d.length+1)
   have hd2:(d.length:Int)+1≤(s.length:Int):=by have:=HG4.out;omega
   go_upto_region 5 with (go_at_call 82;refine (qBE d (by omega) w2 (HE.out.below HB2.out).vars).mono ?_;rw [HNO.out];rintro ev w3 ⟨hb3,n3,ok3,rfl,hni⟩;have HB3:=Hh (HB2.out.trans (hb3.mono HB2.out.size));obtain ⟨rfl,rfl⟩:ok3=true∧n3=(k:Int):=hni.yes;clear hb3 hni)
   have HR3:=Hh (HR.out.later HB3.out)
   have c0:=ce0 HR3.out
   have f0:w3.frozen? ⟨r,0,none⟩=false:=qAb HR3.out 0
   go_wp2
   go_ret2
   exact ⟨(qAK HB3.out).setCell (fun _=>by rw [qNZ];rfl) _,NumRes.yes HN.out (qAd HR3.out 0 _)⟩
theorem NumRes.isNo {s:List UInt8} {n:Nat} {ev:Ending} {w':World} (h:NumRes r s n ev w') (hs:qAW s=none):ev=.returned (.tuple #[.int .i64 0,.bool false]):=by
 unfold NumRes at h
 rw [hs] at h
 exact h
theorem NumRes.isYes {s s1:List UInt8} {n k:Nat} {ev:Ending} {w':World} (h:NumRes r s n ev w') (hs:qAW s=some (k,s1)):ev=.returned (.tuple #[.int .i64 k,.bool true])∧RdAt w' r s1 n:=by
 unfold NumRes at h
 rw [hs] at h
 exact h
def CountRes (r:Nat) (s:List UInt8) (n:Nat) (ev:Ending) (w':World):Prop :=
 match qAl s with
 | none=>ev=.returned (.tuple #[.string ⟨#[]⟩,.bool false])
 | some (d,s1)=>ev=.returned (.tuple #[.string ⟨d.toArray⟩,.bool true])∧RdAt w' r s1 n
theorem CountRes.no {s:List UInt8} {n:Nat} {w':World} (h:qAl s=none):CountRes r s n (.returned (.tuple #[.string ⟨#[]⟩,.bool false])) w':=by
 unfold CountRes
 rw [h]
theorem CountRes.yes {s d s1:List UInt8} {n:Nat} {w':World} (h:qAl s=some (d,s1)) (hr:RdAt w' r s1 n):CountRes r s n (.returned (.tuple #[.string ⟨d.toArray⟩,.bool true])) w':=by
 unfold CountRes
 rw [h]
 exact ⟨rfl,hr⟩
theorem CountRes.isNo {s:List UInt8} {n:Nat} {ev:Ending} {w':World} (h:CountRes r s n ev w') (hs:qAl s=none):ev=.returned (.tuple #[.string ⟨#[]⟩,.bool false]):=by
 unfold CountRes at h
 rw [hs] at h
 exact h
theorem CountRes.isYes {s d s1:List UInt8} {n:Nat} {ev:Ending} {w':World} (h:CountRes r s n ev w') (hs:qAl s=some (d,s1)):ev=.returned (.tuple #[.string ⟨d.toArray⟩,.bool true])∧RdAt w' r s1 n:=by
 unfold CountRes at h
 rw [hs] at h
 exact h
theorem qA7 {s:List UInt8} {n:Nat} (hr:RdAt w r s n) (hE:RdEnv w r p) (hs:s.length≤20000) :
  Calls Tryz.prog 186 #[.pointer (some ⟨r,0,none⟩)] w fun ev w'=>Ext w w' (RC r) (RC r) (S1 .tape)∧CountRes r s n ev w':=by
 have HNA:=Hh (qES hr hE hs)
 clear hr hE
 cases hh:qAW s with
 | none =>
  have HC:=Hh (show qAl s=none by unfold qAl;rw [hh])
  have HH:=Hh hh
  clear hh
  go_enter Tryz.func186,Tryz.ntmps186
  go_wp2_with (go_at_call 231;refine HNA.out.mono ?_;rintro ev w2 ⟨he2,hn2⟩;obtain rfl:=hn2.isNo HH.out;have HE2:=Hh he2;clear he2 hn2)
  go_ret2
  exact ⟨HE2.out,CountRes.no HC.out⟩
 | some q =>
  obtain ⟨k,s1⟩:=q
  have HH:=Hh hh
  obtain ⟨d',t',_,_,g3,g4,_,_⟩:=qBK hh
  have hs1:s1.length≤20000:=by rw [g3,List.length_drop];omega
  by_cases hk:s1.length<k
  ·have HC:=Hh (show qAl s=none by unfold qAl;rw [hh];simp only;rw [zM1 hk])
   have i1:(s1.length:Int)<(k:Int):=by omega
   clear hh g3 g4 hk
   go_enter Tryz.func186,Tryz.ntmps186
   go_wp2_with (go_at_call 231;refine HNA.out.mono ?_;rintro ev w2 ⟨he2,hn2⟩;obtain ⟨rfl,hr2⟩:=hn2.isYes HH.out;have c0:w2.cell? ⟨r,0,none⟩=some (.string ⟨s1.toArray⟩):=zJ1 w2 r 0 _ _ _ hr2;have HE2:=Hh he2;clear he2 hn2 hr2)
   go_ret2
   exact ⟨HE2.out,CountRes.no HC.out⟩
  ·have HC:=Hh (show qAl s=some (s1.take k,s1.drop k) by unfold qAl;rw [hh];simp only;rw [zL1 hk])
   have i1:(k:Int)≤(s1.length:Int):=by omega
   have i0:(0:Int)≤(k:Int):=by omega
   have hx1:=qBb s1 k
   have hx2:=extract_drop s1 k
   clear hh g3 g4 hk
   go_enter Tryz.func186,Tryz.ntmps186
   go_wp2_with (go_at_call 231;refine HNA.out.mono ?_;rintro ev w2 ⟨he2,hn2⟩;obtain ⟨rfl,hr2⟩:=hn2.isYes HH.out;have c0:w2.cell? ⟨r,0,none⟩=some (.string ⟨s1.toArray⟩):=zJ1 w2 r 0 _ _ _ hr2;have f0:w2.frozen? ⟨r,0,none⟩=false:=qAb hr2 0;have HE2:=Hh he2;have HR2:=Hh hr2;clear he2 hn2 hr2)
   go_ret2
   exact ⟨HE2.out.setCell (fun _=>by rw [qNZ];rfl) _,CountRes.yes HC.out (qAd HR2.out 0 _)⟩
end
end Go.Proofs.YtceklhjomhjipaaGreatDoor
