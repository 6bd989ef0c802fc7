/- Texts of this claim, merged: Firsts, PutMem, Files, CutPure. -/
import Derived.Lib.CountLaws
import Derived.Lib.CutLaws
import Derived.Lib.IndexMore
import Derived.Lib.Split
import Derived.Lib.SplitLaws
import Derived.Test.YthogfjmnnaoldaaGreatDoorGm26
set_option maxHeartbeats 16000000
set_option maxRecDepth 1000000
set_option linter.all false
namespace Go.Proofs.YthogfjmnnaoldaaGreatDoor
open Go.RowKit Go.Sort Go.Shelf Stl
def qBy (T:Tab) (l:List Nat) (x:qPa):Option Value:=(qBz T l x.1).map fun n:Nat=>Value.int .i64 (n:Int)
abbrev qMe (w:World) (b n:Nat) (f:qPa→Option Value):Prop:=Stl.MapAt Tryz.prog 306 qQq w b n f
def qQS (w:World) (T:Tab) (l:List Nat) (e:Ending) (w':World):Prop:=∃ bm n,e=.returned (.map (some bm))∧qMe w' bm n (qBy T l)∧Below w.heap.size w w'
structure FsSt (w wr:World) (T:Tab) (A:Option Addr) (cap:Nat) (all:List Nat) (j:Nat):Prop where
 below:Below w.heap.size w wr
 row:wr.ownsRow (w.heap.size+1) 3 1 (.slice A all.length cap) all.length (all.map qJq)
 map:qMe wr w.heap.size j (qBy T (all.take j))
theorem FsSt.later {w wr w2:World} {T:Tab} {A:Option Addr} {cap:Nat} {all:List Nat} {j:Nat} (h:FsSt w wr T A cap all j) (hb:Below wr.heap.size wr w2):FsSt w w2 T A cap all j :=
 ⟨h.below.trans (hb.mono h.below.size),h.row.kept (Below.toGrown hb none) (by cases Value.ownBlock (Value.slice A all.length cap)<;>simp),h.map.of_block (hb.block _ h.map.lt)⟩
section
variable {w:World} {c:Nat→Col} {b:Nat} {T:Tab} {p:Nat→Addr}
theorem qLM (h:TabAt w c b T) (ht:qBj T) (hD:T.disk.length≤1000000) (hL:T.l.length≤1000000) (hE:Errs w p) :
  Calls Tryz.prog 162 #[.pointer (some ⟨b,0,none⟩)] w (qQS w T T.all):=by
 have hmm:=@run_makeMap Tryz.prog
 have hb1:Below w.heap.size w (w.alloc (.map #[] 0)):=(zC _ w).alloc (zr _) _
 have hz1:(w.alloc (.map #[] 0)).heap.size=w.heap.size+1:=by simp
 have HALL:=Hh (qHG (h.below hb1) hL)
 have HM1:=Hh (MapAt.made w Tryz.prog 306 qQq)
 have hal:∀ n∈T.all,n≤1000000∧∃ x,T.at_ n=some x:=fun n hn=>by
  have h1:=qEP.1 hn
  obtain ⟨x,hx⟩:=zA1.1 h1
  have:=qEi hx
  exact ⟨by omega,x,hx⟩
 have hll:T.all.length≤1000000:=by
  unfold Tab.all
  have:=zU (fun n=>(T.at_ n).isSome) (List.range T.l.length)
  simp at this ⊢
  omega
 generalize T.all=all at HALL hal hll ⊢
 have HT:=Hh h
 have HOK:=Hh ht
 have HDD:=Hh hD
 have HE:=Hh hE
 have HAL:=Hh hal
 have HB1:=Hh hb1
 clear h ht hD hL hE hal hb1
 go_enter Tryz.func162,Tryz.ntmps162
 go_upto_region 2 with fail
 generalize w.alloc (.map #[] 0)=w1 at *
 go_upto_region 3 with (go_at_call 141;refine HALL.out.mono ?_;rintro ev wx ⟨A,cap,rfl,hr,hb⟩;have HRW:=Hh hr;have HBX:=Hh hb;clear hr hb)
 have H0:=Hh (show FsSt w wx T A cap all 0 from ⟨HB1.out.trans (HBX.out.mono HB1.out.size),by have:=HRW.out;rwa [hz1] at this,(HM1.out.of_block (HBX.out.block _ HM1.out.lt)).congr fun x=>rfl⟩)
 clear hz1
 go_loopw [16] (fun a wr=>∃ j:Nat,a=.int .i64 j∧j≤all.length∧Hid (FsSt w wr T A cap all j)) (fun a _=>all.length-(intOf a).toNat)
 case atStart=>exact ⟨0,rfl,zy _,H0⟩
 case round =>
  obtain ⟨j,rfl,hj,HS⟩:=hrel
  by_cases hjl:j<all.length
  ·have i1:(j:Int)<(all.length:Int):=by omega
   have i2:(0:Int)≤(j:Int):=by omega
   obtain ⟨hnb,x,hx⟩:=HAL.out _ (zP hjl)
   have HRD:=Hh (qB4 (HT.out.below HS.out.below) HOK.out HDD.out all[j] hnb (HE.out.later HS.out.below))
   have hap:∃ g,A=some ⟨g,0,none⟩∧g<wr.heap.size:=by
    rcases HS.out.row.2 with ⟨_,h0⟩ | ⟨g,cp,cur,e,_,h6,_⟩
    ·omega
    ·simp only [zD1] at e
     exact ⟨g,e.1,qAa h6⟩
   obtain ⟨g,rfl,hgl⟩:=hap
   have q0:wr.cell? ⟨g,j,none⟩=some (.int .i64 (all[j]:Nat)):=by
    rw [HS.out.row.cellAt j (by omega),zO,zM hjl]
    rfl
   have HTK:=Hh (show all.take (j+1)=all.take j++[all[j]] from zq hjl)
   generalize all[j]=n at HRD q0 HTK hx hnb
   have HX:=Hh hx
   cases hrd:T.read n with
   | error cd =>
    rw [hrd,show qDt p (.error cd)=#[.string ⟨#[]⟩,qAN p cd] from rfl,qAc p (qDe hrd)] at HRD
    have HFN:=Hh (show ∀ y:qPa,qBy T (all.take (j+1)) y=qBy T (all.take j) y from fun y=>by
     unfold qBy
     rw [HTK.out,qC0]
     cases qBz T (all.take j) y.1 with
     | some m=>rfl
     | none=>rw [zM1 (by rw [qPm hrd];simp)])
    clear hrd hx
    go_upto_region 6 with (go_at_call 137;refine HRD.out.mono ?_;rintro ev w3 ⟨rfl,hb3⟩;have HS3:=Hh (HS.out.later hb3);clear hb3)
    clear q0
    have HST:=Hh (qB6 (HT.out.below HS3.out.below) HOK.out n hnb HX.out)
    simp only [qFT,qAB] at HST
    go_upto_region 7 with (go_at_call 135;refine HST.out.mono ?_;rintro ev w4 ⟨A4,cap4,rfl,hr4,hb4⟩;have HS4:=Hh (HS3.out.later hb4);clear hb4 hr4)
    have HS5:=Hh (HS4.out.later (w2:=w4.alloc (.cells #[.int .i64 x.bytes,.int .i64 x.links,.bool x.exec,.slice A4 x.blocks.length cap4,.int .u32 x.sum.toNat] 191)) ((zC _ w4).alloc (zr _) _))
    generalize w4.alloc (.cells #[.int .i64 x.bytes,.int .i64 x.links,.bool x.exec,.slice A4 x.blocks.length cap4,.int .u32 x.sum.toNat] 191)=w5 at *
    go_wp2_with fail
    go_roundw
    case rel=>exact ⟨j+1,by go_num,hjl,Hh ⟨HS5.out.below,HS5.out.row,(HS5.out.map.mono (by omega)).congr HFN.out⟩⟩
    case measure=>simp [intOf];omega
   | ok s =>
    rw [hrd,show qDt p (.ok s)=#[.string ⟨s.toArray⟩,.nilIface] from rfl] at HRD
    have hsl:s.length≤maxLen:=by
     have h1:s.length≤x.bytes:=by
      unfold Tab.read at hrd
      rw [HX.out] at hrd
      simp only at hrd
      split at hrd
      ·cases hrd
       unfold Tab.raw
       exact List.length_take_le _ _
      ·cases hrd
     have h2:=HOK.out.bytes n x HX.out
     unfold maxLen
     omega
    have hky:=qKQ hrd HX.out
    have HKY:=Hh hky
    clear hrd hx hky
    go_upto_region 6 with (go_at_call 137;refine HRD.out.mono ?_;rintro ev w3 ⟨rfl,hb3⟩;have HS3:=Hh (HS.out.later hb3);clear hb3)
    clear q0
    have HST:=Hh (qB6 (HT.out.below HS3.out.below) HOK.out n hnb HX.out)
    simp only [qFT,qAB] at HST
    go_upto_region 7 with (go_at_call 135;refine HST.out.mono ?_;rintro ev w4 ⟨A4,cap4,rfl,hr4,hb4⟩;have HS4:=Hh (HS3.out.later hb4);clear hb4 hr4)
    have HS5:=Hh (HS4.out.later (w2:=w4.alloc (.cells #[.int .i64 x.bytes,.int .i64 x.links,.bool x.exec,.slice A4 x.blocks.length cap4,.int .u32 x.sum.toNat] 191)) ((zC _ w4).alloc (zr _) _))
    have HX5:=Hh (zL1 w4 (.cells #[.int .i64 x.bytes,.int .i64 x.links,.bool x.exec,.slice A4 x.blocks.length cap4,.int .u32 x.sum.toNat] 191))
    generalize w4.alloc (.cells #[.int .i64 x.bytes,.int .i64 x.links,.bool x.exec,.slice A4 x.blocks.length cap4,.int .u32 x.sum.toNat] 191)=w5 at *
    have x2:w5.cell? ⟨w4.heap.size,2,none⟩=some (.bool x.exec):=zK1 w5 _ 2 _ _ _ HX5.out
    obtain ⟨ky,hkye⟩:∃ ky:qPa,ky=⟨(s,x.exec),hsl⟩:=⟨_,rfl⟩
    have hlk:=HS5.out.map.getOk (t:=262) okK Tryz.underlying262 (qHI w5) (i:=ky) trivial
    have HKE:=Hh hkye
    cases hfi:qBz T (all.take j) (s,x.exec) with
    | some m =>
     have hff:qBy T (all.take j) ky=some (.int .i64 (m:Int)):=by unfold qBy;rw [hkye];simp only [hfi];rfl
     rw [hff,hkye] at hlk
     simp only [zz,Option.isSome_some,mkT,mkK] at hlk
     have HFN:=Hh (show ∀ y:qPa,qBy T (all.take (j+1)) y=qBy T (all.take j) y from fun y=>by
      unfold qBy
      rw [HTK.out,qC0]
      cases hy:qBz T (all.take j) y.1 with
      | some m=>rfl
      | none =>
       rw [zM1 (fun e=>by
        rw [HKY.out] at e
        injection e with e
        rw [← e,hfi] at hy
        cases hy)])
     clear hfi hff hkye
     go_wp2_with fail
     go_roundw
     case rel=>exact ⟨j+1,by go_num,hjl,Hh ⟨HS5.out.below,HS5.out.row,(HS5.out.map.mono (by omega)).congr HFN.out⟩⟩
     case measure=>simp [intOf];omega
    | none =>
     have hff:qBy T (all.take j) ky=none:=by unfold qBy;rw [hkye];simp only [hfi];rfl
     rw [hff,hkye] at hlk
     simp only [Option.getD_none,Option.isSome_none,mkT,mkK] at hlk
     have HFN:=Hh (show ∀ y:qPa,qBy T (all.take (j+1)) y=if y=ky then some (.int .i64 (n:Int)) else qBy T (all.take j) y from fun y=>by
      unfold qBy
      rw [HTK.out,qC0]
      by_cases hy:y=ky
      ·rw [zN1 hy,hy,HKE.out]
       simp only [hfi,HKY.out,if_true]
       rfl
      ·rw [zM1 hy]
       cases qBz T (all.take j) y.1 with
       | some m=>rfl
       | none =>
        rw [zM1 (fun e=>by
         rw [HKY.out] at e
         injection e with e
         apply hy
         rw [HKE.out]
         exact Subtype.ext e.symm)])
     clear hfi hff hkye
     go_wp2_with (at_mapUpdate;refine qBd rfl _ _ _ 262 3 rfl okK Tryz.underlying262 rfl HS5.out.map (by unfold maxLen;omega) ky trivial (by rw [HKE.out];rfl) (.int .i64 n) rfl ?_;intro W6 hmap6 hturn6;have HMP6:=Hh hmap6;have HTN6:=Hh hturn6;clear hmap6 hturn6)
     go_roundw
     case rel =>
      refine ⟨j+1,by go_num,hjl,Hh ⟨HS5.out.below.grown HTN6.out.grown HS5.out.below.size (fun k hk=>by injection hk with hk;omega),HS5.out.row.kept HTN6.out.grown ?_,HMP6.out.congr HFN.out⟩⟩
      refine .inr fun e=>?_
      have:=(HS5.out.row.lt _ e).1
      omega
     case measure=>simp [intOf];omega
  ·have i1:¬ (j:Int)<(all.length:Int):=by omega
   obtain rfl:j=all.length:=by omega
   have hm:=HS.out.map
   rw [zn] at hm
   have HM:=Hh hm
   clear hm
   go_wp2
   go_ret
   exact ⟨_,_,rfl,HM.out,HS.out.below⟩
end
end Go.Proofs.YthogfjmnnaoldaaGreatDoor
namespace Go.Proofs.YthogfjmnnaoldaaGreatDoor
open Go.RowKit Go.Maps Go.Sort Go.Shelf Stl
theorem qLA {l:List Ent} {e:Ent} (h:∀ x∈l,x.k≠e.k) (j:Nat):qAh (l++[e]) j=if j=e.k then some e else qAh l j:=by
 unfold qAh
 rw [List.find?_append]
 by_cases hj:j=e.k
 ·subst hj
  rw [zN1 rfl,List.find?_eq_none.2 (fun x hx=>by simpa using h x hx)]
  simp
 ·rw [zM1 hj]
  cases hf:l.find? fun x=>x.k==j with
  | some x=>rfl
  | none=>simp [Ne.symm hj]
theorem qFa (l:List Ent) (k:Nat) (s:List UInt8) (n j:Nat):qAh (qAK l k s n) j=(qAh l j).map fun e=>if e.k=k then { e with f:=qAo e.f s n } else e:=by
 unfold qAh qAK
 induction l with
 | nil=>rfl
 | cons x r ih =>
  have hk:(if x.k=k then { x with f:=qAo x.f s n } else x).k=x.k:=by split<;>rfl
  rw [zX,List.find?_cons,List.find?_cons,hk]
  cases hx:x.k==j
  ·exact ih
  ·rfl
structure DirsBut (w:World) (c:Nat→Col) (b:Nat) (d:Stl.Dirs) (bt bm:Nat) (nd:Nat→List Value) (fm:Nat→Nat):Prop where
 own:w.heap[b]?=some (.cells #[.pointer (some ⟨bt,0,none⟩),.map (some bm),.int .i64 d.next] 97 (0,0))
 col:c b=.dirs
 mcol:c bm=.dirsMap
 map:qCR w bm d.l.length (qA3 d.l nd fm)
 node:∀ k e,qAh d.l k=some e→RoNode w c e.n (nd k)
 fcol:∀ k e,qAh d.l k=some e→c (fm k)=.files k
 files:∀ k e,qAh d.l k=some e→qBh w (fm k) e.f.length (fileAt e.f)
section
variable {w w2 w3:World} {c c2:Nat→Col} {S:Col→Bool} {b:Nat} {d:Stl.Dirs} {bt bm:Nat} {nd:Nat→List Value} {fm:Nat→Nat}
theorem DirsIn.but (h:DirsIn w c b d bt bm nd fm):DirsBut w c b d bt bm nd fm:=⟨h.own,h.col,h.mcol,h.map,h.node,h.fcol,h.files⟩
theorem DirsBut.full (h:DirsBut w c b d bt bm nd fm) {T:Tab} (ht:TabAt w c bt T):DirsIn w c b { d with t:=T } bt bm nd fm:=⟨h.own,h.col,ht,h.mcol,h.map,h.node,h.fcol,h.files⟩
theorem DirsBut.ext (h:DirsBut w c b d bt bm nd fm) (e:Ext w w2 c c2 S) (h0:S .ro=false) (h1:S .dirs=false) (h2:S .dirsMap=false) (h3:∀ j,S (.files j)=false):DirsBut w2 c2 b d bt bm nd fm :=
 ⟨(e.kept h.own h.col h1).1,(e.kept h.own h.col h1).2,e.col h.map.lt h.mcol h2,h.map.ext e h.mcol h2,
  fun j x hx=>(h.node j x hx).ext e h0,fun j x hx=>e.col (h.files j x hx).lt (h.fcol j x hx) (h3 j),fun j x hx=>(h.files j x hx).ext e (h.fcol j x hx) (h3 j)⟩
theorem DirsBut.put (h:DirsBut w c b d bt bm nd fm) (hn:∀ x∈d.l,x.k<d.next) {n:Nd} {vs:List Value} {f:List (List UInt8×Nat)} {bf:Nat} (hr:RoNode w c n vs) (hfc:c bf=.files d.next) (hf:qBh w bf f.length (fileAt f))
  (hm:qCR w2 bm (d.l.length+1) (fun j=>if j=d.next then some (.agg (vs++[Value.map (some bf)]).toArray) else qA3 d.l nd fm j)) (e:Ext w w2 c c (S1 .dirsMap)) :
  DirsBut (w2.setCell ⟨b,2,none⟩ (.int .i64 ((d.next+1:Nat):Int))) c b { d with l:=d.l++[⟨d.next,n,f⟩],next:=d.next+1 } bt bm (fun j=>if j=d.next then vs else nd j) (fun j=>if j=d.next then bf else fm j) ∧
   Ext w2 (w2.setCell ⟨b,2,none⟩ (.int .i64 ((d.next+1:Nat):Int))) c c (S1 .dirs):=by
 have hb2:=e.kept h.own h.col rfl
 obtain ⟨s1,s2⟩:=Ext.cell hb2.1 hb2.2 2 (.int .i64 ((d.next+1:Nat):Int))
 have hne:∀ x∈d.l,x.k≠(⟨d.next,n,f⟩:Ent).k:=fun x hx=>Nat.ne_of_lt (hn x hx)
 have hs:=qLA hne
 have hE:∀ j x,qAh (d.l++[⟨d.next,n,f⟩]) j=some x→(j=d.next∧x=⟨d.next,n,f⟩)∨(j≠d.next∧qAh d.l j=some x):=by
  intro j x hx
  rw [hs] at hx
  by_cases hj:j=d.next
  ·rw [zN1 hj] at hx;exact .inl ⟨hj,(Option.some.inj hx).symm⟩
  ·rw [zM1 hj] at hx;exact .inr ⟨hj,hx⟩
 have e3:Ext w (w2.setCell ⟨b,2,none⟩ (.int .i64 ((d.next+1:Nat):Int))) c c (fun y=>decide (y=.dirs)||decide (y=.dirsMap)):=(e.mono (S':=fun y=>decide (y=.dirs)||decide (y=.dirsMap)) (qAF rfl)).then s2 (qAF rfl)
 refine ⟨⟨by simpa using s1,h.col,h.mcol,?_,fun j x hx=>?_,fun j x hx=>?_,fun j x hx=>?_⟩,s2⟩
 ·have:=(hm.ext s2 h.mcol rfl).congr (g:=qA3 (d.l++[⟨d.next,n,f⟩]) (fun j=>if j=d.next then vs else nd j) (fun j=>if j=d.next then bf else fm j)) (fun j=>by
   unfold qA3
   rw [hs]
   by_cases hj:j=d.next<;>simp [hj])
  simpa using this
 ·rcases hE j x hx with ⟨rfl,rfl⟩ | ⟨hj,hx⟩
  ·simp only [if_true]
   exact hr.ext e3 rfl
  ·simp only [zM1 hj]
   exact (h.node j x hx).ext e3 rfl
 ·rcases hE j x hx with ⟨rfl,rfl⟩ | ⟨hj,hx⟩
  ·simp only [if_true]
   exact hfc
  ·simp only [zM1 hj]
   exact h.fcol j x hx
 ·rcases hE j x hx with ⟨rfl,rfl⟩ | ⟨hj,hx⟩
  ·simp only [if_true]
   exact hf.ext e3 hfc (by simp)
  ·simp only [zM1 hj]
   exact (h.files j x hx).ext e3 (h.fcol j x hx) (by simp)
theorem DirsBut.share (h:DirsBut w c b d bt bm nd fm) {k:Nat} {en:Ent} (he:qAh d.l k=some en) {s:List UInt8} (n:Nat) (hs:(qAG en.f s).isSome=true)
  (hm:qBh w2 (fm k) (en.f.length+1) (fun x=>if x=s then some (.int .i64 (n:Int)) else fileAt en.f x)) (e:Ext w w2 c c (S1 (.files k))) :
  DirsBut w2 c b { d with l:=qAK d.l k s n } bt bm nd fm:=by
 have hek:en.k=k:=(qA1 he).2
 have hE:∀ j x,qAh (qAK d.l k s n) j=some x→∃ y,qAh d.l j=some y∧x.n=y.n∧((j=k∧y=en∧x.f=qAo en.f s n)∨(j≠k∧x=y)):=by
  intro j x hx
  rw [qFa] at hx
  cases hy:qAh d.l j with
  | none=>rw [hy] at hx;cases hx
  | some y =>
   rw [hy] at hx
   simp only [zB1,zC1] at hx
   have hyk:=(qA1 hy).2
   by_cases hj:j=k
   ·subst hj
    rw [he] at hy
    cases hy
    rw [zN1 hek] at hx
    subst hx
    exact ⟨en,rfl,rfl,.inl ⟨rfl,rfl,rfl⟩⟩
   ·rw [zM1 (by rw [hyk];exact hj)] at hx
    exact ⟨y,rfl,by rw [hx],.inr ⟨hj,hx.symm⟩⟩
 have hlen:(qAK d.l k s n).length=d.l.length:=by simp [qAK]
 refine ⟨(e.kept h.own h.col (qBk (by intro e;cases e))).1,h.col,h.mcol,?_,fun j x hx=>?_,fun j x hx=>?_,fun j x hx=>?_⟩
 ·rw [show ({ d with l:=qAK d.l k s n }:Stl.Dirs).l.length=d.l.length from hlen]
  refine (h.map.ext e h.mcol (qBk (by intro e;cases e))).congr fun j=>?_
  unfold qA3
  show ((qAh (qAK d.l k s n) j).map _)=_
  rw [qFa]
  cases qAh d.l j<;>rfl
 ·obtain ⟨y,hy,hn,_⟩:=hE j x hx
  rw [hn]
  exact (h.node j y hy).ext e (qBk (by intro e;cases e))
 ·obtain ⟨y,hy,_,_⟩:=hE j x hx
  exact h.fcol j y hy
 ·obtain ⟨y,hy,_,h3⟩:=hE j x hx
  rcases h3 with ⟨rfl,rfl,h4⟩ | ⟨hj,rfl⟩
  ·rw [h4]
   have hl2:(qAo y.f s n).length=y.f.length:=by simp [qAo]
   rw [hl2]
   have:=(hm.congr (g:=fileAt (qAo y.f s n)) (fun x=>by
    unfold fileAt
    rw [qBx]
    by_cases hx:x=s
    ·subst hx
     rw [zN1 rfl,zN1 rfl]
     cases hq:qAG y.f x with
     | none=>rw [hq] at hs;cases hs
     | some m=>rfl
    ·rw [zM1 hx,zM1 hx])).tight okS.keyed (y.f.map (·.1)) (fun x hx=>by
     unfold fileAt at hx
     rw [qBx] at hx
     have h5:(qAG y.f x).isSome=true:=by
      by_cases h6:x=s
      ·rw [h6];exact hs
      ·rw [zM1 h6] at hx;simpa using hx
     unfold qAG at h5
     cases hf:y.f.find? fun p=>p.1==x with
     | none=>rw [hf] at h5;cases h5
     | some q =>
      have h7:=zh hf
      have h8:=List.find?_some hf
      exact zf.2 ⟨q,h7,by simpa using h8⟩)
   simpa using this
  ·exact (h.files j x hy).ext e (h.fcol j x hy) (qBk (by intro e;injection e with e;exact hj e))
end
def qA8 (l:List It):List (List UInt8):=(l.filter fun x=>x.n.kind==kFile).map fun x=>told x.path
theorem qEw (a b:List It):qA8 (a++b)=qA8 a++qA8 b:=by simp [qA8]
theorem qJP (x:It) (h:x.n.kind=kFile):qA8 [x]=[told x.path]:=by simp [qA8,h]
theorem qIC (x:It) (h:x.n.kind≠kFile):qA8 [x]=[]:=by simp [qA8,h]
theorem qHB (l:List It):(qA8 l).length≤l.length:=by simp [qA8,zU]
structure PSt (w0 W:World) (b5:Nat) (pre:List It):Prop where
 out:∃ A c,W.heap[b5]?=some (.cells #[.slice A (qA8 pre).length c] 22 (0,0))∧W.ownsRow w0.heap.size 9 1 (.slice A (qA8 pre).length c) (qA8 pre).length ((qA8 pre).map encStr)
 old:w0.heap.size≤b5
 below:Below w0.heap.size w0 W
theorem PSt.later {w0 W W':World} {b5:Nat} {pre:List It} (h:PSt w0 W b5 pre) (hb:Below W.heap.size W W'):PSt w0 W' b5 pre:=by
 obtain ⟨A,c,h1,h2⟩:=h.out
 exact ⟨⟨A,c,(hb.block _ (zO1 h1)).trans h1,h2.kept (Below.toGrown hb none) (by cases Value.ownBlock (Value.slice A (qA8 pre).length c)<;>simp)⟩,h.old,h.below.trans (hb.mono h.below.size)⟩
theorem qLb {w0 W w2 w3:World} {b5:Nat} {pre:List It} {x:It} {Ao A3:Option Addr} {co c3:Nat} {acc:List (List UInt8)}
  (HS:PSt w0 W b5 pre) (HB2:Below W.heap.size W w2) (HO1:w2.heap[b5]?=some (.cells #[.slice Ao acc.length co] 22 (0,0)))
  (HO3:w2.ownsRow w0.heap.size 9 1 (.slice Ao acc.length co) acc.length (acc.map encStr)) (HO4:w3.ownsRow w0.heap.size 9 1 (.slice A3 (acc.length+1) c3) (acc.length+1) (acc.map encStr++[encStr (told x.path)]))
  (HG3:w2.grownBy w3 (Value.slice Ao acc.length co).ownBlock) (HR:qA8 (pre++[x])=acc++[told x.path]) :
  PSt w0 (w3.setCell ⟨b5,0,none⟩ (.slice A3 (acc.length+1) c3)) b5 (pre++[x])∧NKeep W (w3.setCell ⟨b5,0,none⟩ (.slice A3 (acc.length+1) c3)):=by
 have s3:=(HG3.block _ (zO1 HO1) (qAS HO3 HO1 (by decide))).trans HO1
 have hz:=HS.below.size
 have hb2:Below w0.heap.size w0 w2:=HS.below.trans (HB2.mono hz)
 have hb3:Below w0.heap.size w0 w3:=hb2.grown HG3 hb2.size (fun k hk=>(HO3.lt k hk).1)
 refine ⟨⟨⟨A3,c3,?_,?_⟩,HS.old,hb3.setCell HS.old _⟩,?_⟩
 ·rw [one_setCell s3,HR]
  simp
 ·rw [HR,zQ,zW]
  exact zP1 HO4 (qAS HO4 s3 (by decide)).symm _
 ·intro k cs T fr hk h1 h2
  have k2:=(HB2.block _ (zO1 hk)).trans hk
  have k3:=(HG3.block _ (zO1 k2) (qAS HO3 k2 h1)).trans k2
  rw [zB _ _ _ _ (by
   rintro rfl
   rw [s3] at k3
   injection k3 with k3
   injection k3 with _ k3
   exact h2.1 k3.symm)]
  exact k3
theorem qLQ {w0 W:World} {b5:Nat} {pre:List It} (x:It) (vs:List Value) (h:PSt w0 W b5 pre) (W0:World) (hn:NodeAt W0 x.n vs) (hp:(qA8 pre).length≤1000000) :
  Calls Tryz.prog 188 (#[.agg vs.toArray,.string ⟨(told x.path).toArray⟩]++#[.pointer (some ⟨b5,0,none⟩)]) W (qHE (fun l W'=>PSt w0 W' b5 l) (pre++[x]) W):=by
 obtain ⟨p',deep,n⟩:=x
 obtain ⟨k,d,e,ks⟩:=n
 obtain ⟨A,c,rfl,_,_⟩:=hn.open
 have HS:=Hh h
 have hb1:Below W.heap.size W (W.alloc (.cells #[.string ⟨k.toArray⟩,.string ⟨d.toArray⟩,.bool e,.slice A ks.length c] 45)):=(zC _ W).alloc (zr _) _
 have HS1:=Hh (h.later hb1)
 have HB:=Hh hb1
 clear h hn hb1
 simp only
 generalize hpt:told p'=pt
 rcases (show (k=kFile∧(k==[102,105,108,101])=true)∨(k≠kFile∧(k==[102,105,108,101])=false) from by
   by_cases h:k=kFile
   ·exact .inl ⟨h,by subst h;decide⟩
   ·exact .inr ⟨h,by simpa [kFile] using h⟩) with ⟨hk,hk'⟩ | ⟨hk,hk'⟩
 ·have HR:=Hh (show qA8 (pre++[⟨p',deep,.mk k d e ks⟩])=qA8 pre++[told (⟨p',deep,.mk k d e ks⟩:It).path] by rw [qEw,qJP ⟨p',deep,.mk k d e ks⟩ hk])
  obtain ⟨Ao,co,ho1,ho2⟩:=HS1.out.out
  generalize qA8 pre=acc at HR ho1 ho2 hp
  have HO1:=Hh ho1
  have HO2:=Hh ho2
  have HP:=Hh hpt
  have c5:=cell_of_one ho1
  have f5:=free_of_one ho1
  obtain ⟨i0,hi,hz0,hz1,hz2⟩:=qFr
  have Hi:=Hh hi
  have Hz0:=Hh hz0
  have Hz1:=Hh hz1
  have Hz2:=Hh hz2
  clear hk ho1 ho2 hi hz0 hz1 hz2 hpt
  go_enter Tryz.func188,Tryz.ntmps188
  go_upto_region 2 with fail
  generalize W.alloc (.cells #[.string ⟨k.toArray⟩,.string ⟨d.toArray⟩,.bool e,.slice A ks.length c] 45)=W1 at *
  have hb2:Below W1.heap.size W1 (W1.alloc (.cells #[.string ⟨pt.toArray⟩] 9)):=(zC _ W1).alloc (zr _) _
  have HB2:=Hh hb2
  have HO3:=Hh (HO2.out.kept (Below.toGrown hb2 none) (by cases Value.ownBlock (Value.slice Ao acc.length co)<;>simp))
  have HOX:=Hh ((hb2.block _ (zO1 HO1.out)).trans HO1.out)
  clear hb2
  go_wp2_with (at_builtin;refine Stl.wpList_app _ rfl _ _ 22 rfl w0.heap.size 9 i0 (.string ByteArray.empty) 1 16 Tryz.underlying22 Hi.out Hz0.out Hz1.out Hz2.out rfl (by decide) (.slice Ao acc.length co) acc.length (acc.map encStr) rfl HO3.out (some ⟨W1.heap.size,0,none⟩) 1 1 [.string ⟨pt.toArray⟩] rfl rfl (fun h=>by cases h) (qAw _ _ _) (by simp [Value.oneCell']) (by unfold maxLen;omega) (by omega) (zt HS1.out.below.size HB2.out.size) ?_;intro A3 c3 w3 hown3 hgr3 hat;have HO4:=Hh hown3;have HG3:=Hh hgr3;have HS3:=Hh ((hgr3.block _ (zO1 HOX.out) (qAS HO3.out HOX.out (by decide))).trans HOX.out);have c5':=cell_of_one HS3.out;have f5':=free_of_one HS3.out;clear hown3 hgr3 hat)
  go_end0
  refine ⟨rfl,?_⟩
  have HR2:=HR.out
  have:=qLb (x:=⟨p',deep,.mk k d e ks⟩) HS1.out HB2.out HOX.out HO3.out (by simp only [HP.out];exact HO4.out) HG3.out (by simpa only [HP.out] using HR2)
  exact ⟨this.1,(NKeep.of_below HB.out).trans this.2⟩
 ·have HR:=Hh (show qA8 (pre++[⟨p',deep,.mk k d e ks⟩])=qA8 pre by rw [qEw,qIC ⟨p',deep,.mk k d e ks⟩ hk,List.append_nil])
  clear hk
  go_enter Tryz.func188,Tryz.ntmps188
  go_wp2
  go_end0
  refine ⟨rfl,?_,NKeep.of_below HB.out⟩
  obtain ⟨q2,q3,q4⟩:=HS1.out
  exact ⟨by rw [HR.out];exact q2,q3,q4⟩
theorem qHy:∀ args w,(callFunc 188 args).run Tryz.prog w=.ok (.enter 188 args) w:=enters_of Tryz.func188 (by kernel_rfl) rfl
theorem qK1 (n:Nd):qAx n=qA8 (items n):=rfl
theorem qJa (p:Nat→Addr) (n:Nd) (vs:List Value) (w:World) (hE:Errs w p) (hn:NodeAt w n vs) :
  Calls Tryz.prog 125 #[.agg vs.toArray] w (qFR (qAx n) w):=by
 have HR:=Hh (qK1 n)
 generalize qAx n=res at HR
 have HE:=Hh hE
 have HN:=Hh hn
 obtain ⟨k,d,e,ks⟩:=n
 obtain ⟨A,c,rfl,_,_⟩:=hn.open
 clear hE hn
 have hbl:Below w.heap.size w ((w.alloc (.cells #[.string ⟨k.toArray⟩,.string ⟨d.toArray⟩,.bool e,.slice A ks.length c] 45)).alloc (.cells #[.slice none 0 0] 22)):=((zC _ w).alloc (zr _) _).alloc (by simp) _
 have k2:((w.alloc (.cells #[.string ⟨k.toArray⟩,.string ⟨d.toArray⟩,.bool e,.slice A ks.length c] 45)).alloc (.cells #[.slice none 0 0] 22)).heap[w.heap.size+1]?=some (.cells #[.slice none 0 0] 22 (0,0)):=by
  have:=zL1 (w.alloc (.cells #[.string ⟨k.toArray⟩,.string ⟨d.toArray⟩,.bool e,.slice A ks.length c] 45)) (.cells #[.slice none 0 0] 22)
  simpa using this
 have h0:PSt w ((w.alloc (.cells #[.string ⟨k.toArray⟩,.string ⟨d.toArray⟩,.bool e,.slice A ks.length c] 45)).alloc (.cells #[.slice none 0 0] 22)) (w.heap.size+1) [] :=
  ⟨⟨none,0,k2,zG1 _ _ _ _⟩,by omega,hbl⟩
 have h:=qHa p w HE.out (.mk k d e ks) _ HN.out 188 #[.pointer (some ⟨w.heap.size+1,0,none⟩)] qHy
  (fun l W=>PSt w W (w.heap.size+1) l) (fun pre W W' h hb=>h.later hb) (fun pre W h=>h.below)
  (fun ht pre x W vs hI hnx hr=>by
   obtain ⟨i1,i2⟩:=items_well ht
   obtain ⟨rest,hr⟩:=hr
   have hlen:pre.length≤200:=by
    have:=congrArg List.length hr
    simp at this
    omega
   have:=qHB pre
   exact qLQ x vs hI w hnx (by omega)) _ h0
 have HH:=Hh h
 clear h h0 k2 hbl
 go_enter Tryz.func125,Tryz.ntmps125
 go_upto_region 3 with (go_at_call 119;refine HH.out.mono ?_;rintro ev w2 ⟨rfl,hI,_⟩;obtain ⟨Ao,co,ho1,ho2⟩:=hI.out;have HB2:=Hh hI.below;have HO2:=Hh ho2;have c5:=cell_of_one ho1;clear ho1 ho2 hI)
 go_wp2
 go_ret
 rw [← HR.out] at HO2
 exact ⟨Ao,co,by rw [← HR.out];rfl,HO2.out,HB2.out⟩
end Go.Proofs.YthogfjmnnaoldaaGreatDoor
namespace Stl
open Go
theorem qFE (c:UInt8):∀ l:List UInt8,(cutAt c l=none∧Lib.index l [c]=-1∧c∉l)∨∃ a b,cutAt c l=some (a,b)∧Lib.index l [c]=a.length∧l=a++c::b
 | []=>.inl ⟨rfl,rfl,by simp⟩
 | x::r=>by
  by_cases h:x=c
  ·subst h
   refine .inr ⟨[],r,by simp [cutAt],?_,rfl⟩
   rw [Lib.index_one]
   simp [Lib.indexByte]
  ·have hx:¬ (x==c)=true:=by simpa using h
   rcases qFE c r with ⟨h1,h2,h3⟩ | ⟨a,b,h1,h2,h3⟩
   ·refine .inl ⟨by simp [cutAt,h,h1],?_,by simp [h3];exact fun e=>h e.symm⟩
    rw [Lib.index_one] at h2 ⊢
    unfold Lib.indexByte
    rw [zM1 hx,zN1 (by rw [h2];rfl)]
   ·refine .inr ⟨x::a,b,by simp [cutAt,h,h1],?_,by rw [h3];rfl⟩
    rw [Lib.index_one] at h2 ⊢
    unfold Lib.indexByte
    rw [zM1 hx,zM1 (by rw [h2];simp),h2]
    simp
theorem qPu (c:UInt8) (l:List UInt8):Lib.cut l [c]=match cutAt c l with | none=>(l,[],false) | some p=>(p.1,p.2,true):=by
 unfold Lib.cut
 rcases qFE c l with ⟨h1,h2,_⟩ | ⟨a,b,h1,h2,h3⟩
 ·rw [h1,h2];rfl
 ·rw [h1,h2,zN1 (by omega)]
  simp [h3]
theorem qB8 (c:UInt8):∀ l:List UInt8,qAj c l=match cutAt c l with | none=>[l] | some p=>p.1::qAj c p.2
 | []=>rfl
 | x::r=>by
  by_cases h:x=c
  ·simp [qAj,cutAt,h]
  ·have ih:=qB8 c r
   simp only [qAj,cutAt,zM1 h]
   rw [ih]
   cases cutAt c r<;>rfl
theorem qIX (c:UInt8):∀ (n:Nat) (l:List UInt8),l.length≤n→Lib.splitB ⟨#[c]⟩ 0 (Lib.countB ⟨l.toArray⟩ ⟨#[c]⟩) ⟨l.toArray⟩=(qAj c l).map (fun x=>⟨x.toArray⟩)∧Lib.countB ⟨l.toArray⟩ ⟨#[c]⟩+1=(qAj c l).length
 | n,l,hn=>by
  rcases qFE c l with ⟨h1,h2,_⟩ | ⟨a,b,h1,h2,h3⟩
  ·have e:Lib.indexB ⟨l.toArray⟩ ⟨#[c]⟩=-1:=h2
   rw [qB8,h1,Lib.splitB_miss _ _ _ _ e,Lib.countB_miss _ _ e]
   exact ⟨rfl,rfl⟩
  ·have e:Lib.indexB ⟨l.toArray⟩ ⟨#[c]⟩=a.length:=h2
   have hl:l.length=a.length+1+b.length:=by rw [h3];simp;omega
   have ex:(ByteArray.mk l.toArray).extract (a.length+1) (ByteArray.mk l.toArray).size=⟨b.toArray⟩:=by
    apply ByteArray.ext
    apply Array.toList_inj.1
    rw [Lib.extract_to_end]
    simp [h3]
   have ex0:(ByteArray.mk l.toArray).extract 0 (a.length+0)=⟨a.toArray⟩:=by
    apply ByteArray.ext
    apply Array.toList_inj.1
    rw [Lib.extract_data]
    simp [h3]
   have hc:=Lib.countB_hit ⟨l.toArray⟩ ⟨#[c]⟩ a.length (zr 1) e
   have hs:(ByteArray.mk #[c]).size=1:=rfl
   rw [hs,ex] at hc
   match n,hn with
   | 0,hn=>omega
   | n+1,hn =>
    obtain ⟨i1,i2⟩:=qIX c n b (by omega)
    rw [hc,Nat.add_comm 1,Lib.splitB_hit _ _ _ _ _ e,hs,ex,ex0,i1,qB8 c l,h1]
    exact ⟨rfl,by simp;omega⟩
theorem qGf (c:UInt8) (l:List UInt8):∀ x∈qAj c l,x.length≤l.length:=by
 induction l with
 | nil=>simp [qAj]
 | cons a r ih =>
  intro x hx
  simp only [qAj] at hx
  split at hx
  ·rcases za.1 hx with rfl | hx
   ·simp
   ·have:=ih x hx;simp;omega
  ·cases hs:qAj c r with
   | nil =>
    rw [hs] at hx
    simp at hx
    subst hx
    simp
   | cons y t =>
    rw [hs] at hx ih
    rcases za.1 hx with rfl | hx
    ·have:=ih y (by simp);simp;omega
    ·have:=ih x (by simp [hx]);simp;omega
theorem qGi (c:UInt8) (l:List UInt8):(qAj c l).length≤l.length+1:=by
 induction l with
 | nil=>simp [qAj]
 | cons a r ih =>
  simp only [qAj]
  split
  ·simp;omega
  ·cases hs:qAj c r with
   | nil=>simp
   | cons y t=>rw [hs] at ih;simp at ih ⊢;omega
end Stl
