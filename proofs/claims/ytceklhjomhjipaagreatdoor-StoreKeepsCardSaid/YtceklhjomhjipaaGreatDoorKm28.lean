/- Texts of this claim, merged: Split, DirsLook, Alike, WayPure, Share. -/
import Derived.Test.YtceklhjomhjipaaGreatDoorKm27
set_option maxHeartbeats 16000000
set_option maxRecDepth 1000000
set_option linter.all false
namespace Go.Proofs.YtceklhjomhjipaaGreatDoor
open Go.RowKit Go.Sort Go.Shelf Stl
theorem qLM (s:List UInt8) (hl:s.length≤140737488355328) (w:World) :
  Calls Tryz.prog 212 #[.string ⟨s.toArray⟩] w fun e w'=>e=.returned (.bool (!Stl.isName s))∧Below w.heap.size w w':=by
 have hN:=fun W=>qDp s W (by omega)
 generalize Stl.isName s=r at hN
 have HN:=Hh hN
 clear hN
 go_enter Tryz.func212,Tryz.ntmps212
 go_wp2_with fail
 refine (HN.out _).mono ?_
 rintro e w1 ⟨rfl,hb⟩
 go_wp2
 go_ret
 exact ⟨rfl,hb⟩
theorem qHw (A:Option Addr) (c:Nat) (l:List (List UInt8)) (hc2:l.length≤140737488355328) (hl:∀ x∈l,x.length≤140737488355328) (w:World) (hk:Strs w (.slice A l.length c) l) :
  Calls Tryz.prog 258 #[.slice A l.length c,.func (.func 212) #[] #[]] w fun e w'=>(∃ i:Int,e=.returned (.int .i64 i)∧decide (0≤i)=!(l.all Stl.isName))∧Below w.heap.size w w':=by
 have HK:=Hh hk
 have HL:=Hh hl
 clear hk hl
 obtain ⟨r,hr⟩:∃ r,r=l.all Stl.isName:=⟨_,rfl⟩
 rw [← hr]
 have HR:=Hh hr
 clear hr
 go_enter Tryz.func258,Tryz.ntmps258
 go_wp2_with fail
 go_loopw [8] (fun a wr=>Below w.heap.size w wr∧∃ k:Nat,k≤l.length∧a=.int .i64 k∧Hid ((l.take k).all Stl.isName=true)) (fun a _=>l.length-(intOf a).toNat)
 case atStart=>exact ⟨zB _ _,0,zx _,rfl,Hh rfl⟩
 case round =>
  obtain ⟨hb,k,hk,rfl,HP⟩:=hrel
  have HB:=Hh hb
  clear hb
  by_cases hkn:k<l.length
  ·have i1:(k:Int)<(l.length:Int):=by omega
   have i2:(0:Int)≤(k:Int):=by omega
   obtain ⟨b,off,rfl,hlt,h0⟩:=(HK.out.later HB.out).cellAt hkn
   have HX:=Hh (show l.take (k+1)=l.take k++[l[k]] from zo hkn)
   have HM:=Hh (show l[k]∈l from zO hkn)
   generalize l[k]=nm at HX h0 HM
   go_wp2_with fail
   refine (qLM nm (HL.out nm HM.out) _).mono ?_
   rintro e w2 ⟨rfl,hb2⟩
   have HB2:=Hh (HB.out.trans (hb2.mono HB.out.size))
   clear hb2 h0
   cases hq:Stl.isName nm
   ·have HF:=Hh (show r=false by
     rw [HR.out,Bool.eq_false_iff]
     intro h
     have:=List.all_eq_true.1 h _ HM.out
     rw [hq] at this
     cases this)
    clear hq
    go_wp2
    go_ret
    refine ⟨⟨_,rfl,?_⟩,HB2.out⟩
    rw [HF.out]
    simp
   ·have HQ:=Hh hq
    clear hq
    go_wp2
    go_roundw
    case rel =>
     refine ⟨HB2.out,k+1,hkn,rfl,Hh ?_⟩
     rw [HX.out,List.all_append,HP.out]
     simp [HQ.out]
    case measure=>simp [intOf];omega
  ·have i1:¬ (k:Int)<(l.length:Int):=by omega
   have HF:=Hh (show r=true by
    have:=HP.out
    rw [zn (by omega)] at this
    rw [HR.out,this])
   go_wp2
   go_ret
   refine ⟨⟨_,rfl,?_⟩,HB.out⟩
   rw [HF.out]
   decide
theorem qFu (A:Option Addr) (c:Nat) (l:List (List UInt8)) (hc2:l.length≤140737488355328) (hl:∀ x∈l,x.length≤140737488355328) (w:World) (hk:Strs w (.slice A l.length c) l) :
  Calls Tryz.prog 207 #[.slice A l.length c,.func (.func 212) #[] #[]] w fun e w'=>e=.returned (.bool !(l.all Stl.isName))∧Below w.heap.size w w':=by
 have h:=qHw A c l hc2 hl w hk
 generalize (!(l.all Stl.isName))=r at h
 clear hk
 go_enter Tryz.func207,Tryz.ntmps207
 go_wp2_with fail
 refine h.mono ?_
 rintro e w' ⟨⟨i,rfl,hi⟩,hb⟩
 have HI:=Hh hi
 clear hi
 go_wp2
 go_ret
 exact ⟨by rw [← HI.out];rfl,hb⟩
def qM6 (p:Nat→Addr) (r:Option (List (List UInt8))) (ev:Ending) (w':World):Prop :=
 match r with
 | none=>ev=.returned (.tuple #[.slice none 0 0,qAB p 5])
 | some l=>∃ A c,ev=.returned (.tuple #[.slice A l.length c,.nilIface])∧Strs w' (.slice A l.length c) l
theorem qIU {p:Nat→Addr} (s:List UInt8) (hs:s.length≤4000000) (w:World) (hE:Errs w p) (hm:∃ m,w.cell? ⟨10,0,none⟩=some (.int .i64 m)) :
  Calls Tryz.prog 154 #[.string ⟨s.toArray⟩] w fun ev w'=>Below w.heap.size w w'∧qM6 p (qAy s) ev w':=by
 obtain ⟨m,hm⟩:=hm
 have HS:=Hh (show qAy s=if s=[47] then some [] else match qAk 47 s with
  | []::l=>if l=[]∨8<l.length∨l.all isName=false then none else some l
  | _=>none from rfl)
 generalize qAy s=res at HS ⊢
 have hsp:=(qIP 47 s.length s (zq _))
 have hsh:=qGz 47 s
 have hct:=qGx 47 s
 have hcut:=qCc 47 s
 have hspl:=Tryz.strings_Split ⟨s.toArray⟩ ⟨#[47]⟩ m w (by show s.toArray.size<4294967281;simp;omega) hm (by decide)
 rw [hsp.1,hsp.2] at hspl
 replace hspl:=hspl.mono (R':=fun e w'=>e=.returned (.slice (some ⟨w.heap.size,0,none⟩) (qAk 47 s).length (qAk 47 s).length)∧Below w.heap.size w w'∧w'.heap[w.heap.size]?=some (.cells (((qAk 47 s).map fun x=>(⟨x.toArray⟩:ByteArray)).map Value.string).toArray 9 (0,0))) (by
  rintro e w' ⟨rfl,rfl⟩
  exact ⟨rfl,(zB _ w).alloc (zq _) _,zK1 w _⟩)
 have hL:(qAk 47 s)≠[]:=by rw [hcut];split<;>simp
 generalize qAk 47 s=L at hspl hsh hct HS hL
 have HSPL:=Hh hspl
 have HSH:=Hh hsh
 have HCT:=Hh hct
 have HL:=Hh hL
 have HE:=Hh hE
 clear hsp hsh hct hcut hspl hL hE hm
 rcases (show (s=[47]∧(s==[47])=true)∨(s≠[47]∧(s==[47])=false) from by
   by_cases h:s=[47]
   ·exact .inl ⟨h,by subst h;decide⟩
   ·exact .inr ⟨h,by simpa using h⟩) with ⟨hk,hk'⟩ | ⟨hk,hk'⟩
 ·rw [zM1 hk] at HS
  clear hk
  go_enter Tryz.func154,Tryz.ntmps154
  go_wp2_with fail
  go_ret2
  refine ⟨zB _ _,?_⟩
  rw [HS.out]
  exact ⟨none,0,rfl,none,0,rfl,fun h=>absurd rfl h⟩
 ·rw [zL1 hk] at HS
  clear hk
  go_enter Tryz.func154,Tryz.ntmps154
  go_upto_region 4 with (go_at_call 211;refine HSPL.out.mono ?_;rintro ev w1 ⟨rfl,hb1,hx1⟩;have HB1:=Hh hb1;have HX:=Hh hx1;clear hb1 hx1)
  have cs:∀ (j:Nat) x,L[j]?=some x→w1.cell? ⟨w.heap.size,j,none⟩=some (.string ⟨x.toArray⟩):=fun j x hx=>by
   rw [qMG HX.out j]
   simp [hx]
  rcases L with _ | ⟨hd,l⟩
  ·exact absurd rfl HL.out
  ·have c0:=cs 0 hd rfl
   have ER:=Hh (HE.out.later HB1.out)
   have hg5:=ER.out.cell 5 (by omega) (by omega)
   rw [qAc p (by omega)] at hg5
   have hg6:w1.cell? ⟨5,0,none⟩=some (.iface 377 (.pointer (some (p 5)))):=hg5
   have i1:(0:Int)<((hd::l).length:Int):=by simp
   simp only [zQ] at i1 ⊢
   rcases hd with _ | ⟨x,t⟩
   ·have hlen:(l.length:Int)+1-1=l.length:=by omega
    rcases Nat.eq_zero_or_pos l.length with h0 | h0
    ·have h1:l=[]:=zH h0
     subst h1
     have HR:=Hh (show res=none by rw [HS.out];rfl)
     clear cs HS
     go_wp2_with fail
     go_region
     go_wp2
     go_ret2
     refine ⟨HB1.out.drew,?_⟩
     rw [HR.out]
     show _=Ending.returned (.tuple #[.slice none 0 0,qAB p 5])
     rw [qAc p (by decide)]
     rfl
    ·have j1:¬ (l.length:Int)+1<2:=by omega
     have j3:(1:Int)≤(l.length:Int)+1:=by omega
     have hlb:l.length≤4000000:=by have:=HCT.out;simp at this;omega
     have hne:(l=[])=False:=by rw [eq_iff_iff,iff_false];intro e;rw [e] at h0;simp at h0
     by_cases h8:8<l.length
     ·have j2:(8:Int)<(l.length:Int):=by omega
      have HR:=Hh (show res=none by rw [HS.out];simp [h8])
      clear cs HS
      go_wp2_with fail
      go_region
      go_wp2
      go_ret2
      refine ⟨HB1.out.drew,?_⟩
      rw [HR.out]
      show _=Ending.returned (.tuple #[.slice none 0 0,qAB p 5])
      rw [qAc p (by decide)]
      rfl
     ·have j2:¬ (8:Int)<(l.length:Int):=by omega
      have HST:=Hh (show Strs w1 (.slice (some ⟨w.heap.size,1,none⟩) l.length l.length) l from ⟨_,_,rfl,fun _=>⟨w.heap.size,1,rfl,qAa HX.out,fun j x hx=>by
       rw [Nat.add_comm]
       exact cs (j+1) x (by simpa using hx)⟩⟩)
      have HSC:=Hh (qFu (some ⟨w.heap.size,1,none⟩) l.length l (by omega) (fun x hx=>by have:=HSH.out x (by simp [hx]);omega) w1 HST.out)
      have hg7:=fun W (hW:Below w1.heap.size w1 W)=>(ER.out.later hW).cell 5 (by omega) (by omega)
      rw [qAc p (by omega)] at hg7
      have HG7:=Hh hg7
      cases hq:l.all isName with
      | false =>
       have HR:=Hh (show res=none by rw [HS.out];simp [hq])
       rw [hq] at HSC
       clear cs HS hq hg7
       go_upto_region 5 with (go_at_call 207;refine HSC.out.mono ?_;rintro ev w3 ⟨rfl,hb3⟩;have HB3:=Hh (HB1.out.trans (hb3.mono HB1.out.size));have hg8:w3.cell? ⟨5,0,none⟩=some (.iface 377 (.pointer (some (p 5)))):=HG7.out w3 hb3;clear hb3)
       go_region
       go_wp2
       go_ret2
       refine ⟨HB3.out.drew,?_⟩
       rw [HR.out]
       show _=Ending.returned (.tuple #[.slice none 0 0,qAB p 5])
       rw [qAc p (by decide)]
       rfl
      | true =>
       have HR:=Hh (show res=some l by rw [HS.out];simp [h8,hq];exact fun e=>by rw [e] at h0;simp at h0)
       rw [hq] at HSC
       clear cs HS hq hg7
       go_wp2_with (go_at_call 207;refine HSC.out.mono ?_;rintro ev w3 ⟨rfl,hb3⟩;have HB3:=Hh (HB1.out.trans (hb3.mono HB1.out.size));have HST3:=Hh (HST.out.later hb3);clear hb3)
       go_ret2
       refine ⟨HB3.out,?_⟩
       rw [HR.out]
       exact ⟨_,_,rfl,HST3.out⟩
   ·have HR:=Hh (show res=none by rw [HS.out])
    clear cs
    go_wp2_with fail
    go_region
    go_wp2
    go_ret2
    refine ⟨HB1.out.drew,?_⟩
    rw [HR.out]
    show _=Ending.returned (.tuple #[.slice none 0 0,qAB p 5])
    rw [qAc p (by decide)]
    rfl
section
variable {w:World} {c:Nat→Col} {b:Nat} {d:Stl.Dirs}
theorem qII {p:Nat→Addr} (h:DirsAt w c b d) (k:Nat) (hk:k≤1000000) (hE:Errs w p) {e:Ent} (he:qAi d.l k=some e) :
  Calls Tryz.prog 94 #[.pointer (some ⟨b,0,none⟩),.int .i64 k] w (qHL (qAv e.n) w):=by
 obtain ⟨bt,bm,nd,fm,h⟩:=h
 obtain ⟨k',d',e',ks,A,cap,hn,hnd,hnp⟩:=h.ent he
 have hlk:=h.lookOk hk he
 rw [hnd] at hlk
 simp only [zE,zi] at hlk
 have c1:=ce1 h.own
 have hb1:Below w.heap.size w (w.alloc (.cells #[.string ⟨k'.toArray⟩,.string ⟨d'.toArray⟩,.bool e',.slice A ks.length cap,.map (some (fm k))] 134)):=(zB _ w).alloc (zq _) _
 have HX:=Hh (zK1 w (.cells #[.string ⟨k'.toArray⟩,.string ⟨d'.toArray⟩,.bool e',.slice A ks.length cap,.map (some (fm k))] 134))
 have HF:=Hh (qIJ p (.mk k' d' e' ks) _ _ (hE.later hb1) (NodeAt.later hb1 _ _ (NodeP.at _ _ hnp)))
 rw [hn]
 have HB1:=Hh hb1
 generalize qAv (.mk k' d' e' ks)=res at HF ⊢
 clear h he hE hnd hn hnp hb1
 go_enter Tryz.func94,Tryz.ntmps94
 go_upto_region 4 with fail
 clear hlk c1
 generalize w.alloc (.cells #[.string ⟨k'.toArray⟩,.string ⟨d'.toArray⟩,.bool e',.slice A ks.length cap,.map (some (fm k))] 134)=w2 at *
 have q0:=ce0 HX.out
 have q1:=ce1 HX.out
 have q2:=ce2 HX.out
 have q3:=ce3 HX.out
 go_wp2_with (go_at_call 132;refine HF.out.mono ?_;rintro ev w3 ⟨A3,c3,rfl,hr3,hb3⟩;have HR3:=Hh hr3;have HB3:=Hh hb3;clear hr3 hb3)
 go_ret
 refine ⟨A3,c3,rfl,?_,HB1.out.trans (HB3.out.mono HB1.out.size)⟩
 obtain ⟨h1,h2⟩:=HR3.out
 refine ⟨h1,?_⟩
 rcases h2 with h2 | ⟨g,cp,cur,e1,e2,e3⟩
 ·exact .inl h2
 ·exact .inr ⟨g,cp,cur,e1,zr HB1.out.size e2,e3⟩
def qCi (d:Stl.Dirs) (k:Nat) (s:List UInt8):Except Nat Nat :=
 match qAi d.l k with
 | none=>.error 6
 | some e=>match qAy s with
  | none=>.error 5
  | some _=>match qAI e.f s with
   | none=>.error 6
   | some n=>.ok n
def qKl (p:Nat→Addr):Except Nat Nat→Array Value
 | .ok n=>#[.int .i64 n,.nilIface]
 | .error cd=>#[.int .i64 0,qAB p cd]
theorem qFW {p:Nat→Addr} (h:DirsAt w c b d) (k:Nat) (hk:k≤1000000) (s:List UInt8) (hs:s.length≤4000000) (hE:Errs w p) (hm:∃ m,w.cell? ⟨10,0,none⟩=some (.int .i64 m)) {e:Ent} (he:qAi d.l k=some e) :
  Calls Tryz.prog 95 #[.pointer (some ⟨b,0,none⟩),.int .i64 k,.string ⟨s.toArray⟩] w fun ev w'=>ev=.returned (.tuple (qKl p (qCi d k s)))∧Below w.heap.size w w':=by
 obtain ⟨bt,bm,nd,fm,h⟩:=h
 obtain ⟨k',d',e',ks,A,cap,hn,hnd,hnp⟩:=h.ent he
 have HRR:=Hh (show qCi d k s=match qAy s with | none=>.error 5 | some _=>match qAI e.f s with | none=>.error 6 | some n=>.ok n by unfold qCi;rw [he])
 generalize qCi d k s=res at HRR ⊢
 have hlk:=h.lookOk hk he
 rw [hnd] at hlk
 simp only [zE,zi] at hlk
 have c1:=ce1 h.own
 have hb1:Below w.heap.size w (w.alloc (.cells #[.string ⟨k'.toArray⟩,.string ⟨d'.toArray⟩,.bool e',.slice A ks.length cap,.map (some (fm k))] 134)):=(zB _ w).alloc (zq _) _
 have HX:=Hh (zK1 w (.cells #[.string ⟨k'.toArray⟩,.string ⟨d'.toArray⟩,.bool e',.slice A ks.length cap,.map (some (fm k))] 134))
 have HB1:=Hh hb1
 have HSP:=Hh (qIU s hs (w.alloc (.cells #[.string ⟨k'.toArray⟩,.string ⟨d'.toArray⟩,.bool e',.slice A ks.length cap,.map (some (fm k))] 134)) (hE.later hb1) (by
  obtain ⟨m,hm⟩:=hm
  exact ⟨m,(hb1.cell (p:=⟨10,0,none⟩) (lt_of_cell hm)).trans hm⟩))
 have HE:=Hh hE
 have HF:=Hh (h.files k e he)
 clear h he hE hnd hn hnp hb1 hm
 go_enter Tryz.func95,Tryz.ntmps95
 go_upto_region 4 with fail
 clear hlk c1
 generalize w.alloc (.cells #[.string ⟨k'.toArray⟩,.string ⟨d'.toArray⟩,.bool e',.slice A ks.length cap,.map (some (fm k))] 134)=w2 at *
 cases hsp:qAy s with
 | none =>
  rw [hsp] at HSP HRR
  have HR:=Hh (show res=.error 5 from HRR.out)
  have HEO:=Hh (qAc p (c:=5) (by decide))
  clear hsp HRR
  go_upto_region 5 with (go_at_call 154;refine HSP.out.mono ?_;rintro ev w3 ⟨hb3,rfl⟩;have HB3:=Hh (HB1.out.trans (hb3.mono HB1.out.size));clear hb3)
  rw [HEO.out]
  go_wp2_with fail
  go_ret2
  refine ⟨?_,HB3.out⟩
  rw [HR.out]
  show _=Ending.returned (.tuple #[.int .i64 0,qAB p 5])
  rw [qAc p (by decide)]
  rfl
 | some l =>
  rw [hsp] at HSP HRR
  clear hsp
  go_upto_region 7 with (go_at_call 154;refine HSP.out.mono ?_;rintro ev w3 ⟨hb3,A3,c3,rfl,hst⟩;have HB3:=Hh (HB1.out.trans (hb3.mono HB1.out.size));have HX3:=Hh ((hb3.block _ (qAa HX.out)).trans HX.out);clear hb3 hst)
  have q4:=ce4 HX3.out
  have hlk:=(HF.out.ext (c:=fun _=>Col.free) (S:=S0) (Ext.of_below HB3.out _ S0) rfl rfl).getOk (t:=132) okS Tryz.underlying132 (qHJ w3) (i:=s) (by unfold maxLen;omega)
  simp only [mkS,fileAt] at hlk
  cases hna:qAI e.f s with
  | none =>
   rw [hna] at hlk HRR
   simp only [Option.map_none,Option.getD_none,Option.isSome_none] at hlk
   have HR:=Hh (show res=.error 6 from HRR.out)
   have hg:=(HE.out.later HB3.out).cell 6 (by omega) (by omega)
   rw [qAc p (by omega)] at hg
   have hg6:w3.cell? ⟨7,0,none⟩=some (.iface 377 (.pointer (some (p 6)))):=hg
   clear hna HRR hg
   go_upto_region 9 with fail
   go_region
   go_wp2
   go_ret2
   refine ⟨?_,HB3.out.drew⟩
   rw [HR.out]
   show _=Ending.returned (.tuple #[.int .i64 0,qAB p 6])
   rw [qAc p (by decide)]
   rfl
  | some n =>
   rw [hna] at hlk HRR
   simp only [zA1,zy,Option.isSome_some] at hlk
   have HR:=Hh (show res=.ok n from HRR.out)
   clear hna HRR
   go_wp2_with fail
   go_ret2
   refine ⟨?_,HB3.out⟩
   rw [HR.out]
   rfl
end
def qD2 (T:Tab) (a b:Nat) (x y:Ino):Except Nat Bool :=
 match T.read a with
 | .error cd=>.error cd
 | .ok s=>match T.read b with
  | .error cd=>.error cd
  | .ok r=>.ok (s==r&&x.exec==y.exec)
def qPR (p:Nat→Addr):Except Nat Bool→Array Value
 | .ok r=>#[.bool r,.nilIface]
 | .error cd=>#[.bool false,qAB p cd]
section
variable {w:World} {c:Nat→Col} {b:Nat} {d:Stl.Dirs} {p:Nat→Addr}
theorem qLC (h:DirsAt w c b d) (hd:DirsGood d) (m n:Nat) (hm:m≤1000000) (hn:n≤1000000) {x y:Ino} (hx:d.t.at_ m=some x) (hy:d.t.at_ n=some y) (hE:Errs w p) :
  Calls Tryz.prog 223 #[.pointer (some ⟨b,0,none⟩),.int .i64 m,.int .i64 n] w fun ev w'=>ev=.returned (.tuple (qPR p (qD2 d.t m n x y)))∧Below w.heap.size w w':=by
 obtain ⟨bt,bm,nd,fm,h⟩:=h
 obtain ⟨res,hres⟩:∃ res,res=qD2 d.t m n x y:=⟨_,rfl⟩
 rw [← hres]
 have HR:=Hh hres
 have c0:=ce0 h.own
 have hbl:=lt_of_cell c0
 have HD:=Hh hd
 have HT:=Hh h.tab
 have HE:=Hh hE
 have HXM:=Hh hx
 have HYM:=Hh hy
 have HR1:=Hh (qBX h.tab hd.ok.tab hd.disk m hm hE)
 clear h hd hx hy hE hres
 have HC0:=Hh c0
 go_enter Tryz.func223,Tryz.ntmps223
 cases hra:d.t.read m with
 | error cd =>
  rw [hra,show qDw p (.error cd)=#[.string ⟨#[]⟩,qAB p cd] from rfl,qAc p (qC7 hra)] at HR1
  have HEO:=Hh (qAc p (qC7 hra))
  have HRS:=Hh (show res=.error cd by rw [HR.out];unfold qD2;rw [hra])
  clear hra
  go_wp2_with (go_at_call 143;refine HR1.out.mono ?_;rintro ev w2 ⟨rfl,hb2⟩;have HB2:=Hh hb2;clear hb2)
  go_ret2
  refine ⟨?_,HB2.out⟩
  rw [HRS.out]
  show _=Ending.returned (.tuple #[.bool false,qAB p cd])
  rw [HEO.out]
  rfl
 | ok s =>
  rw [hra,show qDw p (.ok s)=#[.string ⟨s.toArray⟩,.nilIface] from rfl] at HR1
  go_upto_region 4 with (go_at_call 143;refine HR1.out.mono ?_;rintro ev w2 ⟨rfl,hb2⟩;have HB2:=Hh hb2;clear hb2)
  have c0:w2.cell? ⟨b,0,none⟩=some (.pointer (some ⟨bt,0,none⟩)):=(HB2.out.cell (p:=⟨b,0,none⟩) hbl).trans HC0.out
  have HR2:=Hh (qBX (HT.out.below HB2.out) HD.out.ok.tab HD.out.disk n hn (HE.out.later HB2.out))
  cases hrb:d.t.read n with
  | error cd =>
   rw [hrb,show qDw p (.error cd)=#[.string ⟨#[]⟩,qAB p cd] from rfl,qAc p (qC7 hrb)] at HR2
   have HEO:=Hh (qAc p (qC7 hrb))
   have HRS:=Hh (show res=.error cd by rw [HR.out];unfold qD2;rw [hra];simp only [hrb])
   clear hra hrb
   go_wp2_with (go_at_call 143;refine HR2.out.mono ?_;rintro ev w3 ⟨rfl,hb3⟩;have HB3:=Hh (HB2.out.trans (hb3.mono HB2.out.size));clear hb3)
   go_ret2
   refine ⟨?_,HB3.out⟩
   rw [HRS.out]
   show _=Ending.returned (.tuple #[.bool false,qAB p cd])
   rw [HEO.out]
   rfl
  | ok r =>
   rw [hrb,show qDw p (.ok r)=#[.string ⟨r.toArray⟩,.nilIface] from rfl] at HR2
   have HRS:=Hh (show res=.ok (s==r&&x.exec==y.exec) by rw [HR.out];unfold qD2;rw [hra];simp only [hrb])
   clear hra hrb
   go_upto_region 7 with (go_at_call 143;refine HR2.out.mono ?_;rintro ev w3 ⟨rfl,hb3⟩;have HB3:=Hh (HB2.out.trans (hb3.mono HB2.out.size));clear hb3)
   clear c0
   have c0:w3.cell? ⟨b,0,none⟩=some (.pointer (some ⟨bt,0,none⟩)):=(HB3.out.cell (p:=⟨b,0,none⟩) hbl).trans HC0.out
   have HS1:=Hh (qBS (HT.out.below HB3.out) HD.out.ok.tab m hm HXM.out)
   simp only [qFw,qAz] at HS1
   go_upto_region 8 with (go_at_call 54;refine HS1.out.mono ?_;rintro ev w4 ⟨A1,cap1,rfl,hr4,hb4⟩;have HB4:=Hh (HB3.out.trans (hb4.mono HB3.out.size));clear hb4 hr4)
   have hb5:Below w4.heap.size w4 (w4.alloc (.cells #[.int .i64 x.bytes,.int .i64 x.links,.bool x.exec,.slice A1 x.blocks.length cap1,.int .u32 x.sum.toNat] 71)):=(zB _ w4).alloc (zq _) _
   have HB5:=Hh (HB4.out.trans (hb5.mono HB4.out.size))
   have HX5:=Hh (zK1 w4 (.cells #[.int .i64 x.bytes,.int .i64 x.links,.bool x.exec,.slice A1 x.blocks.length cap1,.int .u32 x.sum.toNat] 71))
   clear c0 hb5
   generalize w4.alloc (.cells #[.int .i64 x.bytes,.int .i64 x.links,.bool x.exec,.slice A1 x.blocks.length cap1,.int .u32 x.sum.toNat] 71)=w5 at *
   have c0:w5.cell? ⟨b,0,none⟩=some (.pointer (some ⟨bt,0,none⟩)):=(HB5.out.cell (p:=⟨b,0,none⟩) hbl).trans HC0.out
   have HS2:=Hh (qBS (HT.out.below HB5.out) HD.out.ok.tab n hn HYM.out)
   simp only [qFw,qAz] at HS2
   go_upto_region 9 with (go_at_call 54;refine HS2.out.mono ?_;rintro ev w6 ⟨A2,cap2,rfl,hr6,hb6⟩;have HB6:=Hh (HB5.out.trans (hb6.mono HB5.out.size));have HX6:=Hh ((hb6.block _ (qAa HX5.out)).trans HX5.out);clear hb6 hr6)
   have hb7:Below w6.heap.size w6 (w6.alloc (.cells #[.int .i64 y.bytes,.int .i64 y.links,.bool y.exec,.slice A2 y.blocks.length cap2,.int .u32 y.sum.toNat] 71)):=(zB _ w6).alloc (zq _) _
   have HB7:=Hh (HB6.out.trans (hb7.mono HB6.out.size))
   have HY7:=Hh (zK1 w6 (.cells #[.int .i64 y.bytes,.int .i64 y.links,.bool y.exec,.slice A2 y.blocks.length cap2,.int .u32 y.sum.toNat] 71))
   have HX7:=Hh ((hb7.block _ (qAa HX6.out)).trans HX6.out)
   clear c0 hb7
   generalize w6.alloc (.cells #[.int .i64 y.bytes,.int .i64 y.links,.bool y.exec,.slice A2 y.blocks.length cap2,.int .u32 y.sum.toNat] 71)=w7 at *
   have x2:=ce2 HX7.out
   have y2:=ce2 HY7.out
   generalize x.exec=xe at x2 HRS
   generalize y.exec=ye at y2 HRS
   cases hq:s==r with
   | false =>
    rw [hq] at HRS
    go_wp2_with fail
    go_ret2
    exact ⟨by rw [HRS.out];rfl,HB7.out⟩
   | true =>
    rw [hq] at HRS
    cases xe<;>cases ye
    all_goals
     go_wp2_with fail
     go_ret2
     exact ⟨by rw [HRS.out];rfl,HB7.out⟩
end
end Go.Proofs.YtceklhjomhjipaaGreatDoor
namespace Stl
def qEm (l:List Bytes):Bytes:=l.flatMap fun nm=>47::nm
theorem qNv {ks:List (Bytes×Nd)} (hr:(ks.map (·.1)).Pairwise (·<·)) {nm:Bytes} {x:Nd} (h:(nm,x)∈ks):qEz ks nm=some x:=by
 induction ks with
 | nil=>cases h
 | cons q r ih =>
  obtain ⟨a,y⟩:=q
  simp only [zV,zj] at hr
  unfold qEz
  rcases zY.1 h with e | e
  ·cases e
   rw [zM1 rfl]
  ·have:a<nm:=hr.1 nm (ze.2 ⟨_,e,rfl⟩)
   rw [zL1 (fun e=>by subst e;exact List.lt_irrefl _ this)]
   exact ih hr.2 e
def qQf (n:Nd) (path:Bytes) (deep:Nat) (x:It):Prop:=∃ nms:List Bytes,x.path=path++qEm nms∧qA2 n nms=some x.n∧nms.all isName=true∧deep+nms.length≤8
mutual
theorem qNu:∀ (n:Nd) (path:Bytes) (deep c:Nat),(chk ownErr n deep c).1=0→∀ x∈flat n path deep,qQf n path deep x
 | .mk k d e ks,path,deep,c,h=>by
  rw [chk] at h
  split at h
  ·cases h
  ·rename_i h1
   split at h
   ·cases h
   ·split at h
    ·rename_i h3
     have hks:=qD1 h3
     simp only [flat,zY]
     rintro x (rfl | hx)
     ·exact ⟨[],by simp [qEm],rfl,rfl,by simp only [List.length_nil];omega⟩
     ·obtain ⟨nm,y,hm,nms,q1,q2,q3,q4⟩:=qKj ks path (deep+1) (c+1) h x hx
      refine ⟨nm::nms,by rw [q1];simp [qEm],?_,?_,by simp only [zQ];omega⟩
      ·unfold qA2
       have hk2:qEz (Nd.mk k d e ks).kids nm=some y:=qNv (ks:=ks) hks.2 hm
       rw [hk2]
       exact q2
      ·rw [List.all_cons,zC]
       exact ⟨hks.1 _ hm,q3⟩
    ·rename_i h3
     exact absurd h h3
theorem qKj:∀ (l:List (Bytes×Nd)) (path:Bytes) (deep c:Nat),(chkL ownErr l deep c).1=0→∀ x∈flatL l path deep,∃ nm y,(nm,y)∈l∧∃ nms:List Bytes,x.path=path++47::(nm++qEm nms)∧qA2 y nms=some x.n∧nms.all isName=true∧deep+nms.length≤8
 | [],path,deep,c,_,x,hx=>by simp [flatL] at hx
 | (nm,y)::r,path,deep,c,h,x,hx=>by
  rw [chkL] at h
  split at h
  ·rename_i h1
   simp only [flatL,zX] at hx
   rcases hx with hx | hx
   ·obtain ⟨nms,q1,q2,q3,q4⟩:=qNu y (path++47::nm) deep c h1 x hx
    exact ⟨nm,y,by simp,nms,by rw [q1];simp,q2,q3,q4⟩
   ·obtain ⟨nm2,z,hm,q⟩:=qKj r path deep _ h x hx
    exact ⟨nm2,z,by simp [hm],q⟩
  ·rename_i h1
   exact absurd h h1
end
theorem qEv:∀ {s:Bytes},47∉s→qAk 47 s=[s]
 | [],_=>rfl
 | c::r,h=>by
  have h1:c≠47:=fun e=>h (by simp [e])
  have h2:=qEv (s:=r) (fun e=>h (by simp [e]))
  unfold qAk
  rw [zL1 h1,h2]
theorem qFe:∀ {s:Bytes} (r:Bytes),47∉s→qAk 47 (s++47::r)=s::qAk 47 r
 | [],r,_=>by simp [qAk]
 | c::s,r,h=>by
  have h1:c≠47:=fun e=>h (by simp [e])
  have h2:=qFe (s:=s) r (fun e=>h (by simp [e]))
  rw [zE]
  conv=>lhs;unfold qAk
  rw [zL1 h1,h2]
theorem qFp:∀ {l:List Bytes} {s:Bytes},47∉s→(∀ nm∈l,47∉nm)→qAk 47 (s++qEm l)=s::l
 | [],s,hs,_=>by simp [qEm,qEv hs]
 | nm::l,s,hs,h=>by
  have e:s++qEm (nm::l)=s++47::(nm++qEm l):=by simp [qEm]
  rw [e,qFe _ hs,qFp (h nm (by simp)) (fun a ha=>h a (by simp [ha]))]
theorem qM0 {l:List Bytes} (h:l.all isName=true) (h8:l.length≤8):qAy (told (qEm l))=some l:=by
 unfold told
 cases l with
 | nil=>rfl
 | cons nm r =>
  have hne:qEm (nm::r)≠[]:=by simp [qEm]
  rw [zL1 hne]
  have hn:nm≠[]:=by
   rintro rfl
   simp only [List.all_cons,zC] at h
   exact absurd h.1 (by decide)
  unfold qAy
  have h1:qEm (nm::r)≠[47]:=by
   intro e
   apply hn
   simp only [qEm,List.flatMap_cons,zE,zD,List.append_eq_nil_iff,true_and] at e
   exact e.1
  rw [zL1 h1]
  have h2:=qFp (l:=nm::r) (s:=[]) (by simp) (fun a ha=>qCF (List.all_eq_true.1 h a ha))
  rw [zi] at h2
  rw [h2]
  simp only
  rw [zL1]
  rintro (h3 | h3 | h3)
  ·cases h3
  ·omega
  ·rw [h] at h3
   cases h3
theorem qKG {n:Nd} (h:treeErr n=0) {x:It} (hx:x∈items n):getPath n (told x.path)=.ok x.n:=by
 unfold items at hx
 rw [zM1 h] at hx
 obtain ⟨nms,q1,q2,q3,q4⟩:=qNu n [] 0 0 h x hx
 rw [zi] at q1
 unfold getPath
 rw [zL1 (by simp [h]),q1,qM0 q3 (by omega)]
 simp only
 rw [q2]
end Stl
namespace Go.Proofs.YtceklhjomhjipaaGreatDoor
open Go.RowKit Go.Sort Go.Shelf Stl
theorem qMt (v0 v1 v2 v3 v4:Value) (w:World):(Instr.field 134 (.agg #[v0,v1,v2,v3,v4]) 1).run Tryz.prog w=.ok v4 w:=by kernel_rfl
theorem qLK {n:Nd} (h:treeErr n=0) {s:List UInt8} (hs:s∈qAv n):∃ l,qAy s=some l:=by
 unfold qAv at hs
 obtain ⟨x,hx,rfl⟩:=ze.1 hs
 have:=qKG h (zZ.1 hx).1
 unfold getPath at this
 rw [zL1 (by simp [h])] at this
 cases hl:qAy (told x.path) with
 | none=>rw [hl] at this;cases this
 | some l=>exact ⟨l,rfl⟩
theorem qBr:∀ {f:List (List UInt8×Nat)} {s:List UInt8} {n:Nat},(f.map (·.1)).Nodup→(s,n)∈f→qAI f s=some n
 | [],_,_,_,h=>by cases h
 | (a,m)::r,s,n,hn,h=>by
  obtain ⟨h1,h2⟩:=List.nodup_cons.1 hn
  rw [qBp]
  rcases zY.1 h with e | e
  ·cases e;rw [zM1 rfl]
  ·rw [zL1 (fun (e2:a=s)=>h1 (by rw [e2];exact ze.2 ⟨_,e,rfl⟩))]
   exact qBr h2 e
theorem qF1 {d:Stl.Dirs} (hd:qAN d) {e:Ent} (he:e∈d.l) {s:List UInt8} {m:Nat} (hf:(s,m)∈e.f):qAI e.f s=some m∧(∃ l,qAy s=some l)∧s.length≤1000000:=by
 have hent:=qAt hd.keys he
 refine ⟨qBr (qIo hd hent) hf,qLK (hd.well e he) ?_,qFM hd hent _ hf⟩
 rw [← hd.files e he]
 exact ze.2 ⟨_,hf,rfl⟩
section
variable {w:World} {c:Nat→Col} {b:Nat} {d:Stl.Dirs} {p:Nat→Addr}
theorem DirsIn.look {bt bm:Nat} {nd:Nat→List Value} {fm:Nat→Nat} (h:DirsIn w c b d bt bm nd fm) {k:Nat} (hk:k≤1000000) {e:Ent} (he:qAi d.l k=some e) :
  (Instr.lookup 87 (.map (some bm)) (.int .i64 k) false).run Tryz.prog w=.ok (.agg (nd k++[Value.map (some (fm k))]).toArray) w:=by
 have hlk:=h.map.get (t:=87) okN Tryz.underlying87 (qJH w) (i:=k) (by omega)
 have hs:qA3 d.l nd fm k=some (.agg (nd k++[Value.map (some (fm k))]).toArray):=by unfold qA3;rw [he];rfl
 rw [hs] at hlk
 simpa only [zy,mkN] using hlk
theorem qOl (h:DirsAt w c b d) (hd:DirsGood d) (hE:Env w c p) {e:Ent} (he:e∈d.l) (hk:e.k≤1000000) {s:List UInt8} {was n:Nat} {t1 t2:Tab} (hf:(s,was)∈e.f) (hl:d.t.lesser was=some n) (h1:d.t.link n=.ok t1) (h2:t1.unlink was=.ok t2) :
  Calls Tryz.prog 173 #[.pointer (some ⟨b,0,none⟩),.int .i64 e.k,.string ⟨s.toArray⟩,.int .i64 n] w fun ev w'=>ev=.returned .nilIface∧∃ c2,Ext w w' c c2 qFt∧DirsAt w' c2 b { d with t:=t2,l:=qAM d.l e.k s n }:=by
 have hent:=qAt hd.ok.keys he
 obtain ⟨hna,⟨ls,hsp⟩,hsl⟩:=qF1 hd.ok he hf
 obtain ⟨hlt,dat,hrw,hrn,hex⟩:=qDW hl
 obtain ⟨y,hy,ht1⟩:=qCr h1
 obtain ⟨x1,hx1,ht2⟩:=qBN h2
 have hxw:∃ x,d.t.at_ was=some x∧x1=x:=by
  have:=qEW hy h1 was
  rw [zL1 (by omega),hx1] at this
  exact ⟨x1,this.symm,rfl⟩
 obtain ⟨x,hx,rfl⟩:=hxw
 have hsm:=hd.small hent _ hf
 simp only at hsm
 have hnl:n≤1000000:=by omega
 have hlx:=qEG hd.ok hx
 have hly:=qEG hd.ok hy
 have hents:=hd.ents
 have hfew:=qCp hd.ok he
 have hex':(x1.exec==y.exec)=true:=by
  rw [hx,hy] at hex
  simp at hex
  simp [hex]
 have HIN:=Hh (qFW h e.k hk s (by omega) hE.errs hE.max hent)
 rw [show qCi d e.k s=.ok was by unfold qCi;rw [hent];simp only [hsp,hna],show qKl p (.ok was)=#[.int .i64 was,.nilIface] from rfl] at HIN
 have HDA:=Hh h
 obtain ⟨bt,bm,nd,fm,h⟩:=h
 have HDI:=Hh h
 have hbl:=qAa h.own
 have HD:=Hh hd
 have HE:=Hh hE.errs
 have HX:=Hh hx
 have HY:=Hh hy
 have HEN:=Hh hent
 have HNA:=Hh hna
 have HTT:=Hh ht2
 have HT1:=Hh ht1
 have HOK1:=Hh (qMj hd.ok.tab h1)
 have HX1:=Hh hx1
 have HDK:=Hh (show t1.disk.length≤1000000 by rw [ht1];exact hd.disk)
 have HAL:=Hh (show qD2 d.t was n x1 y=.ok true by
  unfold qD2
  rw [hrw]
  simp only [hrn,hex']
  simp)
 have i1:¬ (was:Int)=(n:Int):=by omega
 clear h hd hE he hf hl h1 h2 hent hna hsp hrw hrn hex hy ht1 hx1 ht2 hx hex' hlt
 go_enter Tryz.func173,Tryz.ntmps173
 go_upto_region 4 with (go_at_call 95;refine HIN.out.mono ?_;rintro ev w1 ⟨rfl,hb1⟩;have HB1:=Hh hb1;clear hb1)
 have c0:w1.cell? ⟨b,0,none⟩=some (.pointer (some ⟨bt,0,none⟩)):=(HB1.out.cell (p:=⟨b,0,none⟩) hbl).trans (zJ1 w b 0 _ _ _ HDI.out.own)
 have HS1:=Hh (qBS (HDI.out.tab.below HB1.out) HD.out.ok.tab n hnl HY.out)
 simp only [qFw,qAz] at HS1
 go_upto_region 5 with (go_at_call 54;refine HS1.out.mono ?_;rintro ev w2 ⟨A1,cap1,rfl,hr2,hb2⟩;have HB2:=Hh (HB1.out.trans (hb2.mono HB1.out.size));clear hb2 hr2)
 have hb3:Below w2.heap.size w2 (w2.alloc (.cells #[.int .i64 y.bytes,.int .i64 y.links,.bool y.exec,.slice A1 y.blocks.length cap1,.int .u32 y.sum.toNat] 71)):=(zB _ w2).alloc (zq _) _
 have HB3:=Hh (HB2.out.trans (hb3.mono HB2.out.size))
 clear c0 hb3
 generalize w2.alloc (.cells #[.int .i64 y.bytes,.int .i64 y.links,.bool y.exec,.slice A1 y.blocks.length cap1,.int .u32 y.sum.toNat] 71)=w3 at *
 have HA4:=Hh (qLC (HDA.out.below HB3.out) HD.out was n hsm hnl HX.out HY.out (HE.out.later HB3.out))
 rw [HAL.out,show qPR p (.ok true)=#[.bool true,.nilIface] from rfl] at HA4
 go_upto_region 14 with (go_at_call 223;refine HA4.out.mono ?_;rintro ev w4 ⟨rfl,hb4⟩;have HB4:=Hh (HB3.out.trans (hb4.mono HB3.out.size));clear hb4)
 have HI4:=Hh (HDI.out.below HB4.out)
 have c0:=ce0 HI4.out.own
 have HL5:=Hh (qOJ HI4.out.tab n hnl HY.out (by omega))
 go_upto_region 17 with (go_at_call 224;refine HL5.out.mono ?_;rintro ev w5 ⟨rfl,he5,ht5⟩;have HE5:=Hh he5;have HT5:=Hh ht5;clear he5 ht5)
 rw [← HT1.out] at HT5
 have HBU5:=Hh (HI4.out.but.ext HE5.out rfl rfl rfl (fun _=>rfl))
 clear c0
 have c1:=ce1 HBU5.out.own
 have hlk:=(HBU5.out.full HT5.out).look hk HEN.out
 have hf1:=qMt
 obtain ⟨k',d',e',ks,A,cap,hn,hnd,hnp⟩:=(HBU5.out.full HT5.out).ent HEN.out
 rw [hnd] at hlk
 simp only [zE,zi] at hlk
 have HFM:=Hh (HBU5.out.files _ _ HEN.out)
 have HFC:=Hh (HBU5.out.fcol _ _ HEN.out)
 clear hn hnd hnp
 go_upto_region 18 with (at_mapUpdate;refine qBf rfl _ _ _ 132 3 rfl okS Tryz.underlying132 rfl HFM.out (by unfold maxLen;omega) s (by unfold maxLen;omega) rfl (.int .i64 n) rfl ?_;intro W6 hmap6 hturn6;have HMP6:=Hh hmap6;have HTN6:=Hh (Ext.turned hturn6 HFC.out);clear hmap6 hturn6)
 have HBU6:=Hh (HBU5.out.share HEN.out n (by rw [HNA.out];rfl) HMP6.out HTN6.out)
 have HT6:=Hh (HT5.out.ext HTN6.out rfl (fun x hx=>qBm (by intro e;subst e;cases hx)))
 clear c1 hlk
 have c0:=ce0 HBU6.out.own
 have HU7:=Hh (qG8 HT6.out HOK1.out HDK.out was hsm HX1.out (by omega))
 go_wp2_with (go_at_call 119;refine HU7.out.mono ?_;rintro ev w7 ⟨rfl,c7,he7,ht7⟩)
 go_ret
 refine ⟨rfl,c7,?_,bt,bm,nd,fm,?_⟩
 ·refine (((Ext.of_below HB4.out c qFt).then HE5.out (qAE rfl)).then HTN6.out (qAE rfl)).then he7 (fun x hx=>by cases x<;>first | rfl | (cases hx))
 ·rw [HTT.out]
  exact (HBU6.out.ext he7 rfl rfl rfl (fun _=>rfl)).full ht7
end
end Go.Proofs.YtceklhjomhjipaaGreatDoor
