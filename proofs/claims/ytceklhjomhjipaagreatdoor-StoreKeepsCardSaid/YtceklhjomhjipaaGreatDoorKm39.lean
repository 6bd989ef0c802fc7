/- Texts of this claim, merged: Read. -/
import Derived.Test.YtceklhjomhjipaaGreatDoorKm38
set_option maxHeartbeats 16000000
set_option maxRecDepth 1000000
set_option linter.all false
namespace Go.Proofs.YtceklhjomhjipaaGreatDoor
open Go.RowKit Go.Sort Go.Shelf Stl
def qNj (p:Nat→Addr) (r base:Nat) (x:Stl.Rd Nd) (ev:Ending) (w':World):Prop :=
 ∃ (a0 a1:ByteArray) (a2:Bool) (A:Option Addr) (m cp:Nat) (er:Value),ev=.returned (.tuple #[.agg #[.string a0,.string a1,.bool a2,.slice A m cp],er]) ∧
  match x with
  | .error c=>er=qAB p c∧c≠0
  | .ok (nd,s,n)=>er=.nilIface∧RdAt w' r s n∧NodeP (fun b=>base≤b) w' nd [.string a0,.string a1,.bool a2,.slice A m cp]
def qJi (p:Nat→Addr) (f:Nat):Prop:=∀ deep,f+deep=9→∀ (r:Nat) (s:List UInt8) (n:Nat) (w:World),RdAt w r s n→RdEnv w r p→s.length≤20000→n≤200 →
 Calls Tryz.prog 124 #[.pointer (some ⟨r,0,none⟩),.int .i64 deep] w fun ev w'=>Ext w w' (RC r) (RC r) (S1 .tape)∧qNj p r w.heap.size (qAL f s n) ev w'
def qCo (f:Nat) (s:List UInt8) (n:Nat):Stl.Rd Nd :=
 match qAW s with
 | none=>.error 1
 | some (k,r1)=>match qA9 (qAL f) k r1 n with
  | .error e=>.error e
  | .ok (l,s2,n2)=>.ok (.mk kDir [] false l,s2,n2)
theorem qJL {P:Nat→Prop} {w:World} {k d:List UInt8} {e:Bool} {ks:List (List UInt8×Nd)} {A:Option Addr} {cap base:Nat} {xs:List Value} (hk:k.length≤140737488355328) (hd:d.length≤140737488355328) (hl:ks.length≤1759218604441)
  (hown:w.ownsRow base 161 5 (.slice A ks.length cap) ks.length xs) (hkc:KidsCells P w ks xs) (hP:∀ g,(Value.slice A ks.length cap).ownBlock=some g→P g):NodeP P w (.mk k d e ks) [.string ⟨k.toArray⟩,.string ⟨d.toArray⟩,.bool e,.slice A ks.length cap]:=by
 unfold NodeP
 have hlt:=hown.lt
 have hce:=fun g hg=>hown.cells (g:=g) hg
 have hcap:ks.length≤cap:=by
  rcases hown.2 with ⟨h1,h2⟩ | ⟨g,cp,cur,h1,_,_,h4,_⟩
  ·injection h1 with _ h1 h3
   omega
  ·injection h1 with _ _ h3
   omega
 refine ⟨A,cap,rfl,⟨hcap,hl,hk,hd⟩,fun hn=>?_⟩
 rcases hown.2 with ⟨h1,h2⟩ | ⟨g,cp,cur,h1,_⟩
 ·exact absurd (zR.1 h2) hn
 ·injection h1 with h1 _ _
  subst h1
  refine ⟨g,0,rfl,⟨(hlt g rfl).2,hP g rfl⟩,qCm ks xs 0 hkc fun j u hu=>?_⟩
  have h:=hce g rfl j u hu
  have e1:(⟨g,0,none⟩:Addr).add j=⟨g,0+j,none⟩:=by unfold Addr.add;split<;>simp_all
  rw [e1] at h
  exact h
theorem qKN {r:Nat} {w w':World} (e:Ext w w' (RC r) (RC r) (S1 .tape)):w.grownBy w' (some r) :=
 ⟨e.os,e.tape,e.output,e.size,fun i hi hne=>(e.keep i hi (by rw [qAR (fun h=>hne (by rw [h]))];rfl)).1⟩
theorem qGe {w:World} {base:Nat} {e:TypeId} {size:Nat} {v:Value} {n:Nat} {xs:List Value} (h:w.ownsRow base e size v n xs) {b:Nat} (hb:b<base):v.ownBlock≠some b:=fun e=>by
 have:=(h.lt b e).1
 omega
theorem qAV {w:World} {b j:Nat} {u:Value}:w.grownBy (w.setCell ⟨b,j,none⟩ u) (some b) :=
 ⟨rfl,rfl,rfl,by simp [World.setCell],fun i _ hne=>zA _ ⟨b,j,none⟩ _ i (fun h=>hne (by rw [h]))⟩
structure qQ6 (f k:Nat) (s1:List UInt8) (n1 r:Nat) (w wr:World) (j:Nat) (l:List (List UInt8×Nd)) (sj:List UInt8) (nj:Nat) (A:Option Addr) (cap:Nat) (xs:List Value):Prop where
 ext:Ext w wr (RC r) (RC r) (S1 .tape)
 zero:wr.heap[w.heap.size]?=some (.cells #[.string ⟨#[]⟩,.string ⟨#[]⟩,.bool false,.slice none 0 0] 114 (0,0))
 own:wr.heap[w.heap.size+1]?=some (.cells #[.string ⟨#[100,105,114]⟩,.string ⟨#[]⟩,.bool false,.slice A l.length cap] 114 (0,0))
 rd:RdAt wr r sj nj
 row:wr.ownsRow (w.heap.size+2) 161 5 (.slice A l.length cap) l.length xs
 kids:KidsCells (fun b=>w.heap.size+2≤b∧some b≠(Value.slice A l.length cap).ownBlock) wr l xs
 len:l.length=j
 res:qA9 (qAL f) k s1 n1=qN8 l (qA9 (qAL f) (k-j) sj nj)
 sl:sj.length≤20000
 nl:nj≤200
section
variable {p:Nat→Addr}
theorem qP9 {f:Nat} (IH:qJi p f) (deep:Nat) (hdp:f+1+deep=9) (r:Nat) (s:List UInt8) (n:Nat) (w:World) (hr:RdAt w r s n) (hE:RdEnv w r p) (hs:s.length≤20000) (hn:n≤200) :
  Calls Tryz.prog 185 #[.pointer (some ⟨r,0,none⟩),.int .i64 deep] w fun ev w'=>Ext w w' (RC r) (RC r) (S1 .tape)∧qNj p r w.heap.size (qCo f s n) ev w':=by
 have hrl:r<w.heap.size:=qAa hr
 have HEW:=Hh hE
 have hb1:Below w.heap.size w ((w.alloc (.cells #[.string ⟨#[]⟩,.string ⟨#[]⟩,.bool false,.slice none 0 0] 114)).alloc (.cells #[.string ⟨#[100,105,114]⟩,.string ⟨#[]⟩,.bool false,.slice none 0 0] 114)):=((zB _ w).alloc (zq _) _).alloc (by simp) _
 have HZ1:=Hh (qAj (w.alloc (.cells #[.string ⟨#[]⟩,.string ⟨#[]⟩,.bool false,.slice none 0 0] 114)) (.cells #[.string ⟨#[100,105,114]⟩,.string ⟨#[]⟩,.bool false,.slice none 0 0] 114) (zK1 w (.cells #[.string ⟨#[]⟩,.string ⟨#[]⟩,.bool false,.slice none 0 0] 114)))
 have HD1:=Hh (show ((w.alloc (.cells #[.string ⟨#[]⟩,.string ⟨#[]⟩,.bool false,.slice none 0 0] 114)).alloc (.cells #[.string ⟨#[100,105,114]⟩,.string ⟨#[]⟩,.bool false,.slice none 0 0] 114)).heap[w.heap.size+1]?=some (.cells #[.string ⟨#[100,105,114]⟩,.string ⟨#[]⟩,.bool false,.slice none 0 0] 114 (0,0)) from by
  have:=zK1 (w.alloc (.cells #[.string ⟨#[]⟩,.string ⟨#[]⟩,.bool false,.slice none 0 0] 114)) (.cells #[.string ⟨#[100,105,114]⟩,.string ⟨#[]⟩,.bool false,.slice none 0 0] 114)
  simpa using this)
 have HR1:=Hh (hr.later hb1)
 have HE1:=Hh (qAK (r:=r) hb1)
 have HV1:=Hh (hE.below hb1)
 have hsz1:((w.alloc (.cells #[.string ⟨#[]⟩,.string ⟨#[]⟩,.bool false,.slice none 0 0] 114)).alloc (.cells #[.string ⟨#[100,105,114]⟩,.string ⟨#[]⟩,.bool false,.slice none 0 0] 114)).heap.size=w.heap.size+2:=by simp
 have HIH:=Hh IH
 clear hr hE hb1 IH
 go_enter Tryz.func185,Tryz.ntmps185
 go_upto_region 2 with fail
 generalize (w.alloc (.cells #[.string ⟨#[]⟩,.string ⟨#[]⟩,.bool false,.slice none 0 0] 114)).alloc (.cells #[.string ⟨#[100,105,114]⟩,.string ⟨#[]⟩,.bool false,.slice none 0 0] 114)=w1 at *
 cases hh:qAW s with
 | none =>
  have HX:=Hh (show qCo f s n=.error 1 by unfold qCo;rw [hh])
  have HH:=Hh hh
  clear hh
  go_upto_region 4 with (go_at_call 231;refine (qES HR1.out HV1.out hs).mono ?_;rintro ev w2 ⟨he2,hn2⟩;obtain rfl:=hn2.isNo HH.out;have HE2:=Hh he2;clear he2 hn2)
  have HZ2:=Hh (HE2.out.kept HZ1.out (qAR (by omega)) rfl).1
  have HD2:=Hh (HE2.out.kept HD1.out (qAR (by omega)) rfl).1
  have HE2':=Hh (HE1.out.trans HE2.out)
  have HV2:=Hh (HV1.out.ext HE2.out)
  have z0:=ce0 HZ2.out
  have z1:=ce1 HZ2.out
  have z2:=ce2 HZ2.out
  have z3:=ce3 HZ2.out
  have f0:w2.frozen? ⟨w.heap.size,0,none⟩=false:=qAb HZ2.out 0
  have f1:w2.frozen? ⟨w.heap.size,1,none⟩=false:=qAb HZ2.out 1
  have f2:w2.frozen? ⟨w.heap.size,2,none⟩=false:=qAb HZ2.out 2
  have f3:w2.frozen? ⟨w.heap.size,3,none⟩=false:=qAb HZ2.out 3
  have y0:=ce0 HD2.out
  have y1:=ce1 HD2.out
  have y2:=ce2 HD2.out
  have y3:=ce3 HD2.out
  have hg:w2.cell? ⟨3,0,none⟩=some (.iface 377 (.pointer (some (p 1)))):=HV2.out.errs.cell 1 (by decide) (by decide)
  have hgne:w.heap.size≠3:=by
   have h0:=lt_of_cell (HEW.out.errs.cell 1 (by decide) (by decide))
   simp [qCq] at h0
   omega
  have hgne':3≠w.heap.size:=hgne.symm
  go_region
  have HF:=Hh (show ((((w2.setCell ⟨w.heap.size,0,none⟩ (.string ⟨#[100,105,114]⟩)).setCell ⟨w.heap.size,1,none⟩ (.string ⟨#[]⟩)).setCell ⟨w.heap.size,2,none⟩ (.bool false)).setCell ⟨w.heap.size,3,none⟩ (.slice none 0 0)).drew.heap[w.heap.size]?=some (.cells #[.string ⟨#[100,105,114]⟩,.string ⟨#[]⟩,.bool false,.slice none 0 0] 114 (0,0)) from (qAd (qAd (qAd (qAd HZ2.out 0 (.string ⟨#[100,105,114]⟩)) 1 (.string ⟨#[]⟩)) 2 (.bool false)) 3 (.slice none 0 0)))
  have HEF:=Hh ((((HE2'.out.setCell (a:=⟨w.heap.size,0,none⟩) (fun h=>absurd h (zt w.heap.size)) (.string ⟨#[100,105,114]⟩)).setCell (a:=⟨w.heap.size,1,none⟩) (fun h=>absurd h (zt w.heap.size)) (.string ⟨#[]⟩)).setCell (a:=⟨w.heap.size,2,none⟩) (fun h=>absurd h (zt w.heap.size)) (.bool false)).setCell (a:=⟨w.heap.size,3,none⟩) (fun h=>absurd h (zt w.heap.size)) (.slice none 0 0)).drew
  clear z0 z1 z2 z3 f0 f1 f2 f3 hg hgne hgne' y0 y1 y2 y3
  go_wp2_with fail
  generalize ((((w2.setCell ⟨w.heap.size,0,none⟩ (.string ⟨#[100,105,114]⟩)).setCell ⟨w.heap.size,1,none⟩ (.string ⟨#[]⟩)).setCell ⟨w.heap.size,2,none⟩ (.bool false)).setCell ⟨w.heap.size,3,none⟩ (.slice none 0 0)).drew=w9 at *
  have r0:=ce0 HF.out
  have r1:=ce1 HF.out
  have r2:=ce2 HF.out
  have r3:=ce3 HF.out
  refine zH1 (v:=.tuple #[.agg #[.string ⟨#[100,105,114]⟩,.string ⟨#[]⟩,.bool false,.slice none 0 0],.iface 377 (.pointer (some (p 1)))]) ?_ rfl ⟨HEF.out,?_⟩
  ·simp [results,Tryz.results185,go_sem,r0,r1,r2,r3]
  ·rw [HX.out]
   exact ⟨_,_,_,_,_,_,_,rfl,(qAc p (by decide)).symm,by decide⟩
 | some q =>
  obtain ⟨k,s1⟩:=q
  obtain ⟨d',t',_,_,g3,_,g5,_⟩:=qBK hh
  have hs1:s1.length≤20000:=by rw [g3,List.length_drop];omega
  have HH:=Hh hh
  have HX:=Hh (show qCo f s n=match qA9 (qAL f) k s1 n with | .error e=>.error e | .ok (l,s2,n2)=>.ok (.mk kDir [] false l,s2,n2) by unfold qCo;rw [hh])
  clear hh g3
  go_upto_region 6 with (go_at_call 231;refine (qES HR1.out HV1.out hs).mono ?_;rintro ev w2 ⟨he2,hn2⟩;obtain ⟨rfl,hr2⟩:=hn2.isYes HH.out;have HE2:=Hh he2;have HR2:=Hh hr2;clear he2 hn2 hr2)
  have hsz2:=HE2.out.size
  have H0:=Hh (show qQ6 f k s1 n r w w2 0 [] s1 n none 0 [] from ⟨HE1.out.trans HE2.out,(HE2.out.kept HZ1.out (qAR (by omega)) rfl).1,(HE2.out.kept HD1.out (qAR (by omega)) rfl).1,HR2.out,zF1 _ _ _ _,rfl,rfl,by rw [qOe];rfl,hs1,hn⟩)
  clear hs hn hs1
  go_wp2_with fail
  go_loopw [24] (fun a wr=>∃ (j:Nat) (l:List (List UInt8×Nd)) (sj:List UInt8) (nj:Nat) (A:Option Addr) (cap:Nat) (xs:List Value),j≤k∧a=.int .i64 j∧Hid (qQ6 f k s1 n r w wr j l sj nj A cap xs)) (fun a _=>k-(intOf a).toNat)
  case atStart=>exact ⟨0,[],s1,n,none,0,[],zx _,rfl,H0⟩
  case round =>
  obtain ⟨j,l,sj,nj,A,cap,xs,hjk,rfl,HS⟩:=hrel
  have HVR:=Hh (HEW.out.ext HS.out.ext)
  have hzr:=HS.out.ext.size
  have hlz:w.heap.size+1<wr.heap.size:=qAa HS.out.own
  by_cases hj:j<k
  ·have i1:(j:Int)<(k:Int):=by omega
   have hkj:k-j=(k-(j+1))+1:=by omega
   cases hc:qAl sj with
   | none =>
    have HX2:=Hh (show qCo f s n=.error 1 by
     rw [HX.out,HS.out.res,hkj,qLs hc])
    have HX:=HX2
    have HC:=Hh hc
    clear hc HX2
    go_upto_region 9 with (go_at_call 186;refine (qA7 HS.out.rd HVR.out HS.out.sl).mono ?_;rintro ev w3 ⟨he3,hn3⟩;obtain rfl:=hn3.isNo HC.out;have HE3:=Hh he3;clear he3 hn3)
    have HZ3:=Hh (HE3.out.kept HS.out.zero (qAR (by omega)) rfl).1
    have HD3:=Hh (HE3.out.kept HS.out.own (qAR (by omega)) rfl).1
    have HE3':=Hh (HS.out.ext.trans HE3.out)
    have HV3:=Hh (HVR.out.ext HE3.out)
    have z0:=ce0 HZ3.out
    have z1:=ce1 HZ3.out
    have z2:=ce2 HZ3.out
    have z3:=ce3 HZ3.out
    have f0:w3.frozen? ⟨w.heap.size,0,none⟩=false:=qAb HZ3.out 0
    have f1:w3.frozen? ⟨w.heap.size,1,none⟩=false:=qAb HZ3.out 1
    have f2:w3.frozen? ⟨w.heap.size,2,none⟩=false:=qAb HZ3.out 2
    have f3:w3.frozen? ⟨w.heap.size,3,none⟩=false:=qAb HZ3.out 3
    have y0:=ce0 HD3.out
    have y1:=ce1 HD3.out
    have y2:=ce2 HD3.out
    have y3:=ce3 HD3.out
    have hg:w3.cell? ⟨3,0,none⟩=some (.iface 377 (.pointer (some (p 1)))):=HV3.out.errs.cell 1 (by decide) (by decide)
    have hgne:w.heap.size≠3:=by
     have h0:=lt_of_cell (HEW.out.errs.cell 1 (by decide) (by decide))
     simp [qCq] at h0
     omega
    have hgne':3≠w.heap.size:=hgne.symm
    go_region
    have HF:=Hh (show ((((w3.setCell ⟨w.heap.size,0,none⟩ (.string ⟨#[100,105,114]⟩)).setCell ⟨w.heap.size,1,none⟩ (.string ⟨#[]⟩)).setCell ⟨w.heap.size,2,none⟩ (.bool false)).setCell ⟨w.heap.size,3,none⟩ (.slice A l.length cap)).drew.heap[w.heap.size]?=some (.cells #[.string ⟨#[100,105,114]⟩,.string ⟨#[]⟩,.bool false,.slice A l.length cap] 114 (0,0)) from (qAd (qAd (qAd (qAd HZ3.out 0 (.string ⟨#[100,105,114]⟩)) 1 (.string ⟨#[]⟩)) 2 (.bool false)) 3 (.slice A l.length cap)))
    have HEF:=Hh ((((HE3'.out.setCell (a:=⟨w.heap.size,0,none⟩) (fun h=>absurd h (zt w.heap.size)) (.string ⟨#[100,105,114]⟩)).setCell (a:=⟨w.heap.size,1,none⟩) (fun h=>absurd h (zt w.heap.size)) (.string ⟨#[]⟩)).setCell (a:=⟨w.heap.size,2,none⟩) (fun h=>absurd h (zt w.heap.size)) (.bool false)).setCell (a:=⟨w.heap.size,3,none⟩) (fun h=>absurd h (zt w.heap.size)) (.slice A l.length cap)).drew
    clear z0 z1 z2 z3 f0 f1 f2 f3 hg hgne hgne' y0 y1 y2 y3
    go_wp2_with fail
    generalize ((((w3.setCell ⟨w.heap.size,0,none⟩ (.string ⟨#[100,105,114]⟩)).setCell ⟨w.heap.size,1,none⟩ (.string ⟨#[]⟩)).setCell ⟨w.heap.size,2,none⟩ (.bool false)).setCell ⟨w.heap.size,3,none⟩ (.slice A l.length cap)).drew=w9 at *
    have r0:=ce0 HF.out
    have r1:=ce1 HF.out
    have r2:=ce2 HF.out
    have r3:=ce3 HF.out
    refine zH1 (v:=.tuple #[.agg #[.string ⟨#[100,105,114]⟩,.string ⟨#[]⟩,.bool false,.slice A l.length cap],.iface 377 (.pointer (some (p 1)))]) ?_ rfl ⟨HEF.out,?_⟩
    ·simp [results,Tryz.results185,go_sem,r0,r1,r2,r3]
    ·rw [HX.out]
     exact ⟨_,_,_,_,_,_,_,rfl,(qAc p (by decide)).symm,by decide⟩
   | some q =>
    obtain ⟨nm,s2⟩:=q
    have HC:=Hh hc
    have hs2:=(qBc hc).2.1
    have hnm:=(qBc hc).1
    have hsl:=HS.out.sl
    go_upto_region 10 with (go_at_call 186;refine (qA7 HS.out.rd HVR.out HS.out.sl).mono ?_;rintro ev w3 ⟨he3,hn3⟩;obtain ⟨rfl,hr3⟩:=hn3.isYes HC.out;have HE3:=Hh he3;have HR3:=Hh hr3;clear he3 hn3 hr3)
    have HZ3:=Hh (HE3.out.kept HS.out.zero (qAR (by omega)) rfl).1
    have HD3:=Hh (HE3.out.kept HS.out.own (qAR (by omega)) rfl).1
    have HE3':=Hh (HS.out.ext.trans HE3.out)
    have HV3:=Hh (HVR.out.ext HE3.out)
    have hz3:=HE3.out.size
    have hdp2:(deep:Int)+1≤10:=by omega
    have hN3:=HIH.out (deep+1) (by omega) r s2 nj w3 HR3.out HV3.out (by omega) HS.out.nl
    rw [show ((deep+1:Nat):Int)=(deep:Int)+1 from by omega] at hN3
    have HN3:=Hh hN3
    clear hN3
    cases hnd:qAL f s2 nj with
    | error cd =>
     have HX2:=Hh (show qCo f s n=.error cd by
      rw [HX.out,HS.out.res,hkj,qLy hc hnd])
     have HX:=HX2
     rw [hnd] at HN3
     clear hc hnd HX2
     go_upto_region 11 with (go_at_call 124;refine HN3.out.mono ?_;rintro ev w4 ⟨he4,a0,a1,a2,A5,m5,cp5,er,rfl,rfl,hcd⟩;have HE4:=Hh he4;have HCD:=Hh hcd;clear he4 hcd)
     have hz4:=HE4.out.size
     have hb5:=(zB w4.heap.size w4).alloc (zq _) (.cells #[.string a0,.string a1,.bool a2,.slice A5 m5 cp5] 114)
     have HE5:=Hh ((HE3'.out.trans HE4.out).trans (qAK hb5))
     have HZ5:=Hh ((hb5.block _ (by omega)).trans (HE4.out.kept HZ3.out (qAR (by omega)) rfl).1)
     have HD5:=Hh ((hb5.block _ (by omega)).trans (HE4.out.kept HD3.out (qAR (by omega)) rfl).1)
     have HEO:=Hh (qAc p HCD.out)
     clear hb5
     rw [HEO.out]
     generalize w4.alloc (.cells #[.string a0,.string a1,.bool a2,.slice A5 m5 cp5] 114)=w5 at *
     have z0:=ce0 HZ5.out
     have z1:=ce1 HZ5.out
     have z2:=ce2 HZ5.out
     have z3:=ce3 HZ5.out
     have f0:w5.frozen? ⟨w.heap.size,0,none⟩=false:=qAb HZ5.out 0
     have f1:w5.frozen? ⟨w.heap.size,1,none⟩=false:=qAb HZ5.out 1
     have f2:w5.frozen? ⟨w.heap.size,2,none⟩=false:=qAb HZ5.out 2
     have f3:w5.frozen? ⟨w.heap.size,3,none⟩=false:=qAb HZ5.out 3
     have y0:=ce0 HD5.out
     have y1:=ce1 HD5.out
     have y2:=ce2 HD5.out
     have y3:=ce3 HD5.out
     go_wp2_with fail
     have HF:=Hh (show ((((w5.setCell ⟨w.heap.size,0,none⟩ (.string ⟨#[100,105,114]⟩)).setCell ⟨w.heap.size,1,none⟩ (.string ⟨#[]⟩)).setCell ⟨w.heap.size,2,none⟩ (.bool false)).setCell ⟨w.heap.size,3,none⟩ (.slice A l.length cap)).heap[w.heap.size]?=some (.cells #[.string ⟨#[100,105,114]⟩,.string ⟨#[]⟩,.bool false,.slice A l.length cap] 114 (0,0)) from (qAd (qAd (qAd (qAd HZ5.out 0 (.string ⟨#[100,105,114]⟩)) 1 (.string ⟨#[]⟩)) 2 (.bool false)) 3 (.slice A l.length cap)))
     have HEF:=Hh ((((HE5.out.setCell (a:=⟨w.heap.size,0,none⟩) (fun h=>absurd h (zt w.heap.size)) (.string ⟨#[100,105,114]⟩)).setCell (a:=⟨w.heap.size,1,none⟩) (fun h=>absurd h (zt w.heap.size)) (.string ⟨#[]⟩)).setCell (a:=⟨w.heap.size,2,none⟩) (fun h=>absurd h (zt w.heap.size)) (.bool false)).setCell (a:=⟨w.heap.size,3,none⟩) (fun h=>absurd h (zt w.heap.size)) (.slice A l.length cap))
     clear z0 z1 z2 z3 f0 f1 f2 f3 y0 y1 y2 y3
     generalize ((((w5.setCell ⟨w.heap.size,0,none⟩ (.string ⟨#[100,105,114]⟩)).setCell ⟨w.heap.size,1,none⟩ (.string ⟨#[]⟩)).setCell ⟨w.heap.size,2,none⟩ (.bool false)).setCell ⟨w.heap.size,3,none⟩ (.slice A l.length cap))=w9 at *
     have r0:=ce0 HF.out
     have r1:=ce1 HF.out
     have r2:=ce2 HF.out
     have r3:=ce3 HF.out
     refine zH1 (v:=.tuple #[.agg #[.string ⟨#[100,105,114]⟩,.string ⟨#[]⟩,.bool false,.slice A l.length cap],.iface 377 (.pointer (some (p cd)))]) ?_ rfl ⟨HEF.out,?_⟩
     ·simp [results,Tryz.results185,go_sem,r0,r1,r2,r3]
     ·rw [HX.out]
      exact ⟨_,_,_,_,_,_,_,rfl,HEO.out.symm,HCD.out⟩
    | ok q =>
     obtain ⟨x,s3,n3⟩:=q
     have hmore:=qGq f s2 nj x s3 n3 hnd
     have HRS:=Hh (show qA9 (qAL f) k s1 n=qN8 (l++[(nm,x)]) (qA9 (qAL f) (k-(j+1)) s3 n3) by
      rw [HS.out.res,hkj,qJ9 hc hnd])
     rw [hnd] at HN3
     clear hc hnd
     go_upto_region 11 with (go_at_call 124;refine HN3.out.mono ?_;rintro ev w4 ⟨he4,a0,a1,a2,A5,m5,cp5,er,rfl,rfl,hr4,hx4⟩;have HE4:=Hh he4;have HR4:=Hh hr4;have HX4:=Hh hx4;clear he4 hr4 hx4)
     have hz4:=HE4.out.size
     have hb5:=(zB w4.heap.size w4).alloc (zq _) (.cells #[.string a0,.string a1,.bool a2,.slice A5 m5 cp5] 114)
     have HB5:=Hh hb5
     have HE5:=Hh ((HE3'.out.trans HE4.out).trans (qAK hb5))
     have HZ5:=Hh ((hb5.block _ (by omega)).trans (HE4.out.kept HZ3.out (qAR (by omega)) rfl).1)
     have HD5:=Hh ((hb5.block _ (by omega)).trans (HE4.out.kept HD3.out (qAR (by omega)) rfl).1)
     have HN5:=Hh (zK1 w4 (.cells #[.string a0,.string a1,.bool a2,.slice A5 m5 cp5] 114))
     have HR5:=Hh (HR4.out.later hb5)
     have hz5:(w4.alloc (.cells #[.string a0,.string a1,.bool a2,.slice A5 m5 cp5] 114)).heap.size=w4.heap.size+1:=by simp
     clear hb5
     generalize w4.alloc (.cells #[.string a0,.string a1,.bool a2,.slice A5 m5 cp5] 114)=w5 at *
     obtain ⟨i0,hi,hz0,hz1,hz2⟩:=qHG.info
     have Hi:=Hh hi
     have Hz0:=Hh hz0
     have Hz1:=Hh hz1
     have Hz2:=Hh hz2
     have HE35:=Hh ((HE3.out.trans HE4.out).trans (qAK HB5.out))
     have HROW:=Hh (HS.out.row.kept (qKN HE35.out) (.inr (qGe HS.out.row (by omega))))
     have HROW6:=Hh (HROW.out.alloc (.cells #[.string ⟨nm.toArray⟩,.string a0,.string a1,.bool a2,.slice A5 m5 cp5] 161))
     have HKID:=Hh (KidsCells.go (Q:=fun b=>w.heap.size+2≤b∧some b≠(Value.slice A l.length cap).ownBlock) HE35.out.size (fun b hb hp=>⟨(qKN HE35.out).block b hb (fun h=>by injection h with h;have:=hp.1;omega),hp⟩) l xs HS.out.kids)
     have HLO:=Hh (fun b hb=>(HS.out.row.lt b hb).2)
     have hll:l.length≤1000000:=by rw [HS.out.len];omega
     have y3:=ce3 HD5.out
     have n0:=ce0 HN5.out
     have n1:=ce1 HN5.out
     have n2:=ce2 HN5.out
     have n3':=ce3 HN5.out
     clear hi hz0 hz1 hz2
     have HLT6:=Hh (show w.heap.size+1<(w5.alloc (.cells #[.string ⟨nm.toArray⟩,.string a0,.string a1,.bool a2,.slice A5 m5 cp5] 161)).heap.size from qAa (qAj w5 (.cells #[.string ⟨nm.toArray⟩,.string a0,.string a1,.bool a2,.slice A5 m5 cp5] 161) HD5.out))
     have HNE6:=Hh (show some (w.heap.size+1)≠(Value.slice A l.length cap).ownBlock from fun h=>qGe HS.out.row (by omega) h.symm)
     have HD6:=Hh (qAj w5 (.cells #[.string ⟨nm.toArray⟩,.string a0,.string a1,.bool a2,.slice A5 m5 cp5] 161) HD5.out)
     have HBS6:=Hh (show w.heap.size+2≤(w5.alloc (.cells #[.string ⟨nm.toArray⟩,.string a0,.string a1,.bool a2,.slice A5 m5 cp5] 161)).heap.size by simp;omega)
     have HS5:=Hh hz5
     have HS4:=Hh hz4
     clear hz5 hz4
     go_wp2_with (at_builtin;refine Stl.wpList_app _ rfl _ _ 112 rfl (w.heap.size+2) 161 i0 _ 5 80 Tryz.underlying112 Hi.out Hz0.out Hz1.out Hz2.out rfl (by decide) (.slice A l.length cap) l.length xs rfl HROW6.out (some ⟨w5.heap.size,0,none⟩) 1 1 [.string ⟨nm.toArray⟩,.string a0,.string a1,.bool a2,.slice A5 m5 cp5] rfl rfl (fun h=>by cases h) (qAH _ _ _) (by simp [Value.oneCell']) (by unfold maxLen;omega) (by omega) HBS6.out ?_;intro A6 c6 w8 hown8 hgr8 hat8;have HOWN8:=Hh hown8;have HGR8:=Hh hgr8;have HAT8:=Hh hat8;have HD8:=Hh ((hgr8.block (w.heap.size+1) HLT6.out HNE6.out).trans HD6.out);have f13:w8.frozen? ⟨w.heap.size+1,3,none⟩=false:=qAb HD8.out 3;have g13:w8.cell? ⟨w.heap.size+1,3,none⟩=some (.slice A l.length cap):=zJ1 w8 _ 3 _ _ _ HD8.out;clear hown8 hgr8 hat8)
     go_roundw
     case rel =>
      have hs5:=HS5.out
      have hs4:=HS4.out
      have hll1:(l++[(nm,x)]).length=l.length+1:=by simp
      have HBK:=Hh (show ∀ b,b<w5.heap.size→b≠w.heap.size+1→some b≠(Value.slice A l.length cap).ownBlock→(w8.setCell ⟨w.heap.size+1,3,none⟩ (.slice A6 (l.length+1) c6)).heap[b]?=w5.heap[b]? from fun b h1 h2 h3 =>
       (zA _ ⟨w.heap.size+1,3,none⟩ _ b h2).trans ((HGR8.out.block b (by simp;omega) h3).trans (Below.heap_alloc _ _ b h1)))
      have HOWNX:=Hh (show ∀ b,b<w5.heap.size→some b≠(Value.slice A l.length cap).ownBlock→some b≠(Value.slice A6 (l.length+1) c6).ownBlock from fun b h1 h2 h3=>by
       rcases HAT8.out with h | h
       ·exact h2 (h3.trans h)
       ·rw [h] at h3
        injection h3 with h3
        simp at h3
        omega)
      refine ⟨j+1,l++[(nm,x)],s3,n3,A6,c6,xs++[.string ⟨nm.toArray⟩,.string a0,.string a1,.bool a2,.slice A5 m5 cp5],by omega,rfl,Hh ⟨?_,?_,?_,?_,?_,?_,?_,HRS.out,?_,?_⟩⟩
      ·exact ((HE5.out.alloc _).grown HGR8.out (fun b hb hlt=>by have:=(HS.out.row.lt b hb).1;omega)).setCell (fun h=>absurd h (Nat.not_lt.2 (Nat.le_succ _))) _
      ·exact (HBK.out _ (by omega) (by omega) (fun h=>qGe HS.out.row (by omega) h.symm)).trans HZ5.out
      ·have:=qAd HD8.out 3 (.slice A6 (l.length+1) c6)
       rw [hll1]
       simpa using this
      ·exact (HBK.out r (by omega) (by omega) (fun h=>qGe HS.out.row (by omega) h.symm)).trans HR5.out
      ·rw [hll1]
       exact HOWN8.out.kept qAV (.inr (qGe HOWN8.out (by omega)))
      ·rw [hll1]
       refine KidsCells.append l [(nm,x)] xs _ (KidsCells.go (by have:=HGR8.out.size;simp [World.setCell] at this ⊢;omega) (fun b hb hp=>⟨HBK.out b hb (by have:=hp.1;omega) hp.2,hp.1,HOWNX.out b hb hp.2⟩) l xs HKID.out) ?_
       refine ⟨_,_,_,_,[],rfl,by omega,?_,rfl⟩
       refine NodeP.go (by have:=HGR8.out.size;simp [World.setCell] at this ⊢;omega) (fun b hb hp=>?_) _ _ HX4.out
       have hnb:some b≠(Value.slice A l.length cap).ownBlock:=fun h=>by
        have:=HLO.out b h.symm
        omega
       refine ⟨(HBK.out b (by omega) (by omega) hnb).trans (HB5.out.block b hb),by omega,HOWNX.out b (by omega) hnb⟩
      ·rw [hll1,HS.out.len]
      ·omega
      ·exact hmore.2.1
     case measure=>simp [intOf];omega
  ·have i1:¬ (j:Int)<(k:Int):=by omega
   obtain rfl:j=k:=by omega
   have HX2:=Hh (show qCo f s n=.ok (.mk kDir [] false l,sj,nj) by
    rw [HX.out,HS.out.res,Nat.sub_self]
    show (match qN8 l (qA9 (qAL f) 0 sj nj) with | .error e=>(.error e:Stl.Rd Nd) | .ok (l,s2,n2)=>.ok (.mk kDir [] false l,s2,n2))=_
    simp [qN8,qA9])
   have HX:=HX2
   clear HX2
   have z0:=ce0 HS.out.zero
   have z1:=ce1 HS.out.zero
   have z2:=ce2 HS.out.zero
   have z3:=ce3 HS.out.zero
   have f0:wr.frozen? ⟨w.heap.size,0,none⟩=false:=qAb HS.out.zero 0
   have f1:wr.frozen? ⟨w.heap.size,1,none⟩=false:=qAb HS.out.zero 1
   have f2:wr.frozen? ⟨w.heap.size,2,none⟩=false:=qAb HS.out.zero 2
   have f3:wr.frozen? ⟨w.heap.size,3,none⟩=false:=qAb HS.out.zero 3
   have y0:=ce0 HS.out.own
   have y1:=ce1 HS.out.own
   have y2:=ce2 HS.out.own
   have y3:=ce3 HS.out.own
   go_wp2_with fail
   have HF:=Hh (show ((((wr.setCell ⟨w.heap.size,0,none⟩ (.string ⟨#[100,105,114]⟩)).setCell ⟨w.heap.size,1,none⟩ (.string ⟨#[]⟩)).setCell ⟨w.heap.size,2,none⟩ (.bool false)).setCell ⟨w.heap.size,3,none⟩ (.slice A l.length cap)).heap[w.heap.size]?=some (.cells #[.string ⟨#[100,105,114]⟩,.string ⟨#[]⟩,.bool false,.slice A l.length cap] 114 (0,0)) from (qAd (qAd (qAd (qAd HS.out.zero 0 (.string ⟨#[100,105,114]⟩)) 1 (.string ⟨#[]⟩)) 2 (.bool false)) 3 (.slice A l.length cap)))
   have HEF:=Hh ((((HS.out.ext.setCell (a:=⟨w.heap.size,0,none⟩) (fun h=>absurd h (zt w.heap.size)) (.string ⟨#[100,105,114]⟩)).setCell (a:=⟨w.heap.size,1,none⟩) (fun h=>absurd h (zt w.heap.size)) (.string ⟨#[]⟩)).setCell (a:=⟨w.heap.size,2,none⟩) (fun h=>absurd h (zt w.heap.size)) (.bool false)).setCell (a:=⟨w.heap.size,3,none⟩) (fun h=>absurd h (zt w.heap.size)) (.slice A l.length cap))
   clear z0 z1 z2 z3 f0 f1 f2 f3 y0 y1 y2 y3
   have HRD9:=Hh (show RdAt ((((wr.setCell ⟨w.heap.size,0,none⟩ (.string ⟨#[100,105,114]⟩)).setCell ⟨w.heap.size,1,none⟩ (.string ⟨#[]⟩)).setCell ⟨w.heap.size,2,none⟩ (.bool false)).setCell ⟨w.heap.size,3,none⟩ (.slice A l.length cap)) r sj nj from (((qAV.block r (by simp [World.setCell];omega) (fun h=>by injection h with h;omega)).trans ((qAV.block r (by simp [World.setCell];omega) (fun h=>by injection h with h;omega)).trans ((qAV.block r (by simp [World.setCell];omega) (fun h=>by injection h with h;omega)).trans (qAV.block r (by omega) (fun h=>by injection h with h;omega))))).trans HS.out.rd))
   have HND9:=Hh (NodeP.set4 (x:=w.heap.size) (u0:=.string ⟨#[100,105,114]⟩) (u1:=.string ⟨#[]⟩) (u2:=.bool false) (u3:=.slice A l.length cap) (qJL (P:=fun b=>w.heap.size+2≤b) (k:=kDir) (d:=[]) (e:=false) (by decide) (by decide) (by rw [HS.out.len];omega) HS.out.row (KidsCells.go (zq _) (fun b _ hp=>⟨rfl,hp.1⟩) l xs HS.out.kids) (fun g hg=>(HS.out.row.lt g hg).1)) (fun b hb=>by omega))
   generalize ((((wr.setCell ⟨w.heap.size,0,none⟩ (.string ⟨#[100,105,114]⟩)).setCell ⟨w.heap.size,1,none⟩ (.string ⟨#[]⟩)).setCell ⟨w.heap.size,2,none⟩ (.bool false)).setCell ⟨w.heap.size,3,none⟩ (.slice A l.length cap))=w9 at *
   have r0:=ce0 HF.out
   have r1:=ce1 HF.out
   have r2:=ce2 HF.out
   have r3:=ce3 HF.out
   refine zH1 (v:=.tuple #[.agg #[.string ⟨#[100,105,114]⟩,.string ⟨#[]⟩,.bool false,.slice A l.length cap],.nilIface]) ?_ rfl ⟨HEF.out,?_⟩
   ·simp [results,Tryz.results185,go_sem,r0,r1,r2,r3]
   ·rw [HX.out]
    exact ⟨_,_,_,_,_,_,_,rfl,rfl,HRD9.out,NodeP.go (zq _) (fun b _ hp=>⟨rfl,by omega⟩) _ _ HND9.out⟩
end
end Go.Proofs.YtceklhjomhjipaaGreatDoor
