/- Lemmas. -/
import Derived.Test.YtbmkaekimccdgaaGreatDoorBm07
import Derived.Test.YtbmkaekimccdgaaGreatDoorBm28
set_option maxHeartbeats 16000000
set_option maxRecDepth 1000000
set_option linter.all false
namespace Go.Proofs.YtbmkaekimccdgaaGreatDoor
open Go.RowKit Go.Sort Go.Shelf Stl
def RC (r:Nat):Nat→Col:=fun b=>if b=r then .tape else .ro
theorem oK (r:Nat):RC r r=.tape:=by simp[RC]
theorem vG {r b:Nat}(h:b≠r):RC r b=.ro:=by simp[RC,h]
def RdAt (w:World)(r:Nat)(s:List UInt8)(n:Nat):Prop:=w.heap[r]?=some (.cells #[.string ⟨s.toArray⟩,.int .i64 n] 266 (0,0))
def RdEnv (w:World)(r:Nat)(p:Nat→Addr):Prop:=∃ W0,Errs W0 p∧LibVars W0∧Below W0.heap.size W0 w∧W0.heap.size≤r
section
variable {w w2:World}{r:Nat}{p:Nat→Addr}
theorem RdEnv.ext (h:RdEnv w r p)(e:Ext w w2 (RC r) (RC r) (S1 .tape)):RdEnv w2 r p:=by
 obtain⟨W0,h1,h2,h3,h4⟩:=h;exact⟨W0,h1,h2,h3.trans (e.below h3.size (fun b hb=>by rw[vG (by omega)];rfl)),h4⟩
theorem RdEnv.errs (h:RdEnv w r p):Errs w p:=by obtain⟨W0,h1,_,h3,_⟩:=h;exact h1.later h3
theorem RdEnv.vars (h:RdEnv w r p):LibVars w:=by obtain⟨W0,_,h2,h3,_⟩:=h;exact h2.later h3
theorem jY (hb:Below w.heap.size w w2):Ext w w2 (RC r) (RC r) (S1 .tape):=Ext.of_below hb _ _
theorem RdAt.later {s:List UInt8}{n:Nat}(h:RdAt w r s n)(hb:Below w.heap.size w w2):RdAt w2 r s n:=(hb.block r (qA h)).trans h
theorem RdEnv.below (h:RdEnv w r p)(hb:Below w.heap.size w w2):RdEnv w2 r p:=h.ext (jY hb)
def NumRes (r:Nat)(s:List UInt8)(n:Nat)(ev:Ending)(w':World):Prop :=
 match vH s with
 | none=>ev=.returned (.tuple #[.int .i64 0,.bool false])
 | some (k,s1)=>ev=.returned (.tuple #[.int .i64 k,.bool true])∧RdAt w' r s1 n
theorem NumIs.no {n:Int}{ok:Bool}(h:NumIs none n ok):ok=false:=by
 rcases h with h | ⟨m,h,_⟩
 ·exact h.2
 ·cases h
theorem NumIs.yes {k:Nat}{n:Int}{ok:Bool}(h:NumIs (some k) n ok):ok=true∧n=(k:Int):=by
 rcases h with h | ⟨m,h,h2,h3⟩
 ·cases h.1
 ·injection h with h
  subst h;exact⟨h2,h3⟩
theorem NumRes.no {s:List UInt8}{n:Nat}{w':World}(h:vH s=none):NumRes r s n (.returned (.tuple #[.int .i64 0,.bool false])) w':=by
 unfold NumRes;rw[h]
theorem NumRes.yes {s s1:List UInt8}{n k:Nat}{w':World}(h:vH s=some (k,s1))(hr:RdAt w' r s1 n):NumRes r s n (.returned (.tuple #[.int .i64 k,.bool true])) w':=by
 unfold NumRes;rw[h];exact⟨rfl,hr⟩
theorem qBC {s:List UInt8}{n:Nat}(hr:RdAt w r s n)(hE:RdEnv w r p)(hs:s.length≤20000) :
  Calls Tryz.prog 275 #[.pointer (some ⟨r,0,none⟩)] w fun ev w'=>Ext w w' (RC r) (RC r) (S1 .tape)∧NumRes r s n ev w':=by
 have c0:=ce0 hr;have HR:=Hh hr;have HE:=Hh hE;have hl:=qA hr;obtain⟨m,hm,hm1,hx⟩:∃ m:Nat,min (s.length:Int) 7=(m:Int)∧(m:Int)≤(s.length:Int)∧(⟨s.toArray⟩:ByteArray).extract 0 m=⟨(s.take 7).toArray⟩:=by
  refine⟨min s.length 7,by omega,by omega,?_⟩;rw[yN];congr 2
  rcases Nat.le_total s.length 7 with h | h
  ·rw[Nat.min_eq_left h,zk,zm h]
  ·rw[Nat.min_eq_right h]
 have hm0:(0:Int)≤(m:Int):=by omega
 clear hr hE;go_enter Tryz.func275,Tryz.ntmps275;go_upto_region 1 with fail
 cases hc:cutAt 58 (s.take 7) with
 | none =>
  have HN:=Hh (show vH s=none by unfold vH;rw[hc]);have HCUT:=Hh (pS 58 hc (by simp;omega) w.drew HE.o.vars.max);clear hc
  go_region_held3 (fun w'=>w'.cell? ⟨r,0,none⟩=some (.string ⟨s.toArray⟩))
   (first
    | exact c0
    | exact c0'
    | go_keep)
   (first
    | (go_at_call 72;refine HCUT.o.mono ?_;rintro ev w2 ⟨rfl,hb2⟩;have c0':w2.cell? ⟨r,0,none⟩=some (.string ⟨s.toArray⟩):=(hb2.cell (p:=⟨r,0,none⟩) hl).trans c0)
    | fail)
  have HB2:=Hh ((zB w.heap.size w).drew.trans (hb2.mono (zo _)));clear c0 c0' hb2 hm hm0 hm1 hx;go_wp2_with (go_at_call 55;refine(kH (s.take 7) (by simp;omega) w2 (HE.o.below HB2.o).vars).mono ?_;rintro ev w3 ⟨hb3,n3,ok3,rfl,hni⟩;have HB3:=Hh (HB2.o.trans (hb3.mono HB2.o.size));clear hb3 hni)
  all_goals
   go_ret2;exact⟨jY HB3.o,NumRes.no HN.o⟩
 | some q =>
  obtain⟨d,t⟩:=q;have HCUT:=Hh (gU 58 hc (by simp;omega) w.drew HE.o.vars.max);have hdl:d.length≤20000:=by
   have h1:=qA0 hc;have h2:=congrArg List.length h1;simp at h2;omega
  cases hn:qI d 6 with
  | none =>
   have HN:=Hh (show vH s=none by unfold vH;rw[hc];simp only;rw[hn];rfl);have HNO:=Hh hn;clear hc hn
   go_region_held3 (fun w'=>w'.cell? ⟨r,0,none⟩=some (.string ⟨s.toArray⟩))
    (first
     | exact c0
     | exact c0'
     | go_keep)
    (first
     | (go_at_call 72;refine HCUT.o.mono ?_;rintro ev w2 ⟨rfl,hb2⟩;have c0':w2.cell? ⟨r,0,none⟩=some (.string ⟨s.toArray⟩):=(hb2.cell (p:=⟨r,0,none⟩) hl).trans c0)
     | fail)
   have HB2:=Hh ((zB w.heap.size w).drew.trans (hb2.mono (zo _)));clear c0 c0' hb2 hm hm0 hm1 hx;go_wp2_with (go_at_call 55;refine(kH d (by omega) w2 (HE.o.below HB2.o).vars).mono ?_;rw[HNO.o];rintro ev w3 ⟨hb3,n3,ok3,rfl,hni⟩;have HB3:=Hh (HB2.o.trans (hb3.mono HB2.o.size));obtain rfl:ok3=false:=hni.no;clear hb3 hni);go_ret2;exact⟨jY HB3.o,NumRes.no HN.o⟩
  | some k =>
   have hh:vH s=some (k,s.drop (d.length+1)):=by unfold vH;rw[hc];simp only;rw[hn];rfl
   obtain⟨d',t',g1,g2,g3,g4,g5,g6⟩:=kZ hh;rw[hc] at g1;injection g1 with g1
   injection g1 with g1 g1'
   subst g1;have HN:=Hh hh;have HNO:=Hh hn;have HG4:=Hh g4;clear hc hn hh g1' g2 g3 g5 g6 g4
   go_region_held3 (fun w'=>w'.cell? ⟨r,0,none⟩=some (.string ⟨s.toArray⟩))
    (first
     | exact c0
     | exact c0'
     | go_keep)
    (first
     | (go_at_call 72;refine HCUT.o.mono ?_;rintro ev w2 ⟨rfl,hb2⟩;have c0':w2.cell? ⟨r,0,none⟩=some (.string ⟨s.toArray⟩):=(hb2.cell (p:=⟨r,0,none⟩) hl).trans c0)
     | fail)
   have HB2:=Hh ((zB w.heap.size w).drew.trans (hb2.mono (zo _)));clear c0 c0' hb2 hm hm0 hm1 hx;have hx2:=extract_drop s (d.length+1);have hd2:(d.length:Int)+1≤(s.length:Int):=by have:=HG4.o;omega
   go_upto_region 5 with (go_at_call 55;refine(kH d (by omega) w2 (HE.o.below HB2.o).vars).mono ?_;rw[HNO.o];rintro ev w3 ⟨hb3,n3,ok3,rfl,hni⟩;have HB3:=Hh (HB2.o.trans (hb3.mono HB2.o.size));obtain⟨rfl,rfl⟩:ok3=true∧n3=(k:Int):=hni.yes;clear hb3 hni);have HR3:=Hh (HR.o.later HB3.o);have c0:=ce0 HR3.o;have f0:w3.frozen? ⟨r,0,none⟩=false:=qC HR3.o 0;go_wp2;go_ret2;exact⟨(jY HB3.o).setCell (fun _=>by rw[oK];rfl) _,NumRes.yes HN.o (qH HR3.o 0 _)⟩
theorem NumRes.isNo {s:List UInt8}{n:Nat}{ev:Ending}{w':World}(h:NumRes r s n ev w')(hs:vH s=none):ev=.returned (.tuple #[.int .i64 0,.bool false]):=by
 unfold NumRes at h;rw[hs] at h;exact h
theorem NumRes.isYes {s s1:List UInt8}{n k:Nat}{ev:Ending}{w':World}(h:NumRes r s n ev w')(hs:vH s=some (k,s1)):ev=.returned (.tuple #[.int .i64 k,.bool true])∧RdAt w' r s1 n:=by
 unfold NumRes at h;rw[hs] at h;exact h
def CountRes (r:Nat)(s:List UInt8)(n:Nat)(ev:Ending)(w':World):Prop :=
 match qP s with
 | none=>ev=.returned (.tuple #[.string ⟨#[]⟩,.bool false])
 | some (d,s1)=>ev=.returned (.tuple #[.string ⟨d.toArray⟩,.bool true])∧RdAt w' r s1 n
theorem CountRes.no {s:List UInt8}{n:Nat}{w':World}(h:qP s=none):CountRes r s n (.returned (.tuple #[.string ⟨#[]⟩,.bool false])) w':=by
 unfold CountRes;rw[h]
theorem CountRes.yes {s d s1:List UInt8}{n:Nat}{w':World}(h:qP s=some (d,s1))(hr:RdAt w' r s1 n):CountRes r s n (.returned (.tuple #[.string ⟨d.toArray⟩,.bool true])) w':=by
 unfold CountRes;rw[h];exact⟨rfl,hr⟩
theorem CountRes.isNo {s:List UInt8}{n:Nat}{ev:Ending}{w':World}(h:CountRes r s n ev w')(hs:qP s=none):ev=.returned (.tuple #[.string ⟨#[]⟩,.bool false]):=by
 unfold CountRes at h;rw[hs] at h;exact h
theorem CountRes.isYes {s d s1:List UInt8}{n:Nat}{ev:Ending}{w':World}(h:CountRes r s n ev w')(hs:qP s=some (d,s1)):ev=.returned (.tuple #[.string ⟨d.toArray⟩,.bool true])∧RdAt w' r s1 n:=by
 unfold CountRes at h;rw[hs] at h;exact h
theorem yM {s:List UInt8}{n:Nat}(hr:RdAt w r s n)(hE:RdEnv w r p)(hs:s.length≤20000) :
  Calls Tryz.prog 232 #[.pointer (some ⟨r,0,none⟩)] w fun ev w'=>Ext w w' (RC r) (RC r) (S1 .tape)∧CountRes r s n ev w':=by
 have HNA:=Hh (qBC hr hE hs);clear hr hE
 cases hh:vH s with
 | none =>
  have HC:=Hh (show qP s=none by unfold qP;rw[hh]);have HH:=Hh hh;clear hh;go_enter Tryz.func232,Tryz.ntmps232;go_wp2_with (go_at_call 275;refine HNA.o.mono ?_;rintro ev w2 ⟨he2,hn2⟩;obtain rfl:=hn2.isNo HH.o;have HE2:=Hh he2;clear he2 hn2);go_ret2;exact⟨HE2.o,CountRes.no HC.o⟩
 | some q =>
  obtain⟨k,s1⟩:=q;have HH:=Hh hh;obtain⟨d',t',_,_,g3,g4,_,_⟩:=kZ hh;have hs1:s1.length≤20000:=by rw[g3,List.length_drop];omega
  by_cases hk:s1.length<k
  ·have HC:=Hh (show qP s=none by unfold qP;rw[hh];simp only;rw[zM1 hk]);have i1:(s1.length:Int)<(k:Int):=by omega
   clear hh g3 g4 hk;go_enter Tryz.func232,Tryz.ntmps232;go_wp2_with (go_at_call 275;refine HNA.o.mono ?_;rintro ev w2 ⟨he2,hn2⟩;obtain⟨rfl,hr2⟩:=hn2.isYes HH.o;have c0:w2.cell? ⟨r,0,none⟩=some (.string ⟨s1.toArray⟩):=zJ1 w2 r 0 _ _ _ hr2;have HE2:=Hh he2;clear he2 hn2 hr2);go_ret2;exact⟨HE2.o,CountRes.no HC.o⟩
  ·have HC:=Hh (show qP s=some (s1.take k,s1.drop k) by unfold qP;rw[hh];simp only;rw[zL1 hk]);have i1:(k:Int)≤(s1.length:Int):=by omega
   have i0:(0:Int)≤(k:Int):=by omega
   have hx1:=yN s1 k;have hx2:=extract_drop s1 k;clear hh g3 g4 hk;go_enter Tryz.func232,Tryz.ntmps232;go_wp2_with (go_at_call 275;refine HNA.o.mono ?_;rintro ev w2 ⟨he2,hn2⟩;obtain⟨rfl,hr2⟩:=hn2.isYes HH.o;have c0:w2.cell? ⟨r,0,none⟩=some (.string ⟨s1.toArray⟩):=zJ1 w2 r 0 _ _ _ hr2;have f0:=qC hr2 0;have HE2:=Hh he2;have HR2:=Hh hr2;clear he2 hn2 hr2);go_ret2;exact⟨HE2.o.setCell (fun _=>by rw[oK];rfl) _,CountRes.yes HC.o (qH HR2.o 0 _)⟩
end
def qKj (p:Nat→Addr)(r base:Nat)(x:Stl.Rd Nd)(ev:Ending)(w':World):Prop :=
 ∃ (a0 a1:ByteArray) (a2:Bool) (A:Option Addr) (m cp:Nat) (er:Value),ev=.returned (.tuple #[.agg #[.string a0,.string a1,.bool a2,.slice A m cp],er]) ∧
  match x with
  | .error c=>er=jK p c∧c≠0
  | .ok (nd,s,n)=>er=.nilIface∧RdAt w' r s n∧NodeP (fun b=>base≤b) w' nd [.string a0,.string a1,.bool a2,.slice A m cp]
def dS (p:Nat→Addr)(f:Nat):Prop:=∀ deep,f+deep=9→∀ (r:Nat) (s:List UInt8) (n:Nat) (w:World),RdAt w r s n→RdEnv w r p→s.length≤20000→n≤200 →
 Calls Tryz.prog 170 #[.pointer (some ⟨r,0,none⟩),.int .i64 deep] w fun ev w'=>Ext w w' (RC r) (RC r) (S1 .tape)∧qKj p r w.heap.size (jM f s n) ev w'
def wT (f:Nat)(s:List UInt8)(n:Nat):Stl.Rd Nd :=
 match vH s with
 | none=>.error 1
 | some (k,r1)=>match vR (jM f) k r1 n with
  | .error e=>.error e
  | .ok (l,s2,n2)=>.ok (.mk kDir [] false l,s2,n2)
theorem qGY {P:Nat→Prop}{w:World}{k d:List UInt8}{e:Bool}{ks:List (List UInt8×Nd)}{A:Option Addr}{cap base:Nat}{xs:List Value}(hk:k.length≤140737488355328)(hd:d.length≤140737488355328)(hl:ks.length≤1759218604441)
  (hown:w.ownsRow base 224 5 (.slice A ks.length cap) ks.length xs) (hkc:KidsCells P w ks xs) (hP:∀ g,(Value.slice A ks.length cap).ownBlock=some g→P g):NodeP P w (.mk k d e ks) [.string ⟨k.toArray⟩,.string ⟨d.toArray⟩,.bool e,.slice A ks.length cap]:=by
 unfold NodeP;have hlt:=hown.lt;have hce:=fun g hg=>hown.cells (g:=g) hg
 have hcap:ks.length≤cap:=by
  rcases hown.2 with ⟨h1,h2⟩ | ⟨g,cp,cur,h1,_,_,h4,_⟩
  ·injection h1 with _ h1 h3
   omega
  ·injection h1 with _ _ h3
   omega
 refine⟨A,cap,rfl,⟨hcap,hl,hk,hd⟩,fun hn=>?_⟩
 rcases hown.2 with ⟨h1,h2⟩ | ⟨g,cp,cur,h1,_⟩
 ·exact absurd (zR.1 h2) hn
 ·injection h1 with h1 _ _
  subst h1;refine⟨g,0,rfl,⟨(hlt g rfl).2,hP g rfl⟩,qAl ks xs 0 hkc fun j u hu=>?_⟩;have h:=hce g rfl j u hu;have e1:(⟨g,0,none⟩:Addr).add j=⟨g,0+j,none⟩:=by unfold Addr.add;split<;>simp_all
  rw[e1] at h;exact h
theorem qHB {r:Nat}{w w':World}(e:Ext w w' (RC r) (RC r) (S1 .tape)):w.grownBy w' (some r) :=
 ⟨e.os,e.tape,e.output,e.size,fun i hi hne=>(e.keep i hi (by rw[vG (fun h=>hne (by rw[h]))];rfl)).1⟩
theorem uD {w:World}{base:Nat}{e:TypeId}{size:Nat}{v:Value}{n:Nat}{xs:List Value}(h:w.ownsRow base e size v n xs){b:Nat}(hb:b<base):v.ownBlock≠some b:=fun e=>by
 have:=(h.lt b e).1;omega
theorem vJ {w:World}{b j:Nat}{u:Value}:w.grownBy (w.setCell ⟨b,j,none⟩ u) (some b) :=
 ⟨rfl,rfl,rfl,by simp[World.setCell],fun i _ hne=>zA _ ⟨b,j,none⟩ _ i (fun h=>hne (by rw[h]))⟩
structure qOw (f k:Nat)(s1:List UInt8)(n1 r:Nat)(w wr:World)(j:Nat)(l:List (List UInt8×Nd))(sj:List UInt8)(nj:Nat)(A:Option Addr)(cap:Nat)(xs:List Value):Prop where
 ext:Ext w wr (RC r) (RC r) (S1 .tape)
 zero:wr.heap[w.heap.size]?=some (.cells #[.string ⟨#[]⟩,.string ⟨#[]⟩,.bool false,.slice none 0 0] 134 (0,0))
 own:wr.heap[w.heap.size+1]?=some (.cells #[.string ⟨#[100,105,114]⟩,.string ⟨#[]⟩,.bool false,.slice A l.length cap] 134 (0,0))
 rd:RdAt wr r sj nj
 row:wr.ownsRow (w.heap.size+2) 224 5 (.slice A l.length cap) l.length xs
 kids:KidsCells (fun b=>w.heap.size+2≤b∧some b≠(Value.slice A l.length cap).ownBlock) wr l xs
 len:l.length=j
 res:vR (jM f) k s1 n1=oL l (vR (jM f) (k-j) sj nj)
 sl:sj.length≤20000
 nl:nj≤200
section
variable {p:Nat→Addr}
theorem qNn {f:Nat}(IH:dS p f)(deep:Nat)(hdp:f+1+deep=9)(r:Nat)(s:List UInt8)(n:Nat)(w:World)(hr:RdAt w r s n)(hE:RdEnv w r p)(hs:s.length≤20000)(hn:n≤200) :
  Calls Tryz.prog 231 #[.pointer (some ⟨r,0,none⟩),.int .i64 deep] w fun ev w'=>Ext w w' (RC r) (RC r) (S1 .tape)∧qKj p r w.heap.size (wT f s n) ev w':=by
 have hrl:r<w.heap.size:=qA hr;have HEW:=Hh hE;have hb1:Below w.heap.size w ((w.alloc (.cells #[.string ⟨#[]⟩,.string ⟨#[]⟩,.bool false,.slice none 0 0] 134)).alloc (.cells #[.string ⟨#[100,105,114]⟩,.string ⟨#[]⟩,.bool false,.slice none 0 0] 134)):=((zB _ w).alloc (zo _) _).alloc (by simp) _;have HZ1:=Hh (qS (w.alloc (.cells #[.string ⟨#[]⟩,.string ⟨#[]⟩,.bool false,.slice none 0 0] 134)) (.cells #[.string ⟨#[100,105,114]⟩,.string ⟨#[]⟩,.bool false,.slice none 0 0] 134) (zK1 w (.cells #[.string ⟨#[]⟩,.string ⟨#[]⟩,.bool false,.slice none 0 0] 134)));have HD1:=Hh (show ((w.alloc (.cells #[.string ⟨#[]⟩,.string ⟨#[]⟩,.bool false,.slice none 0 0] 134)).alloc (.cells #[.string ⟨#[100,105,114]⟩,.string ⟨#[]⟩,.bool false,.slice none 0 0] 134)).heap[w.heap.size+1]?=some (.cells #[.string ⟨#[100,105,114]⟩,.string ⟨#[]⟩,.bool false,.slice none 0 0] 134 (0,0)) from by
  have:=zK1 (w.alloc (.cells #[.string ⟨#[]⟩,.string ⟨#[]⟩,.bool false,.slice none 0 0] 134)) (.cells #[.string ⟨#[100,105,114]⟩,.string ⟨#[]⟩,.bool false,.slice none 0 0] 134)
  simpa using this)
 have HR1:=Hh (hr.later hb1);have HE1:=Hh (jY (r:=r) hb1);have HV1:=Hh (hE.below hb1);have hsz1:((w.alloc (.cells #[.string ⟨#[]⟩,.string ⟨#[]⟩,.bool false,.slice none 0 0] 134)).alloc (.cells #[.string ⟨#[100,105,114]⟩,.string ⟨#[]⟩,.bool false,.slice none 0 0] 134)).heap.size=w.heap.size+2:=by simp
 have HIH:=Hh IH;clear hr hE hb1 IH;go_enter Tryz.func231,Tryz.ntmps231;go_upto_region 2 with fail;generalize (w.alloc (.cells #[.string ⟨#[]⟩,.string ⟨#[]⟩,.bool false,.slice none 0 0] 134)).alloc (.cells #[.string ⟨#[100,105,114]⟩,.string ⟨#[]⟩,.bool false,.slice none 0 0] 134)=w1 at *
 cases hh:vH s with
 | none =>
  have HX:=Hh (show wT f s n=.error 1 by unfold wT;rw[hh]);have HH:=Hh hh;clear hh;go_upto_region 4 with (go_at_call 275;refine(qBC HR1.o HV1.o hs).mono ?_;rintro ev w2 ⟨he2,hn2⟩;obtain rfl:=hn2.isNo HH.o;have HE2:=Hh he2;clear he2 hn2);have HZ2:=Hh (HE2.o.kept HZ1.o (vG (by omega)) rfl).1;have HD2:=Hh (HE2.o.kept HD1.o (vG (by omega)) rfl).1;have HE2':=Hh (HE1.o.trans HE2.o);have HV2:=Hh (HV1.o.ext HE2.o);obtain⟨z0,z1,z2,z3⟩:=cq HZ2.o;have f0:w2.frozen? ⟨w.heap.size,0,none⟩=false:=qC HZ2.o 0;have f1:w2.frozen? ⟨w.heap.size,1,none⟩=false:=qC HZ2.o 1;have f2:w2.frozen? ⟨w.heap.size,2,none⟩=false:=qC HZ2.o 2;have f3:w2.frozen? ⟨w.heap.size,3,none⟩=false:=qC HZ2.o 3;obtain⟨y0,y1,y2,y3⟩:=cq HD2.o;have hg:w2.cell? ⟨1,0,none⟩=some (.iface 376 (.pointer (some (p 1)))):=HV2.o.errs.cell 1 (by decide) (by decide);have hgne:w.heap.size≠1:=by
   have h0:=lt_of_cell (HEW.o.errs.cell 1 (by decide) (by decide));simp[wA] at h0;omega
  have hgne':1≠w.heap.size:=hgne.symm
  go_region
  obtain⟨w9,E9,HF,HEF⟩:=wM HZ2.o HE2'.o (fun h=>absurd h (zr w.heap.size)) (.string ⟨#[100,105,114]⟩) (.string ⟨#[]⟩) (.bool false) (.slice none 0 0);clear z0 z1 z2 z3 f0 f1 f2 f3 hg hgne hgne' y0 y1 y2 y3;go_wp2_with fail;rw[E9.o];obtain⟨r0,r1,r2,r3⟩:=cq HF.o;refine zH1 (v:=.tuple #[.agg #[.string ⟨#[100,105,114]⟩,.string ⟨#[]⟩,.bool false,.slice none 0 0],.iface 376 (.pointer (some (p 1)))]) ?_ rfl ⟨HEF.o,?_⟩
  ·simp[results,Tryz.results231,go_sem,r0,r1,r2,r3]
  ·rw[HX.o];exact⟨_,_,_,_,_,_,_,rfl,(qD p (by decide)).symm,by decide⟩
 | some q =>
  obtain⟨k,s1⟩:=q;obtain⟨d',t',_,_,g3,_,g5,_⟩:=kZ hh;have hs1:s1.length≤20000:=by rw[g3,List.length_drop];omega
  have HH:=Hh hh;have HX:=Hh (show wT f s n=match vR (jM f) k s1 n with | .error e=>.error e | .ok (l,s2,n2)=>.ok (.mk kDir [] false l,s2,n2) by unfold wT;rw[hh]);clear hh g3;go_upto_region 6 with (go_at_call 275;refine(qBC HR1.o HV1.o hs).mono ?_;rintro ev w2 ⟨he2,hn2⟩;obtain⟨rfl,hr2⟩:=hn2.isYes HH.o;have HE2:=Hh he2;have HR2:=Hh hr2;clear he2 hn2 hr2);have hsz2:=HE2.o.size;have H0:=Hh (show qOw f k s1 n r w w2 0 [] s1 n none 0 [] from ⟨HE1.o.trans HE2.o,(HE2.o.kept HZ1.o (vG (by omega)) rfl).1,(HE2.o.kept HD1.o (vG (by omega)) rfl).1,HR2.o,zF1 _ _ _ _,rfl,rfl,by rw[qL7];rfl,hs1,hn⟩);clear hs hn hs1;go_wp2_with fail
  go_loopw [24] (fun a wr=>∃ (j:Nat) (l:List (List UInt8×Nd)) (sj:List UInt8) (nj:Nat) (A:Option Addr) (cap:Nat) (xs:List Value),j≤k∧a=.int .i64 j∧Hg (qOw f k s1 n r w wr j l sj nj A cap xs)) (fun a _=>k-(intOf a).toNat)
  case atStart=>exact⟨0,[],s1,n,none,0,[],zw _,rfl,H0⟩
  case round =>
  obtain⟨j,l,sj,nj,A,cap,xs,hjk,rfl,HS⟩:=hrel;have HVR:=Hh (HEW.o.ext HS.o.ext);have hzr:=HS.o.ext.size;have hlz:w.heap.size+1<wr.heap.size:=qA HS.o.own;by_cases hj:j<k
  ·have i1:(j:Int)<(k:Int):=by omega
   have hkj:k-j=(k-(j+1))+1:=by omega
   cases hc:qP sj with
   | none =>
    have HX2:=Hh (show wT f s n=.error 1 by
     rw[HX.o,HS.o.res,hkj,qIo hc])
    have HX:=HX2;have HC:=Hh hc;clear hc HX2;go_upto_region 9 with (go_at_call 232;refine(yM HS.o.rd HVR.o HS.o.sl).mono ?_;rintro ev w3 ⟨he3,hn3⟩;obtain rfl:=hn3.isNo HC.o;have HE3:=Hh he3;clear he3 hn3);have HZ3:=Hh (HE3.o.kept HS.o.zero (vG (by omega)) rfl).1;have HD3:=Hh (HE3.o.kept HS.o.own (vG (by omega)) rfl).1;have HE3':=Hh (HS.o.ext.trans HE3.o);have HV3:=Hh (HVR.o.ext HE3.o);obtain⟨z0,z1,z2,z3⟩:=cq HZ3.o;have f0:w3.frozen? ⟨w.heap.size,0,none⟩=false:=qC HZ3.o 0;have f1:w3.frozen? ⟨w.heap.size,1,none⟩=false:=qC HZ3.o 1;have f2:w3.frozen? ⟨w.heap.size,2,none⟩=false:=qC HZ3.o 2;have f3:w3.frozen? ⟨w.heap.size,3,none⟩=false:=qC HZ3.o 3;obtain⟨y0,y1,y2,y3⟩:=cq HD3.o;have hg:w3.cell? ⟨1,0,none⟩=some (.iface 376 (.pointer (some (p 1)))):=HV3.o.errs.cell 1 (by decide) (by decide);have hgne:w.heap.size≠1:=by
     have h0:=lt_of_cell (HEW.o.errs.cell 1 (by decide) (by decide));simp[wA] at h0;omega
    have hgne':1≠w.heap.size:=hgne.symm
    go_region
    obtain⟨w9,E9,HF,HEF⟩:=wM HZ3.o HE3'.o (fun h=>absurd h (zr w.heap.size)) (.string ⟨#[100,105,114]⟩) (.string ⟨#[]⟩) (.bool false) (.slice A l.length cap);clear z0 z1 z2 z3 f0 f1 f2 f3 hg hgne hgne' y0 y1 y2 y3;go_wp2_with fail;rw[E9.o];obtain⟨r0,r1,r2,r3⟩:=cq HF.o;refine zH1 (v:=.tuple #[.agg #[.string ⟨#[100,105,114]⟩,.string ⟨#[]⟩,.bool false,.slice A l.length cap],.iface 376 (.pointer (some (p 1)))]) ?_ rfl ⟨HEF.o,?_⟩
    ·simp[results,Tryz.results231,go_sem,r0,r1,r2,r3]
    ·rw[HX.o];exact⟨_,_,_,_,_,_,_,rfl,(qD p (by decide)).symm,by decide⟩
   | some q =>
    obtain⟨nm,s2⟩:=q;have HC:=Hh hc;have hs2:=(yL hc).2.1;have hnm:=(yL hc).1;have hsl:=HS.o.sl;go_upto_region 10 with (go_at_call 232;refine(yM HS.o.rd HVR.o HS.o.sl).mono ?_;rintro ev w3 ⟨he3,hn3⟩;obtain⟨rfl,hr3⟩:=hn3.isYes HC.o;have HE3:=Hh he3;have HR3:=Hh hr3;clear he3 hn3 hr3);have HZ3:=Hh (HE3.o.kept HS.o.zero (vG (by omega)) rfl).1;have HD3:=Hh (HE3.o.kept HS.o.own (vG (by omega)) rfl).1;have HE3':=Hh (HS.o.ext.trans HE3.o);have HV3:=Hh (HVR.o.ext HE3.o);have hz3:=HE3.o.size;have hdp2:(deep:Int)+1≤10:=by omega
    have hN3:=HIH.o (deep+1) (by omega) r s2 nj w3 HR3.o HV3.o (by omega) HS.o.nl;rw[show ((deep+1:Nat):Int)=(deep:Int)+1 from by omega] at hN3;have HN3:=Hh hN3;clear hN3
    cases hnd:jM f s2 nj with
    | error cd =>
     have HX2:=Hh (show wT f s n=.error cd by
      rw[HX.o,HS.o.res,hkj,qIC hc hnd])
     have HX:=HX2;rw[hnd] at HN3;clear hc hnd HX2;go_upto_region 11 with (go_at_call 170;refine HN3.o.mono ?_;rintro ev w4 ⟨he4,a0,a1,a2,A5,m5,cp5,er,rfl,rfl,hcd⟩;have HE4:=Hh he4;have HCD:=Hh hcd;clear he4 hcd);have hz4:=HE4.o.size;have hb5:=(zB w4.heap.size w4).alloc (zo _) (.cells #[.string a0,.string a1,.bool a2,.slice A5 m5 cp5] 134);have HE5:=Hh ((HE3'.o.trans HE4.o).trans (jY hb5));have HZ5:=Hh ((hb5.block _ (by omega)).trans (HE4.o.kept HZ3.o (vG (by omega)) rfl).1);have HD5:=Hh ((hb5.block _ (by omega)).trans (HE4.o.kept HD3.o (vG (by omega)) rfl).1);have HEO:=Hh (qD p HCD.o);clear hb5;rw[HEO.o];generalize w4.alloc (.cells #[.string a0,.string a1,.bool a2,.slice A5 m5 cp5] 134)=w5 at *;obtain⟨z0,z1,z2,z3⟩:=cq HZ5.o;have f0:w5.frozen? ⟨w.heap.size,0,none⟩=false:=qC HZ5.o 0;have f1:w5.frozen? ⟨w.heap.size,1,none⟩=false:=qC HZ5.o 1;have f2:w5.frozen? ⟨w.heap.size,2,none⟩=false:=qC HZ5.o 2;have f3:w5.frozen? ⟨w.heap.size,3,none⟩=false:=qC HZ5.o 3;obtain⟨y0,y1,y2,y3⟩:=cq HD5.o;go_wp2_with fail;obtain⟨w9,E9,HF,HEF⟩:=mS HZ5.o HE5.o (fun h=>absurd h (zr w.heap.size)) (.string ⟨#[100,105,114]⟩) (.string ⟨#[]⟩) (.bool false) (.slice A l.length cap);clear z0 z1 z2 z3 f0 f1 f2 f3 y0 y1 y2 y3;rw[E9.o];obtain⟨r0,r1,r2,r3⟩:=cq HF.o;refine zH1 (v:=.tuple #[.agg #[.string ⟨#[100,105,114]⟩,.string ⟨#[]⟩,.bool false,.slice A l.length cap],.iface 376 (.pointer (some (p cd)))]) ?_ rfl ⟨HEF.o,?_⟩
     ·simp[results,Tryz.results231,go_sem,r0,r1,r2,r3]
     ·rw[HX.o];exact⟨_,_,_,_,_,_,_,rfl,HEO.o.symm,HCD.o⟩
    | ok q =>
     obtain⟨x,s3,n3⟩:=q;have hmore:=qC1 f s2 nj x s3 n3 hnd;have HRS:=Hh (show vR (jM f) k s1 n=oL (l++[(nm,x)]) (vR (jM f) (k-(j+1)) s3 n3) by
      rw[HS.o.res,hkj,qGH hc hnd])
     rw[hnd] at HN3;clear hc hnd;go_upto_region 11 with (go_at_call 170;refine HN3.o.mono ?_;rintro ev w4 ⟨he4,a0,a1,a2,A5,m5,cp5,er,rfl,rfl,hr4,hx4⟩;have HE4:=Hh he4;have HR4:=Hh hr4;have HX4:=Hh hx4;clear he4 hr4 hx4);have hz4:=HE4.o.size;have hb5:=(zB w4.heap.size w4).alloc (zo _) (.cells #[.string a0,.string a1,.bool a2,.slice A5 m5 cp5] 134);have HB5:=Hh hb5;have HE5:=Hh ((HE3'.o.trans HE4.o).trans (jY hb5));have HZ5:=Hh ((hb5.block _ (by omega)).trans (HE4.o.kept HZ3.o (vG (by omega)) rfl).1);have HD5:=Hh ((hb5.block _ (by omega)).trans (HE4.o.kept HD3.o (vG (by omega)) rfl).1);have HN5:=Hh (zK1 w4 (.cells #[.string a0,.string a1,.bool a2,.slice A5 m5 cp5] 134));have HR5:=Hh (HR4.o.later hb5);have hz5:(w4.alloc (.cells #[.string a0,.string a1,.bool a2,.slice A5 m5 cp5] 134)).heap.size=w4.heap.size+1:=by simp
     clear hb5;generalize w4.alloc (.cells #[.string a0,.string a1,.bool a2,.slice A5 m5 cp5] 134)=w5 at *;obtain⟨i0,hi,hz0,hz1,hz2⟩:=dC.info;have Hi:=Hh hi;have Hz0:=Hh hz0;have Hz1:=Hh hz1;have Hz2:=Hh hz2;have HE35:=Hh ((HE3.o.trans HE4.o).trans (jY HB5.o));have HROW:=Hh (HS.o.row.kept (qHB HE35.o) (.inr (uD HS.o.row (by omega))));have HROW6:=Hh (HROW.o.alloc (.cells #[.string ⟨nm.toArray⟩,.string a0,.string a1,.bool a2,.slice A5 m5 cp5] 224));have HKID:=Hh (KidsCells.go (Q:=fun b=>w.heap.size+2≤b∧some b≠(Value.slice A l.length cap).ownBlock) HE35.o.size (fun b hb hp=>⟨(qHB HE35.o).block b hb (fun h=>by injection h with h;have:=hp.1;omega),hp⟩) l xs HS.o.kids);have HLO:=Hh (fun b hb=>(HS.o.row.lt b hb).2);have hll:l.length≤1000000:=by rw[HS.o.len];omega
     have y3:=ce3 HD5.o;obtain⟨n0,n1,n2,n3'⟩:=cq HN5.o;clear hi hz0 hz1 hz2;have HLT6:=Hh (show w.heap.size+1<(w5.alloc (.cells #[.string ⟨nm.toArray⟩,.string a0,.string a1,.bool a2,.slice A5 m5 cp5] 224)).heap.size from qA (qS w5 (.cells #[.string ⟨nm.toArray⟩,.string a0,.string a1,.bool a2,.slice A5 m5 cp5] 224) HD5.o));have HNE6:=Hh (show some (w.heap.size+1)≠(Value.slice A l.length cap).ownBlock from fun h=>uD HS.o.row (by omega) h.symm);have HD6:=Hh (qS w5 (.cells #[.string ⟨nm.toArray⟩,.string a0,.string a1,.bool a2,.slice A5 m5 cp5] 224) HD5.o);have HBS6:=Hh (show w.heap.size+2≤(w5.alloc (.cells #[.string ⟨nm.toArray⟩,.string a0,.string a1,.bool a2,.slice A5 m5 cp5] 224)).heap.size by simp;omega);have HS5:=Hh hz5;have HS4:=Hh hz4;clear hz5 hz4;go_wp2_with (at_builtin;refine Stl.wpList_app _ rfl _ _ 132 rfl (w.heap.size+2) 224 i0 _ 5 80 Tryz.underlying132 Hi.o Hz0.o Hz1.o Hz2.o rfl (by decide) (.slice A l.length cap) l.length xs rfl HROW6.o (some ⟨w5.heap.size,0,none⟩) 1 1 [.string ⟨nm.toArray⟩,.string a0,.string a1,.bool a2,.slice A5 m5 cp5] rfl rfl (fun h=>by cases h) (jD _ _ _) (by simp[Value.oneCell']) (by unfold maxLen;omega) (by omega) HBS6.o ?_;intro A6 c6 w8 hown8 hgr8 hat8;have HOWN8:=Hh hown8;have HGR8:=Hh hgr8;have HAT8:=Hh hat8;have HD8:=Hh ((hgr8.block (w.heap.size+1) HLT6.o HNE6.o).trans HD6.o);have f13:w8.frozen? ⟨w.heap.size+1,3,none⟩=false:=qC HD8.o 3;have g13:w8.cell? ⟨w.heap.size+1,3,none⟩=some (.slice A l.length cap):=zJ1 w8 _ 3 _ _ _ HD8.o;clear hown8 hgr8 hat8);go_roundw
     case rel =>
      have hs5:=HS5.o;have hs4:=HS4.o;have hll1:(l++[(nm,x)]).length=l.length+1:=by simp
      have HBK:=Hh (show ∀ b,b<w5.heap.size→b≠w.heap.size+1→some b≠(Value.slice A l.length cap).ownBlock→(w8.setCell ⟨w.heap.size+1,3,none⟩ (.slice A6 (l.length+1) c6)).heap[b]?=w5.heap[b]? from fun b h1 h2 h3 =>
       (zA _ ⟨w.heap.size+1,3,none⟩ _ b h2).trans ((HGR8.o.block b (by simp;omega) h3).trans (Below.heap_alloc _ _ b h1)))
      have HOWNX:=Hh (show ∀ b,b<w5.heap.size→some b≠(Value.slice A l.length cap).ownBlock→some b≠(Value.slice A6 (l.length+1) c6).ownBlock from fun b h1 h2 h3=>by
       rcases HAT8.o with h | h
       ·exact h2 (h3.trans h)
       ·rw[h] at h3
        injection h3 with h3
        simp at h3
        omega)
      refine⟨j+1,l++[(nm,x)],s3,n3,A6,c6,xs++[.string ⟨nm.toArray⟩,.string a0,.string a1,.bool a2,.slice A5 m5 cp5],by omega,rfl,Hh ⟨?_,?_,?_,?_,?_,?_,?_,HRS.o,?_,?_⟩⟩
      ·exact((HE5.o.alloc _).grown HGR8.o (fun b hb hlt=>by have:=(HS.o.row.lt b hb).1;omega)).setCell (fun h=>absurd h (Nat.not_lt.2 (Nat.le_succ _))) _
      ·exact(HBK.o _ (by omega) (by omega) (fun h=>uD HS.o.row (by omega) h.symm)).trans HZ5.o
      ·have:=qH HD8.o 3 (.slice A6 (l.length+1) c6);rw[hll1];simpa using this
      ·exact(HBK.o r (by omega) (by omega) (fun h=>uD HS.o.row (by omega) h.symm)).trans HR5.o
      ·rw[hll1];exact HOWN8.o.kept vJ (.inr (uD HOWN8.o (by omega)))
      ·rw[hll1];refine KidsCells.append l [(nm,x)] xs _ (KidsCells.go (by have:=HGR8.o.size;simp[World.setCell] at this ⊢;omega) (fun b hb hp=>⟨HBK.o b hb (by have:=hp.1;omega) hp.2,hp.1,HOWNX.o b hb hp.2⟩) l xs HKID.o) ?_;refine⟨_,_,_,_,[],rfl,by omega,?_,rfl⟩;refine NodeP.go (by have:=HGR8.o.size;simp[World.setCell] at this ⊢;omega) (fun b hb hp=>?_) _ _ HX4.o;have hnb:some b≠(Value.slice A l.length cap).ownBlock:=fun h=>by
        have:=HLO.o b h.symm;omega
       refine⟨(HBK.o b (by omega) (by omega) hnb).trans (HB5.o.block b hb),by omega,HOWNX.o b (by omega) hnb⟩
      ·rw[hll1,HS.o.len]
      ·omega
      ·exact hmore.2.1
     case measure=>simp[intOf];omega
  ·have i1:¬ (j:Int)<(k:Int):=by omega
   obtain rfl:j=k:=by omega
   have HX2:=Hh (show wT f s n=.ok (.mk kDir [] false l,sj,nj) by
    rw[HX.o,HS.o.res,Nat.sub_self]
    show (match oL l (vR (jM f) 0 sj nj) with | .error e=>(.error e:Stl.Rd Nd) | .ok (l,s2,n2)=>.ok (.mk kDir [] false l,s2,n2))=_
    simp[oL,vR])
   have HX:=HX2;clear HX2;obtain⟨z0,z1,z2,z3⟩:=cq HS.o.zero;have f0:wr.frozen? ⟨w.heap.size,0,none⟩=false:=qC HS.o.zero 0;have f1:wr.frozen? ⟨w.heap.size,1,none⟩=false:=qC HS.o.zero 1;have f2:wr.frozen? ⟨w.heap.size,2,none⟩=false:=qC HS.o.zero 2;have f3:wr.frozen? ⟨w.heap.size,3,none⟩=false:=qC HS.o.zero 3;obtain⟨y0,y1,y2,y3⟩:=cq HS.o.own;go_wp2_with fail;obtain⟨w9,E9,HF,HEF⟩:=mS HS.o.zero HS.o.ext (fun h=>absurd h (zr w.heap.size)) (.string ⟨#[100,105,114]⟩) (.string ⟨#[]⟩) (.bool false) (.slice A l.length cap);clear z0 z1 z2 z3 f0 f1 f2 f3 y0 y1 y2 y3;have HRD9:=Hh (show RdAt w9 r sj nj from by rw[← E9.o];exact(((vJ.block r (by simp[World.setCell];omega) (fun h=>by injection h with h;omega)).trans ((vJ.block r (by simp[World.setCell];omega) (fun h=>by injection h with h;omega)).trans ((vJ.block r (by simp[World.setCell];omega) (fun h=>by injection h with h;omega)).trans (vJ.block r (by omega) (fun h=>by injection h with h;omega))))).trans HS.o.rd));have HND9:=Hh (NodeP.set4 (x:=w.heap.size) (u0:=.string ⟨#[100,105,114]⟩) (u1:=.string ⟨#[]⟩) (u2:=.bool false) (u3:=.slice A l.length cap) (qGY (P:=fun b=>w.heap.size+2≤b) (k:=kDir) (d:=[]) (e:=false) (by decide) (by decide) (by rw[HS.o.len];omega) HS.o.row (KidsCells.go (zo _) (fun b _ hp=>⟨rfl,hp.1⟩) l xs HS.o.kids) (fun g hg=>(HS.o.row.lt g hg).1)) (fun b hb=>by omega));rw[E9.o];rw[E9.o] at HND9;obtain⟨r0,r1,r2,r3⟩:=cq HF.o;refine zH1 (v:=.tuple #[.agg #[.string ⟨#[100,105,114]⟩,.string ⟨#[]⟩,.bool false,.slice A l.length cap],.nilIface]) ?_ rfl ⟨HEF.o,?_⟩
   ·simp[results,Tryz.results231,go_sem,r0,r1,r2,r3]
   ·rw[HX.o];exact⟨_,_,_,_,_,_,_,rfl,rfl,HRD9.o,NodeP.go (zo _) (fun b _ hp=>⟨rfl,by omega⟩) _ _ HND9.o⟩
end
end Go.Proofs.YtbmkaekimccdgaaGreatDoor
