/- Lemmas. -/
import Derived.Test.YtbmkaekimccdgaaGreatDoorBm26
set_option maxHeartbeats 16000000
set_option maxRecDepth 1000000
set_option linter.all false
namespace Go.Proofs.YtbmkaekimccdgaaGreatDoor
open Go.RowKit Go.Sort Go.Shelf Stl
theorem qIm (s:List UInt8)(hl:s.length≤140737488355328)(w:World) :
  Calls Tryz.prog 208 #[.string ⟨s.toArray⟩] w fun e w'=>e=.returned (.bool (!Stl.isName s))∧Below w.heap.size w w':=by
 have hN:=fun W=>gD s W (by omega)
 generalize Stl.isName s=r at hN;have HN:=Hh hN;clear hN;go_enter Tryz.func208,Tryz.ntmps208;go_wp2_with fail;refine(HN.o _).mono ?_;rintro e w1 ⟨rfl,hb⟩;go_wp2;go_ret;exact⟨rfl,hb⟩
theorem qEs (A:Option Addr)(c:Nat)(l:List (List UInt8))(hc2:l.length≤140737488355328)(hl:∀ x∈l,x.length≤140737488355328)(w:World)(hk:Strs w (.slice A l.length c) l) :
  Calls Tryz.prog 260 #[.slice A l.length c,.func (.func 208) #[] #[]] w fun e w'=>(∃ i:Int,e=.returned (.int .i64 i)∧decide (0≤i)=!(l.all Stl.isName))∧Below w.heap.size w w':=by
 have HK:=Hh hk;have HL:=Hh hl;clear hk hl;obtain⟨r,hr⟩:∃ r,r=l.all Stl.isName:=⟨_,rfl⟩;rw[← hr];have HR:=Hh hr;clear hr;go_enter Tryz.func260,Tryz.ntmps260;go_wp2_with fail
 go_loopw [8] (fun a wr=>Below w.heap.size w wr∧∃ k:Nat,k≤l.length∧a=.int .i64 k∧Hg ((l.take k).all Stl.isName=true)) (fun a _=>l.length-(intOf a).toNat)
 case atStart=>exact⟨zB _ _,0,zw _,rfl,Hh rfl⟩
 case round =>
  obtain⟨hb,k,hk,rfl,HP⟩:=hrel;have HB:=Hh hb;clear hb;by_cases hkn:k<l.length
  ·have i1:(k:Int)<(l.length:Int):=by omega
   have i2:(0:Int)≤(k:Int):=by omega
   obtain⟨b,off,rfl,hlt,h0⟩:=(HK.o.later HB.o).cellAt hkn;have HX:=Hh (show l.take (k+1)=l.take k++[l[k]] from zn hkn);have HM:=Hh (show l[k]∈l from zO hkn);generalize l[k]=nm at HX h0 HM;go_wp2_with fail;refine(qIm nm (HL.o nm HM.o) _).mono ?_;rintro e w2 ⟨rfl,hb2⟩;have HB2:=Hh (HB.o.trans (hb2.mono HB.o.size));clear hb2 h0
   cases hq:Stl.isName nm
   ·have HF:=Hh (show r=false by
     rw[HR.o,Bool.eq_false_iff]
     intro h
     have:=List.all_eq_true.1 h _ HM.o
     rw[hq] at this
     cases this)
    clear hq;go_wp2;go_ret;refine⟨⟨_,rfl,?_⟩,HB2.o⟩;rw[HF.o];simp
   ·have HQ:=Hh hq;clear hq;go_wp2;go_roundw
    case rel =>
     refine⟨HB2.o,k+1,hkn,rfl,Hh ?_⟩;rw[HX.o,List.all_append,HP.o];simp[HQ.o]
    case measure=>simp[intOf];omega
  ·have i1:¬ (k:Int)<(l.length:Int):=by omega
   have HF:=Hh (show r=true by
    have:=HP.o
    rw[zm (by omega)] at this
    rw[HR.o,this])
   go_wp2;go_ret;refine⟨⟨_,rfl,?_⟩,HB.o⟩;rw[HF.o];decide
theorem qCf (A:Option Addr)(c:Nat)(l:List (List UInt8))(hc2:l.length≤140737488355328)(hl:∀ x∈l,x.length≤140737488355328)(w:World)(hk:Strs w (.slice A l.length c) l) :
  Calls Tryz.prog 207 #[.slice A l.length c,.func (.func 208) #[] #[]] w fun e w'=>e=.returned (.bool !(l.all Stl.isName))∧Below w.heap.size w w':=by
 have h:=qEs A c l hc2 hl w hk;generalize (!(l.all Stl.isName))=r at h;clear hk;go_enter Tryz.func207,Tryz.ntmps207;go_wp2_with fail;refine h.mono ?_;rintro e w' ⟨⟨i,rfl,hi⟩,hb⟩;have HI:=Hh hi;clear hi;go_wp2;go_ret;exact⟨by rw[← HI.o];rfl,hb⟩
def qKB (p:Nat→Addr)(r:Option (List (List UInt8)))(ev:Ending)(w':World):Prop :=
 match r with
 | none=>ev=.returned (.tuple #[.slice none 0 0,jK p 5])
 | some l=>∃ A c,ev=.returned (.tuple #[.slice A l.length c,.nilIface])∧Strs w' (.slice A l.length c) l∧l.length≤c
theorem qFM {p:Nat→Addr}(s:List UInt8)(hs:s.length≤4000000)(w:World)(hE:Errs w p)(hm:∃ m,w.cell? ⟨14,0,none⟩=some (.int .i64 m)) :
  Calls Tryz.prog 157 #[.string ⟨s.toArray⟩] w fun ev w'=>Below w.heap.size w w'∧qKB p (qQ s) ev w':=by
 obtain⟨m,hm⟩:=hm;have HS:=Hh (show qQ s=if s=[47] then some [] else match qG 47 s with
  | []::l=>if l=[]∨8<l.length∨l.all isName=false then none else some l
  | _=>none from rfl)
 generalize qQ s=res at HS ⊢;have hsp:=(qCB 47 s.length s (zo _));have hsh:=qAh 47 s;have hct:=kY 47 s;have hcut:=xE 47 s;have hspl:=Tryz.strings_Split ⟨s.toArray⟩ ⟨#[47]⟩ m w (by show s.toArray.size<4294967281;simp;omega) hm (by decide);rw[hsp.1,hsp.2] at hspl
 replace hspl:=hspl.mono (R':=fun e w'=>e=.returned (.slice (some ⟨w.heap.size,0,none⟩) (qG 47 s).length (qG 47 s).length)∧Below w.heap.size w w'∧w'.heap[w.heap.size]?=some (.cells (((qG 47 s).map fun x=>(⟨x.toArray⟩:ByteArray)).map Value.string).toArray 9 (0,0))) (by
  rintro e w' ⟨rfl,rfl⟩
  exact⟨rfl,(zB _ w).alloc (zo _) _,zK1 w _⟩)
 have hL:(qG 47 s)≠[]:=by rw[hcut];split<;>simp
 generalize qG 47 s=L at hspl hsh hct HS hL;have HSPL:=Hh hspl;have HSH:=Hh hsh;have HCT:=Hh hct;have HL:=Hh hL;have HE:=Hh hE;clear hsp hsh hct hcut hspl hL hE hm
 rcases (show (s=[47]∧(s==[47])=true)∨(s≠[47]∧(s==[47])=false) from by
   by_cases h:s=[47]
   ·exact .inl ⟨h,by subst h;decide⟩
   ·exact .inr ⟨h,by simpa using h⟩) with ⟨hk,hk'⟩ | ⟨hk,hk'⟩
 ·rw[zM1 hk] at HS;clear hk;go_enter Tryz.func157,Tryz.ntmps157;go_wp2_with fail;go_ret2;refine⟨zB _ _,?_⟩;rw[HS.o];exact⟨none,0,rfl,⟨none,0,rfl,fun h=>absurd rfl h⟩,zo _⟩
 ·rw[zL1 hk] at HS;clear hk;go_enter Tryz.func157,Tryz.ntmps157;go_upto_region 4 with (go_at_call 19;refine HSPL.o.mono ?_;rintro ev w1 ⟨rfl,hb1,hx1⟩;have HB1:=Hh hb1;have HX:=Hh hx1;clear hb1 hx1);have cs:∀ (j:Nat) x,L[j]?=some x→w1.cell? ⟨w.heap.size,j,none⟩=some (.string ⟨x.toArray⟩):=fun j x hx=>by
   rw[qKc HX.o j];simp[hx]
  rcases L with _ | ⟨hd,l⟩
  ·exact absurd rfl HL.o
  ·have c0:=cs 0 hd rfl;have ER:=Hh (HE.o.later HB1.o);have hg5:=ER.o.cell 5 (by omega) (by omega);rw[qD p (by omega)] at hg5;have hg6:w1.cell? ⟨4,0,none⟩=some (.iface 376 (.pointer (some (p 5)))):=hg5;have i1:(0:Int)<((hd::l).length:Int):=by simp
   simp only[zQ] at i1 ⊢
   rcases hd with _ | ⟨x,t⟩
   ·have hlen:(l.length:Int)+1-1=l.length:=by omega
    rcases Nat.eq_zero_or_pos l.length with h0 | h0
    ·have h1:l=[]:=zH h0;subst h1;have HR:=Hh (show res=none by rw[HS.o];rfl);clear cs HS;go_wp2_with fail
     go_region
     go_wp2;go_ret2;refine⟨HB1.o.drew,?_⟩;rw[HR.o];show _=Ending.returned (.tuple #[.slice none 0 0,jK p 5]);rw[qD p (by decide)];rfl
    ·have j1:¬ (l.length:Int)+1<2:=by omega
     have j3:(1:Int)≤(l.length:Int)+1:=by omega
     have hlb:l.length≤4000000:=by have:=HCT.o;simp at this;omega
     have hne:(l=[])=False:=by rw[eq_iff_iff,iff_false];intro e;rw[e] at h0;simp at h0
     by_cases h8:8<l.length
     ·have j2:(8:Int)<(l.length:Int):=by omega
      have HR:=Hh (show res=none by rw[HS.o];simp[h8]);clear cs HS;go_wp2_with fail
      go_region
      go_wp2;go_ret2;refine⟨HB1.o.drew,?_⟩;rw[HR.o];show _=Ending.returned (.tuple #[.slice none 0 0,jK p 5]);rw[qD p (by decide)];rfl
     ·have j2:¬ (8:Int)<(l.length:Int):=by omega
      have HST:=Hh (show Strs w1 (.slice (some ⟨w.heap.size,1,none⟩) l.length l.length) l from ⟨_,_,rfl,fun _=>⟨w.heap.size,1,rfl,qA HX.o,fun j x hx=>by
       rw[Nat.add_comm]
       exact cs (j+1) x (by simpa using hx)⟩⟩)
      have HSC:=Hh (qCf (some ⟨w.heap.size,1,none⟩) l.length l (by omega) (fun x hx=>by have:=HSH.o x (by simp[hx]);omega) w1 HST.o);have hg7:=fun W (hW:Below w1.heap.size w1 W)=>(ER.o.later hW).cell 5 (by omega) (by omega)
      rw[qD p (by omega)] at hg7;have HG7:=Hh hg7
      cases hq:l.all isName with
      | false =>
       have HR:=Hh (show res=none by rw[HS.o];simp[hq]);rw[hq] at HSC;clear cs HS hq hg7;go_upto_region 5 with (go_at_call 207;refine HSC.o.mono ?_;rintro ev w3 ⟨rfl,hb3⟩;have HB3:=Hh (HB1.o.trans (hb3.mono HB1.o.size));have hg8:w3.cell? ⟨4,0,none⟩=some (.iface 376 (.pointer (some (p 5)))):=HG7.o w3 hb3;clear hb3)
       go_region
       go_wp2;go_ret2;refine⟨HB3.o.drew,?_⟩;rw[HR.o];show _=Ending.returned (.tuple #[.slice none 0 0,jK p 5]);rw[qD p (by decide)];rfl
      | true =>
       have HR:=Hh (show res=some l by rw[HS.o];simp[h8,hq];exact fun e=>by rw[e] at h0;simp at h0);rw[hq] at HSC;clear cs HS hq hg7;go_wp2_with (go_at_call 207;refine HSC.o.mono ?_;rintro ev w3 ⟨rfl,hb3⟩;have HB3:=Hh (HB1.o.trans (hb3.mono HB1.o.size));have HST3:=Hh (HST.o.later hb3);clear hb3);go_ret2;refine⟨HB3.o,?_⟩;rw[HR.o];exact⟨_,_,rfl,HST3.o,zo _⟩
   ·have HR:=Hh (show res=none by rw[HS.o]);clear cs;go_wp2_with fail
    go_region
    go_wp2;go_ret2;refine⟨HB1.o.drew,?_⟩;rw[HR.o];show _=Ending.returned (.tuple #[.slice none 0 0,jK p 5]);rw[qD p (by decide)];rfl
section
variable {w:World}{c:Nat→Col}{b:Nat}{d:Stl.Dirs}
theorem qFh {p:Nat→Addr}(h:DirsAt w c b d)(k:Nat)(hk:k≤1000000)(hE:Errs w p){e:Ent}(he:qN d.l k=some e) :
  Calls Tryz.prog 136 #[.pointer (some ⟨b,0,none⟩),.int .i64 k] w (dL (qR e.n) w):=by
 obtain⟨bt,bm,nd,fm,h⟩:=h;obtain⟨k',d',e',ks,A,cap,hn,hnd,hnp⟩:=h.ent he;have hlk:=h.lookOk hk he;rw[hnd] at hlk;simp only[zE,zh] at hlk;have c1:=ce1 h.own;have hb1:Below w.heap.size w (w.alloc (.cells #[.string ⟨k'.toArray⟩,.string ⟨d'.toArray⟩,.bool e',.slice A ks.length cap,.map (some (fm k))] 203)):=(zB _ w).alloc (zo _) _;have HX:=Hh (zK1 w (.cells #[.string ⟨k'.toArray⟩,.string ⟨d'.toArray⟩,.bool e',.slice A ks.length cap,.map (some (fm k))] 203));have HF:=Hh (qCY p (.mk k' d' e' ks) _ _ (hE.later hb1) (NodeAt.later hb1 _ _ (NodeP.at _ _ hnp)));rw[hn];have HB1:=Hh hb1;generalize qR (.mk k' d' e' ks)=res at HF ⊢;clear h he hE hnd hn hnp hb1;go_enter Tryz.func136,Tryz.ntmps136;go_upto_region 4 with fail;clear hlk c1;generalize w.alloc (.cells #[.string ⟨k'.toArray⟩,.string ⟨d'.toArray⟩,.bool e',.slice A ks.length cap,.map (some (fm k))] 203)=w2 at *;obtain⟨q0,q1,q2,q3⟩:=cq HX.o;go_wp2_with (go_at_call 63;refine HF.o.mono ?_;rintro ev w3 ⟨A3,c3,rfl,hr3,hb3⟩;have HR3:=Hh hr3;have HB3:=Hh hb3;clear hr3 hb3);go_ret;refine⟨A3,c3,rfl,?_,HB1.o.trans (HB3.o.mono HB1.o.size)⟩;obtain⟨h1,h2⟩:=HR3.o;refine⟨h1,?_⟩
 rcases h2 with h2 | ⟨g,cp,cur,e1,e2,e3⟩
 ·exact .inl h2
 ·exact .inr ⟨g,cp,cur,e1,zq HB1.o.size e2,e3⟩
def wJ (d:Stl.Dirs)(k:Nat)(s:List UInt8):Except Nat Nat :=
 match qN d.l k with
 | none=>.error 6
 | some e=>match qQ s with
  | none=>.error 5
  | some _=>match jV e.f s with
   | none=>.error 6
   | some n=>.ok n
def oA (p:Nat→Addr):Except Nat Nat→Array Value
 | .ok n=>#[.int .i64 n,.nilIface]
 | .error cd=>#[.int .i64 0,jK p cd]
theorem qCN {p:Nat→Addr}(h:DirsAt w c b d)(k:Nat)(hk:k≤1000000)(s:List UInt8)(hs:s.length≤4000000)(hE:Errs w p)(hm:∃ m,w.cell? ⟨14,0,none⟩=some (.int .i64 m)){e:Ent}(he:qN d.l k=some e) :
  Calls Tryz.prog 137 #[.pointer (some ⟨b,0,none⟩),.int .i64 k,.string ⟨s.toArray⟩] w fun ev w'=>ev=.returned (.tuple (oA p (wJ d k s)))∧Below w.heap.size w w':=by
 obtain⟨bt,bm,nd,fm,h⟩:=h;obtain⟨k',d',e',ks,A,cap,hn,hnd,hnp⟩:=h.ent he;have HRR:=Hh (show wJ d k s=match qQ s with | none=>.error 5 | some _=>match jV e.f s with | none=>.error 6 | some n=>.ok n by unfold wJ;rw[he]);generalize wJ d k s=res at HRR ⊢;have hlk:=h.lookOk hk he;rw[hnd] at hlk;simp only[zE,zh] at hlk;have c1:=ce1 h.own;have hb1:Below w.heap.size w (w.alloc (.cells #[.string ⟨k'.toArray⟩,.string ⟨d'.toArray⟩,.bool e',.slice A ks.length cap,.map (some (fm k))] 203)):=(zB _ w).alloc (zo _) _;have HX:=Hh (zK1 w (.cells #[.string ⟨k'.toArray⟩,.string ⟨d'.toArray⟩,.bool e',.slice A ks.length cap,.map (some (fm k))] 203));have HB1:=Hh hb1;have HSP:=Hh (qFM s hs (w.alloc (.cells #[.string ⟨k'.toArray⟩,.string ⟨d'.toArray⟩,.bool e',.slice A ks.length cap,.map (some (fm k))] 203)) (hE.later hb1) (by
  obtain⟨m,hm⟩:=hm
  exact⟨m,(hb1.cell (p:=⟨14,0,none⟩) (lt_of_cell hm)).trans hm⟩))
 have HE:=Hh hE;have HF:=Hh (h.files k e he);clear h he hE hnd hn hnp hb1 hm;go_enter Tryz.func137,Tryz.ntmps137;go_upto_region 4 with fail;clear hlk c1;generalize w.alloc (.cells #[.string ⟨k'.toArray⟩,.string ⟨d'.toArray⟩,.bool e',.slice A ks.length cap,.map (some (fm k))] 203)=w2 at *
 cases hsp:qQ s with
 | none =>
  rw[hsp] at HSP HRR;have HR:=Hh (show res=.error 5 from HRR.o);have HEO:=Hh (qD p (c:=5) (by decide));clear hsp HRR;go_upto_region 5 with (go_at_call 157;refine HSP.o.mono ?_;rintro ev w3 ⟨hb3,rfl⟩;have HB3:=Hh (HB1.o.trans (hb3.mono HB1.o.size));clear hb3);rw[HEO.o];go_wp2_with fail;go_ret2;refine⟨?_,HB3.o⟩;rw[HR.o];show _=Ending.returned (.tuple #[.int .i64 0,jK p 5]);rw[qD p (by decide)];rfl
 | some l =>
  rw[hsp] at HSP HRR;clear hsp;go_upto_region 7 with (go_at_call 157;refine HSP.o.mono ?_;rintro ev w3 ⟨hb3,A3,c3,rfl,hst⟩;have HB3:=Hh (HB1.o.trans (hb3.mono HB1.o.size));have HX3:=Hh ((hb3.block _ (qA HX.o)).trans HX.o);clear hb3 hst);have q4:=ce4 HX3.o;have hlk:=(HF.o.ext (c:=fun _=>Col.free) (S:=S0) (Ext.of_below HB3.o _ S0) rfl rfl).getOk (t:=201) okS Tryz.underlying201 (dD w3) (i:=s) (by unfold maxLen;omega);simp only[mkS,fileAt] at hlk
  cases hna:jV e.f s with
  | none =>
   rw[hna] at hlk HRR;simp only[Option.map_none,Option.getD_none,Option.isSome_none] at hlk;have HR:=Hh (show res=.error 6 from HRR.o);have hg:=(HE.o.later HB3.o).cell 6 (by omega) (by omega);rw[qD p (by omega)] at hg;have hg6:w3.cell? ⟨5,0,none⟩=some (.iface 376 (.pointer (some (p 6)))):=hg;clear hna HRR hg;go_upto_region 9 with fail
   go_region
   go_wp2;go_ret2;refine⟨?_,HB3.o.drew⟩;rw[HR.o];show _=Ending.returned (.tuple #[.int .i64 0,jK p 6]);rw[qD p (by decide)];rfl
  | some n =>
   rw[hna] at hlk HRR;simp only[zA1,zx,Option.isSome_some] at hlk;have HR:=Hh (show res=.ok n from HRR.o);clear hna HRR;go_wp2_with fail;go_ret2;refine⟨?_,HB3.o⟩;rw[HR.o];rfl
end
def nB (T:Tab)(a b:Nat)(x y:Ino):Except Nat Bool :=
 match T.read a with
 | .error cd=>.error cd
 | .ok s=>match T.read b with
  | .error cd=>.error cd
  | .ok r=>.ok (s==r&&x.exec==y.exec)
def qNh (p:Nat→Addr):Except Nat Bool→Array Value
 | .ok r=>#[.bool r,.nilIface]
 | .error cd=>#[.bool false,jK p cd]
section
variable {w:World}{c:Nat→Col}{b:Nat}{d:Stl.Dirs}{p:Nat→Addr}
theorem qIk (h:DirsAt w c b d)(hd:DirsGood d)(m n:Nat)(hm:m≤1000000)(hn:n≤1000000){x y:Ino}(hx:d.t.at_ m=some x)(hy:d.t.at_ n=some y)(hE:Errs w p) :
  Calls Tryz.prog 273 #[.pointer (some ⟨b,0,none⟩),.int .i64 m,.int .i64 n] w fun ev w'=>ev=.returned (.tuple (qNh p (nB d.t m n x y)))∧Below w.heap.size w w':=by
 obtain⟨bt,bm,nd,fm,h⟩:=h;obtain⟨res,hres⟩:∃ res,res=nB d.t m n x y:=⟨_,rfl⟩;rw[← hres];have HR:=Hh hres;have c0:=ce0 h.own;have hbl:=lt_of_cell c0;have HD:=Hh hd;have HT:=Hh h.tab;have HE:=Hh hE;have HXM:=Hh hx;have HYM:=Hh hy;have HR1:=Hh (xM h.tab hd.ok.tab hd.disk m hm hE);clear h hd hx hy hE hres;have HC0:=Hh c0;go_enter Tryz.func273,Tryz.ntmps273
 cases hra:d.t.read m with
 | error cd =>
  rw[hra,show mL p (.error cd)=#[.string ⟨#[]⟩,jK p cd] from rfl,qD p (gQ hra)] at HR1;have HEO:=Hh (qD p (gQ hra));have HRS:=Hh (show res=.error cd by rw[HR.o];unfold nB;rw[hra]);clear hra;go_wp2_with (go_at_call 186;refine HR1.o.mono ?_;rintro ev w2 ⟨rfl,hb2⟩;have HB2:=Hh hb2;clear hb2);go_ret2;refine⟨?_,HB2.o⟩;rw[HRS.o];show _=Ending.returned (.tuple #[.bool false,jK p cd]);rw[HEO.o];rfl
 | ok s =>
  rw[hra,show mL p (.ok s)=#[.string ⟨s.toArray⟩,.nilIface] from rfl] at HR1;go_upto_region 4 with (go_at_call 186;refine HR1.o.mono ?_;rintro ev w2 ⟨rfl,hb2⟩;have HB2:=Hh hb2;clear hb2);have c0:w2.cell? ⟨b,0,none⟩=some (.pointer (some ⟨bt,0,none⟩)):=(HB2.o.cell (p:=⟨b,0,none⟩) hbl).trans HC0.o;have HR2:=Hh (xM (HT.o.below HB2.o) HD.o.ok.tab HD.o.disk n hn (HE.o.later HB2.o))
  cases hrb:d.t.read n with
  | error cd =>
   rw[hrb,show mL p (.error cd)=#[.string ⟨#[]⟩,jK p cd] from rfl,qD p (gQ hrb)] at HR2;have HEO:=Hh (qD p (gQ hrb));have HRS:=Hh (show res=.error cd by rw[HR.o];unfold nB;rw[hra];simp only[hrb]);clear hra hrb;go_wp2_with (go_at_call 186;refine HR2.o.mono ?_;rintro ev w3 ⟨rfl,hb3⟩;have HB3:=Hh (HB2.o.trans (hb3.mono HB2.o.size));clear hb3);go_ret2;refine⟨?_,HB3.o⟩;rw[HRS.o];show _=Ending.returned (.tuple #[.bool false,jK p cd]);rw[HEO.o];rfl
  | ok r =>
   rw[hrb,show mL p (.ok r)=#[.string ⟨r.toArray⟩,.nilIface] from rfl] at HR2;have HRS:=Hh (show res=.ok (s==r&&x.exec==y.exec) by rw[HR.o];unfold nB;rw[hra];simp only[hrb]);clear hra hrb;go_upto_region 7 with (go_at_call 186;refine HR2.o.mono ?_;rintro ev w3 ⟨rfl,hb3⟩;have HB3:=Hh (HB2.o.trans (hb3.mono HB2.o.size));clear hb3);clear c0;have c0:w3.cell? ⟨b,0,none⟩=some (.pointer (some ⟨bt,0,none⟩)):=(HB3.o.cell (p:=⟨b,0,none⟩) hbl).trans HC0.o;have HS1:=Hh (wE (HT.o.below HB3.o) HD.o.ok.tab m hm HXM.o);simp only[uI,jN] at HS1;go_upto_region 8 with (go_at_call 184;refine HS1.o.mono ?_;rintro ev w4 ⟨A1,cap1,rfl,hr4,hb4⟩;have HB4:=Hh (HB3.o.trans (hb4.mono HB3.o.size));clear hb4 hr4);have hb5:Below w4.heap.size w4 (w4.alloc (.cells #[.int .i64 x.bytes,.int .i64 x.links,.bool x.exec,.slice A1 x.blocks.length cap1,.int .u32 x.sum.toNat] 254)):=(zB _ w4).alloc (zo _) _;have HB5:=Hh (HB4.o.trans (hb5.mono HB4.o.size));have HX5:=Hh (zK1 w4 (.cells #[.int .i64 x.bytes,.int .i64 x.links,.bool x.exec,.slice A1 x.blocks.length cap1,.int .u32 x.sum.toNat] 254));clear c0 hb5;generalize w4.alloc (.cells #[.int .i64 x.bytes,.int .i64 x.links,.bool x.exec,.slice A1 x.blocks.length cap1,.int .u32 x.sum.toNat] 254)=w5 at *;have c0:w5.cell? ⟨b,0,none⟩=some (.pointer (some ⟨bt,0,none⟩)):=(HB5.o.cell (p:=⟨b,0,none⟩) hbl).trans HC0.o;have HS2:=Hh (wE (HT.o.below HB5.o) HD.o.ok.tab n hn HYM.o);simp only[uI,jN] at HS2;go_upto_region 9 with (go_at_call 184;refine HS2.o.mono ?_;rintro ev w6 ⟨A2,cap2,rfl,hr6,hb6⟩;have HB6:=Hh (HB5.o.trans (hb6.mono HB5.o.size));have HX6:=Hh ((hb6.block _ (qA HX5.o)).trans HX5.o);clear hb6 hr6);have hb7:Below w6.heap.size w6 (w6.alloc (.cells #[.int .i64 y.bytes,.int .i64 y.links,.bool y.exec,.slice A2 y.blocks.length cap2,.int .u32 y.sum.toNat] 254)):=(zB _ w6).alloc (zo _) _;have HB7:=Hh (HB6.o.trans (hb7.mono HB6.o.size));have HY7:=Hh (zK1 w6 (.cells #[.int .i64 y.bytes,.int .i64 y.links,.bool y.exec,.slice A2 y.blocks.length cap2,.int .u32 y.sum.toNat] 254));have HX7:=Hh ((hb7.block _ (qA HX6.o)).trans HX6.o);clear c0 hb7;generalize w6.alloc (.cells #[.int .i64 y.bytes,.int .i64 y.links,.bool y.exec,.slice A2 y.blocks.length cap2,.int .u32 y.sum.toNat] 254)=w7 at *;have x2:=ce2 HX7.o;have y2:=ce2 HY7.o;generalize x.exec=xe at x2 HRS;generalize y.exec=ye at y2 HRS
   cases hq:s==r with
   | false =>
    rw[hq] at HRS;go_wp2_with fail;go_ret2;exact⟨by rw[HRS.o];rfl,HB7.o⟩
   | true =>
    rw[hq] at HRS
    cases xe<;>cases ye
    all_goals
     go_wp2_with fail;go_ret2;exact⟨by rw[HRS.o];rfl,HB7.o⟩
end
theorem qKm (v0 v1 v2 v3 v4:Value)(w:World):(Instr.field 203 (.agg #[v0,v1,v2,v3,v4]) 1).run Tryz.prog w=.ok v4 w:=by kernel_rfl
theorem qII {n:Nd}(h:treeErr n=0){s:List UInt8}(hs:s∈qR n):∃ l,qQ s=some l:=by
 unfold qR at hs;obtain⟨x,hx,rfl⟩:=zb.1 hs;have:=qHe h (zZ.1 hx).1;unfold getPath at this;rw[zL1 (by simp[h])] at this
 cases hl:qQ (told x.path) with
 | none=>rw[hl] at this;cases this
 | some l=>exact⟨l,rfl⟩
theorem kA:∀ {f:List (List UInt8×Nat)} {s:List UInt8} {n:Nat},(f.map (·.1)).Nodup→(s,n)∈f→jV f s=some n
 | [],_,_,_,h=>by cases h
 | (a,m)::r,s,n,hn,h=>by
  obtain⟨h1,h2⟩:=List.nodup_cons.1 hn;rw[kE]
  rcases zY.1 h with e | e
  ·cases e;rw[zM1 rfl]
  ·rw[zL1 (fun (e2:a=s)=>h1 (by rw[e2];exact zb.2 ⟨_,e,rfl⟩))];exact kA h2 e
theorem qCG {d:Stl.Dirs}(hd:vC d){e:Ent}(he:e∈d.l){s:List UInt8}{m:Nat}(hf:(s,m)∈e.f):jV e.f s=some m∧(∃ l,qQ s=some l)∧s.length≤1000000:=by
 have hent:=jI hd.keys he;refine⟨kA (qFl hd hent) hf,qII (hd.well e he) ?_,qCJ hd hent _ hf⟩;rw[← hd.files e he];exact zb.2 ⟨_,hf,rfl⟩
section
variable {w:World}{c:Nat→Col}{b:Nat}{d:Stl.Dirs}{p:Nat→Addr}
theorem DirsIn.look {bt bm:Nat}{nd:Nat→List Value}{fm:Nat→Nat}(h:DirsIn w c b d bt bm nd fm){k:Nat}(hk:k≤1000000){e:Ent}(he:qN d.l k=some e) :
  (Instr.lookup 86 (.map (some bm)) (.int .i64 k) false).run Tryz.prog w=.ok (.agg (nd k++[Value.map (some (fm k))]).toArray) w:=by
 have hlk:=h.map.get (t:=86) okN Tryz.underlying86 (qGe w) (i:=k) (by omega);have hs:yC d.l nd fm k=some (.agg (nd k++[Value.map (some (fm k))]).toArray):=by unfold yC;rw[he];rfl
 rw[hs] at hlk;simpa only [zx,mkN] using hlk
theorem qLx (h:DirsAt w c b d)(hd:DirsGood d)(hE:Env w c p){e:Ent}(he:e∈d.l)(hk:e.k≤1000000){s:List UInt8}{was n:Nat}{t1 t2:Tab}(hf:(s,was)∈e.f)(hl:d.t.lesser was=some n)(h1:d.t.link n=.ok t1)(h2:t1.unlink was=.ok t2) :
  Calls Tryz.prog 230 #[.pointer (some ⟨b,0,none⟩),.int .i64 e.k,.string ⟨s.toArray⟩,.int .i64 n] w fun ev w'=>ev=.returned .nilIface∧∃ c2,Ext w w' c c2 pW∧DirsAt w' c2 b { d with t:=t2,l:=jZ d.l e.k s n }:=by
 have hent:=jI hd.ok.keys he;obtain⟨hna,⟨ls,hsp⟩,hsl⟩:=qCG hd.ok he hf;obtain⟨hlt,dat,hrw,hrn,hex⟩:=qBa hl;obtain⟨y,hy,ht1⟩:=wW h1;obtain⟨x1,hx1,ht2⟩:=xC h2;have hxw:∃ x,d.t.at_ was=some x∧x1=x:=by
  have:=pL hy h1 was;rw[zL1 (by omega),hx1] at this;exact⟨x1,this.symm,rfl⟩
 obtain⟨x,hx,rfl⟩:=hxw;have hsm:=hd.small hent _ hf;simp only at hsm;have hnl:n≤1000000:=by omega
 have hlx:=pH hd.ok hx;have hly:=pH hd.ok hy;have hents:=hd.ents;have hfew:=wR hd.ok he;have hex':(x1.exec==y.exec)=true:=by
  rw[hx,hy] at hex;simp at hex;simp[hex]
 have HIN:=Hh (qCN h e.k hk s (by omega) hE.errs hE.max hent);rw[show wJ d e.k s=.ok was by unfold wJ;rw[hent];simp only[hsp,hna],show oA p (.ok was)=#[.int .i64 was,.nilIface] from rfl] at HIN;have HDA:=Hh h;obtain⟨bt,bm,nd,fm,h⟩:=h;have HDI:=Hh h;have hbl:=qA h.own;have HD:=Hh hd;have HE:=Hh hE.errs;have HX:=Hh hx;have HY:=Hh hy;have HEN:=Hh hent;have HNA:=Hh hna;have HTT:=Hh ht2;have HT1:=Hh ht1;have HOK1:=Hh (qKp hd.ok.tab h1);have HX1:=Hh hx1;have HDK:=Hh (show t1.disk.length≤1000000 by rw[ht1];exact hd.disk);have HAL:=Hh (show nB d.t was n x1 y=.ok true by
  unfold nB
  rw[hrw]
  simp only[hrn,hex']
  simp)
 have i1:¬ (was:Int)=(n:Int):=by omega
 clear h hd hE he hf hl h1 h2 hent hna hsp hrw hrn hex hy ht1 hx1 ht2 hx hex' hlt;go_enter Tryz.func230,Tryz.ntmps230;go_upto_region 4 with (go_at_call 137;refine HIN.o.mono ?_;rintro ev w1 ⟨rfl,hb1⟩;have HB1:=Hh hb1;clear hb1);have c0:w1.cell? ⟨b,0,none⟩=some (.pointer (some ⟨bt,0,none⟩)):=(HB1.o.cell (p:=⟨b,0,none⟩) hbl).trans (zJ1 w b 0 _ _ _ HDI.o.own);have HS1:=Hh (wE (HDI.o.tab.below HB1.o) HD.o.ok.tab n hnl HY.o);simp only[uI,jN] at HS1;go_upto_region 5 with (go_at_call 184;refine HS1.o.mono ?_;rintro ev w2 ⟨A1,cap1,rfl,hr2,hb2⟩;have HB2:=Hh (HB1.o.trans (hb2.mono HB1.o.size));clear hb2 hr2);have hb3:Below w2.heap.size w2 (w2.alloc (.cells #[.int .i64 y.bytes,.int .i64 y.links,.bool y.exec,.slice A1 y.blocks.length cap1,.int .u32 y.sum.toNat] 254)):=(zB _ w2).alloc (zo _) _;have HB3:=Hh (HB2.o.trans (hb3.mono HB2.o.size));clear c0 hb3;generalize w2.alloc (.cells #[.int .i64 y.bytes,.int .i64 y.links,.bool y.exec,.slice A1 y.blocks.length cap1,.int .u32 y.sum.toNat] 254)=w3 at *;have HA4:=Hh (qIk (HDA.o.below HB3.o) HD.o was n hsm hnl HX.o HY.o (HE.o.later HB3.o));rw[HAL.o,show qNh p (.ok true)=#[.bool true,.nilIface] from rfl] at HA4;go_upto_region 14 with (go_at_call 273;refine HA4.o.mono ?_;rintro ev w4 ⟨rfl,hb4⟩;have HB4:=Hh (HB3.o.trans (hb4.mono HB3.o.size));clear hb4);have HI4:=Hh (HDI.o.below HB4.o);have c0:=ce0 HI4.o.own;have HL5:=Hh (qLX HI4.o.tab n hnl HY.o (by omega));go_upto_region 17 with (go_at_call 274;refine HL5.o.mono ?_;rintro ev w5 ⟨rfl,he5,ht5⟩;have HE5:=Hh he5;have HT5:=Hh ht5;clear he5 ht5);rw[← HT1.o] at HT5;have HBU5:=Hh (HI4.o.but.ext HE5.o rfl rfl rfl (fun _=>rfl));clear c0;have c1:=ce1 HBU5.o.own;have hlk:=(HBU5.o.full HT5.o).look hk HEN.o;have hf1:=qKm;obtain⟨k',d',e',ks,A,cap,hn,hnd,hnp⟩:=(HBU5.o.full HT5.o).ent HEN.o;rw[hnd] at hlk;simp only[zE,zh] at hlk;have HFM:=Hh (HBU5.o.files _ _ HEN.o);have HFC:=Hh (HBU5.o.fcol _ _ HEN.o);clear hn hnd hnp;go_upto_region 18 with (at_mapUpdate;refine yR rfl _ _ _ 201 3 rfl okS Tryz.underlying201 rfl HFM.o (by unfold maxLen;omega) s (by unfold maxLen;omega) rfl (.int .i64 n) rfl ?_;intro W6 hmap6 hturn6;have HMP6:=Hh hmap6;have HTN6:=Hh (Ext.turned hturn6 HFC.o);clear hmap6 hturn6);have HBU6:=Hh (HBU5.o.share HEN.o n (by rw[HNA.o];rfl) HMP6.o HTN6.o);have HT6:=Hh (HT5.o.ext HTN6.o rfl (fun x hx=>yU (by intro e;subst e;cases hx)));clear c1 hlk;have c0:=ce0 HBU6.o.own;have HU7:=Hh (qDB HT6.o HOK1.o HDK.o was hsm HX1.o (by omega));go_wp2_with (go_at_call 168;refine HU7.o.mono ?_;rintro ev w7 ⟨rfl,c7,he7,ht7⟩);go_ret;refine⟨rfl,c7,?_,bt,bm,nd,fm,?_⟩
 ·refine(((Ext.of_below HB4.o c pW).then HE5.o (jP rfl)).then HTN6.o (jP rfl)).then he7 (fun x hx=>by cases x<;>first | rfl | (cases hx))
 ·rw[HTT.o];exact(HBU6.o.ext he7 rfl rfl rfl (fun _=>rfl)).full ht7
end
def qL2 (T:Tab)(n:Nat)(w:World)(ev:Ending)(w':World):Prop :=
 ∃ (tt:Int) (is:Bool),ev=.returned (.tuple #[.int .i64 tt,.bool is])∧(∀ m,T.lesser n=some m→tt=(m:Int)∧is=true)∧(T.lesser n=none→is=false)∧Below w.heap.size w w'
section
variable {w:World}{c:Nat→Col}{b:Nat}{d:Stl.Dirs}{p:Nat→Addr}
theorem qKk (h:DirsAt w c b d)(hd:DirsGood d)(hE:Env w c p){e:Ent}(he:e∈d.l)(hk:e.k≤1000000){s:List UInt8}{n:Nat}(hf:(s,n)∈e.f){bm nn:Nat}(hm:qKQ w bm nn (kN d.t d.t.all)) :
  Calls Tryz.prog 229 #[.pointer (some ⟨b,0,none⟩),.map (some bm),.int .i64 e.k,.string ⟨s.toArray⟩] w (qL2 d.t n w):=by
 have hent:=jI hd.ok.keys he;obtain⟨hna,⟨ls,hsp⟩,hsl⟩:=qCG hd.ok he hf;have hsm:=hd.small hent _ hf;simp only at hsm;have HIN:=Hh (qCN h e.k hk s (by omega) hE.errs hE.max hent);rw[show wJ d e.k s=.ok n by unfold wJ;rw[hent];simp only[hsp,hna],show oA p (.ok n)=#[.int .i64 n,.nilIface] from rfl] at HIN;obtain⟨bt,bmm,nd,fm,h⟩:=h;have HD:=Hh hd;have HE:=Hh hE.errs;have HTB:=Hh (fun (W:World) (hb:Below w.heap.size w W)=>wS (h.below hb));have HT:=Hh h.tab;have HM:=Hh hm;have hx:∃ x,d.t.at_ n=some x:=by
  have h1:n∈nums d.l:=by
   unfold nums;exact za.2 ⟨e,he,zb.2 ⟨_,hf,rfl⟩⟩
  exact zy.1 (hd.ok.there n h1)
 obtain⟨x,hx⟩:=hx;have HX:=Hh hx;clear h hd hE he hf hm hent hna hsp;go_enter Tryz.func229,Tryz.ntmps229;go_upto_region 4 with (go_at_call 137;refine HIN.o.mono ?_;rintro ev w1 ⟨rfl,hb1⟩;have HB1:=Hh hb1;clear hb1);have HR:=Hh (xM (HT.o.below HB1.o) HD.o.ok.tab HD.o.disk n hsm (HE.o.later HB1.o))
 cases hrd:d.t.read n with
 | error cd =>
  rw[hrd,show mL p (.error cd)=#[.string ⟨#[]⟩,jK p cd] from rfl,qD p (gQ hrd)] at HR;have HL:=Hh (qH3 hrd);clear hrd hx;go_wp2_with (first
   | (go_at_call 126;refine(HTB.o _ HB1.o).mono ?_;rintro ev wz ⟨rfl,rfl⟩)
   | (go_at_call 186;refine HR.o.mono ?_;rintro ev w2 ⟨rfl,hb2⟩;have HB2:=Hh (HB1.o.trans (hb2.mono HB1.o.size));clear hb2))
  go_ret2;exact⟨_,_,rfl,fun m hm=>(by rw[HL.o] at hm;cases hm),fun _=>rfl,HB2.o⟩
 | ok dat =>
  rw[hrd,show mL p (.ok dat)=#[.string ⟨dat.toArray⟩,.nilIface] from rfl] at HR;have hsl2:dat.length≤maxLen:=by
   have h1:dat.length≤x.bytes:=by
    unfold Tab.read at hrd;rw[HX.o] at hrd;simp only at hrd;split at hrd
    ·cases hrd
     unfold Tab.raw;exact List.length_take_le _ _
    ·cases hrd
   have h2:=HD.o.ok.tab.bytes n x HX.o;unfold maxLen;omega
  have hky:=qG2 hrd HX.o;obtain⟨m,hfm,hmn⟩:=qId hky;have HKY:=Hh hky;have HFM:=Hh hfm;clear hrd hx hky;go_upto_region 5 with (first
   | (go_at_call 126;refine(HTB.o _ HB1.o).mono ?_;rintro ev wz ⟨rfl,rfl⟩)
   | (go_at_call 186;refine HR.o.mono ?_;rintro ev w2 ⟨rfl,hb2⟩;have HB2:=Hh (HB1.o.trans (hb2.mono HB1.o.size));clear hb2))
  have HST:=Hh (wE (HT.o.below HB2.o) HD.o.ok.tab n hsm HX.o);simp only[uI,jN] at HST;go_upto_region 8 with (first
   | (go_at_call 126;refine(HTB.o _ HB2.o).mono ?_;rintro ev wz ⟨rfl,rfl⟩)
   | (go_at_call 184;refine HST.o.mono ?_;rintro ev w4 ⟨A4,cap4,rfl,hr4,hb4⟩;have HB4:=Hh (HB2.o.trans (hb4.mono HB2.o.size));clear hb4 hr4))
  have HB5:=Hh (HB4.o.alloc HB4.o.size (.cells #[.int .i64 x.bytes,.int .i64 x.links,.bool x.exec,.slice A4 x.blocks.length cap4,.int .u32 x.sum.toNat] 254));have HX5:=Hh (zK1 w4 (.cells #[.int .i64 x.bytes,.int .i64 x.links,.bool x.exec,.slice A4 x.blocks.length cap4,.int .u32 x.sum.toNat] 254));generalize w4.alloc (.cells #[.int .i64 x.bytes,.int .i64 x.links,.bool x.exec,.slice A4 x.blocks.length cap4,.int .u32 x.sum.toNat] 254)=w5 at *;have x2:=ce2 HX5.o;have hlk:=(HM.o.of_block (HB5.o.block _ HM.o.lt)).get (t:=324) okK Tryz.underlying324 (dD w5) (i:=⟨(dat,x.exec),hsl2⟩) trivial;have hff:kN d.t d.t.all ⟨(dat,x.exec),hsl2⟩=some (.int .i64 (m:Int)):=by unfold kN;simp only[HFM.o];rfl
  rw[hff] at hlk;simp only[zx,mkT,mkK] at hlk;clear hff hfm;by_cases hlt:m<n
  ·have i1:decide ((m:Int)<(n:Int))=true:=by simp;omega
   have i2:(m:Int)<(n:Int):=by omega
   have HL:=Hh ((qDt HKY.o).2 ⟨hlt,HFM.o⟩);go_wp2_with fail;go_ret2;refine⟨_,_,rfl,fun m' hm'=>?_,fun h=>(by rw[HL.o] at h;cases h),HB5.o⟩;rw[HL.o] at hm'
   cases hm'
   exact⟨rfl,by first | rfl | exact i1⟩
  ·have i1:decide ((m:Int)<(n:Int))=false:=by simp;omega
   have i2:¬ (m:Int)<(n:Int):=by omega
   have HL:=Hh (qGt HKY.o HFM.o hlt);go_wp2_with fail;go_ret2;refine⟨_,_,rfl,fun m' hm'=>(by rw[HL.o] at hm';cases hm'),fun h=>?_,HB5.o⟩
   first | rfl | exact i1
end
end Go.Proofs.YtbmkaekimccdgaaGreatDoor
namespace Go.Proofs.YtbmkaekimccdgaaGreatDoor
open Go.RowKit Go.Maps Go.Sort Go.Shelf Stl
section
variable {w:World}{c:Nat→Col}{b:Nat}{d:Stl.Dirs}
theorem qH6 (h:DirsAt w c b d)(hd:DirsGood d) :
  Calls Tryz.prog 228 #[.pointer (some ⟨b,0,none⟩)] w fun e w'=>∃ A cap,e=.returned (.slice A (d.l.map (·.k)).length cap)∧w'.ownsRow w.heap.size 3 1 (.slice A (d.l.map (·.k)).length cap) (d.l.map (·.k)).length ((d.l.map (·.k)).map dW)∧Below w.heap.size w w':=by
 obtain⟨bt,bm,nd,fm,h⟩:=h;have c2:=ce1 h.own;obtain⟨D0,hown,hMI⟩:=h.map;have hsl:=hown.size_le;have hbl:=hown.lt;have hL:=hd.ents;have hKS:=fun ss hp=>qCH hown hMI (l:=d.l.map (·.k)) (List.pairwise_map.2 hd.ok.keys) (fun k=>by
  have e:(yC d.l nd fm k).isSome=(qN d.l k).isSome:=by unfold yC;cases qN d.l k<;>rfl
  rw[e]
  unfold qN
  rw[List.find?_isSome]
  simp only[zb,beq_iff_eq]) (ss:=ss) hp
 have HKS:=Hh hKS;clear h hKS;refine(zI1 (n:=6)).1 ?_;have hseq:SeqGives Fence.wide 2 Tryz.prog 307 #[.pointer (some ⟨w.heap.size,0,none⟩)] encZ (fun ss=>ss.Perm (intKeys D0)) (Maps.size D0) (w.alloc (.cells #[.map (some bm)] 86)) :=
  AnyZI.keys_gives (ρ:=Tryz.keysEnt_ren) { Tryz.keysEnt with } Fence.wide _ trivial rfl (by omega) w.heap.size bm d.l.length D0 _ (by simp) (by simp) (by
   obtain⟨es,clock,hb,Ft,hs,hD⟩:=hown
   exact⟨es,clock,(Below.heap_alloc _ _ bm hbl).trans hb,Ft,hs,hD⟩)
 have cK:∀ mb W,CallsIn Fence.wide 5 Tryz.prog 272 #[.map mb] W fun e w'=>e=.returned (.func (.func 307) #[] #[.pointer (some ⟨W.heap.size,0,none⟩)])∧w'=W.alloc (.cells #[.map mb] 86):=fun mb W=>AnyZI.keys_in Tryz.keysEnt Fence.wide 5 trivial rfl mb W
 have cS:=AnyZI.sorted_in Tryz.sortedI Fence.wide 5 trivial trivial trivial trivial rfl (by omega) (qM9 _) (enters_of Tryz.func291 (by kernel_rfl) rfl) 307 #[.pointer (some ⟨w.heap.size,0,none⟩)] trivial (enters_of Tryz.func307 (by kernel_rfl) rfl) _ _ (by unfold maxLen;omega) (by omega) _ hseq;change CallsIn _ _ Tryz.prog 246 _ _ _ at cS;have hfK:Fence.wide.fn 272:=trivial;have hfS:Fence.wide.fn 246:=trivial;refine callsIn_of_wp Tryz.func228 rfl trivial ?_ rfl;simp only[Tryz.ntmps228,List.size_toArray,zQ,List.length_nil,Nat.reduceAdd,Nat.reduceSub,Array.replicate_succ,Array.replicate_zero,List.push_toArray,List.append_toArray,zh,zE]
 gi_wp2_with (first
  | (gi_at_call 272;refine(cK _ _).mono ?_;rintro e w' ⟨rfl,rfl⟩)
  | (gi_at_call 246;refine cS.mono ?_;rintro e w' ⟨v,ss,rfl,hS,hrow,hnil,hb⟩))
 go_ret;have hks:=HKS.o ss hS;have hlen:ss.length=(d.l.map (·.k)).length:=by
  have:=congrArg List.length hks;simpa using this
 have e1:(ss.mergeSort (fun x y=>decide (x≤y))).map encZ=(d.l.map (·.k)).map dW:=by
  rw[show ss.mergeSort (fun x y=>decide (x≤y))=_ from hks,zW];rfl
 rw[e1,hlen] at hrow;obtain⟨A,cap,rfl⟩:=Stl.owns_slice _ hrow;exact⟨A,cap,rfl,ownsRow_base_a hrow (by simp),((zB _ w).alloc (zo _) _).trans (hb.mono (by simp))⟩
end
end Go.Proofs.YtbmkaekimccdgaaGreatDoor
