/- Lemmas. -/
import Derived.Test.YtbmkaekimccdgaaGreatDoorBm39
set_option maxHeartbeats 16000000
set_option maxRecDepth 1000000
set_option linter.all false
namespace Stl
theorem Well.names:∀ (l:List qB) (n x:Nd),Well n→jJ n l=some x→Well x
 | [],n,x,h,e=>by
  have e:some n=some x:=e;injection e with e
  exact e▸h
 | s::l,.mk k d e ks,x,h,he=>by
  rw[jJ] at he;have key:∀ (q:List (qB×Nd)) (y:Nd),(∀ z∈q,z∈ks)→hZ q s=some y→Well y:=by
   intro q
   induction q with
   | nil=>intro y _ hy;cases hy
   | cons z r ih =>
    obtain⟨nm,z⟩:=z;intro y hm hy;rw[hZ] at hy;split at hy
    ·injection hy with hy
     exact hy▸h.kid (hm (nm,z) (by simp))
    ·exact ih y (fun w hw=>hm w (by simp[hw])) hy
  cases hk:hZ (Nd.mk k d e ks).kids s with
  | none=>rw[hk] at he;cases he
  | some y =>
   rw[hk] at he;exact Well.names l y x (key ks y (fun _ h=>h) hk) he
theorem qGg {s:qB}{l:List qB}(h:qQ s=some l):∀ x∈l,x.length≤12:=by
 unfold qQ at h;split at h
 ·cases h;simp
 ·split at h
  ·split at h
   ·cases h
   ·rename_i h2
    cases h
    intro x hx;refine vT ?_
    cases hq:isName x
    ·refine absurd (.inr (.inr ?_)) h2;rw[Bool.eq_false_iff];intro h3;have:=List.all_eq_true.1 h3 x hx;rw[hq] at this
     cases this
    ·rfl
  ·cases h
theorem qJ9 {k d:qB}{e:Bool}{ks:List (qB×Nd)}(h:Well (.mk k d e ks))(hk:k=kLink):1≤d.length∧d.length≤40 :=
 have h2:=((vS k d e _).1 h.own).2.2.2.2.2.1 hk
 ⟨h2.1,h2.2.1⟩
end Stl
namespace Go.Proofs.YtbmkaekimccdgaaGreatDoor
open Go.RowKit Go.Sort Go.Shelf Stl
def oQ:Value→Nat | .slice _ n _=>n | _=>0
def qOW:Value→Nat | .int _ z=>z.toNat | _=>0
theorem Strs.tail {w:World}{A:Option Addr}{c:Nat}{x:List UInt8}{r:List (List UInt8)}(h:Strs w (.slice A (x::r).length c) (x::r))(hc:(x::r).length≤c) :
  ∃ g off,A=some ⟨g,off,none⟩∧g<w.heap.size∧w.cell? ⟨g,off,none⟩=some (.string ⟨x.toArray⟩)∧∃ A2,(if c=1 then some (⟨g,off,none⟩:Addr) else some ⟨g,off+1,none⟩)=A2∧Strs w (.slice A2 r.length (c-1)) r∧r.length≤c-1:=by
 obtain⟨A',c',e,h1⟩:=h;injection e with e1 e2 e3
 subst e1 e3;obtain⟨g,off,rfl,hg,hk⟩:=h1 (by simp);simp only[zQ] at hc;refine⟨g,off,rfl,hg,hk 0 x rfl,_,rfl,⟨_,_,rfl,fun hn=>?_⟩,by omega⟩;have:c≠1:=by
  intro e;subst e;exact hn (zR.1 (by omega))
 rw[zL1 this];refine⟨g,off+1,rfl,hg,fun j y hy=>?_⟩;rw[show off+1+j=off+(j+1) by omega];exact hk (j+1) y (by simpa using hy)
theorem Strs.init {w:World}{A:Option Addr}{c:Nat}{l:List (List UInt8)}(h:Strs w (.slice A l.length c) l):Strs w (.slice A (l.length-1) c) l.dropLast:=by
 obtain⟨A',c',e,h1⟩:=h;injection e with e1 e2 e3
 subst e1 e3;refine⟨_,_,by rw[List.length_dropLast],fun hn=>?_⟩;obtain⟨g,off,rfl,hg,hk⟩:=h1 (fun e=>by subst e;exact hn rfl);refine⟨g,off,rfl,hg,fun j y hy=>hk j y ?_⟩;rw[List.getElem?_dropLast] at hy;split at hy
 ·exact hy
 ·cases hy
theorem wZ {w:World}{A:Option Addr}{c:Nat}{l:List (List UInt8)}(h:Strs w (.slice A l.length c) l):∀ ad,A=some ad→∀ j u,(l.map encStr)[j]?=some u→w.cell? (ad.add j)=some u:=by
 rintro ad rfl j u hu;rw[zN] at hu;obtain⟨x,hx,rfl⟩:=Option.map_eq_some_iff.1 hu;have hj:j<l.length:=(zM.1 hx).1;obtain⟨b,off,e,_,hc⟩:=h.cellAt hj;injection e with e
 subst e;rw[(zM.1 hx).2] at hc;by_cases h0:j=0
 ·subst h0;exact hc
 ·simpa[Addr.add,h0,encStr] using hc
theorem qDR (d:UInt8)(s:List UInt8)(hs:s.length≤4000000)(w:World){m:Int}(hm:w.cell? ⟨14,0,none⟩=some (.int .i64 m)) :
  Calls Tryz.prog 19 #[.string ⟨s.toArray⟩,.string ⟨#[d]⟩] w fun e w'=>e=.returned (.slice (some ⟨w.heap.size,0,none⟩) (qG d s).length (qG d s).length)∧w'.ownsRow w.heap.size 9 1 (.slice (some ⟨w.heap.size,0,none⟩) (qG d s).length (qG d s).length) (qG d s).length ((qG d s).map encStr)∧Below w.heap.size w w':=by
 have hsp:=(qCB d s.length s (zo _));have hct:=kY d s;have hspl:=Tryz.strings_Split ⟨s.toArray⟩ ⟨#[d]⟩ m w (by show s.toArray.size<4294967281;simp;omega) hm (by show 0<1;decide);rw[hsp.1,hsp.2] at hspl;refine hspl.mono ?_;rintro e w' ⟨rfl,rfl⟩;refine⟨rfl,?_,(zB _ w).alloc (zo _) _⟩;have h:=World.ownsRow_lit (e:=9) (size:=1) (base:=w.heap.size) w (((qG d s).map fun x=>(⟨x.toArray⟩:ByteArray)).map Value.string).toArray (qG d s).length (zo _) (by unfold maxLen;omega) (by simp);simpa[encStr,zW,Function.comp_def] using h
theorem qGN (s:List UInt8)(w:World):Calls Tryz.prog 47 #[.string ⟨s.toArray⟩,.string ⟨#[47]⟩] w fun e w'=>e=.returned (.bool (s.head?==some 47))∧w=w':=by
 refine(Tryz.strings_HasPrefix ⟨s.toArray⟩ ⟨#[47]⟩ w).mono ?_;rintro e w' ⟨rfl,rfl⟩;refine⟨?_,rfl⟩;have:Lib.hasPrefix s [47]=(s.head?==some 47):=by
  cases s with
  | nil=>rfl
  | cons c r =>
   show List.isPrefixOf [47] (c::r)=_;simp only[List.isPrefixOf,List.head?_cons,Bool.and_true];rw[Bool.eq_iff_iff];simp only[beq_iff_eq,zB1];exact eq_comm
 show Ending.returned (.bool (Lib.hasPrefix s [47]))=_;rw[this]
structure FwSt (w wr:World)(n:Nd)(bx:Obj)(res:Except Nat (List UInt8))(todo cur:List (List UInt8))(A:Option Addr)(c:Nat)(A8:Option Addr)(c8 k f:Nat):Prop where
 below:Below w.heap.size w wr
 box:wr.heap[w.heap.size]?=some bx
 st:Strs wr (.slice A todo.length c) todo
 sc:todo.length≤c
 ct:Strs wr (.slice A8 cur.length c8) cur
 cc:cur.length≤c8
 eq:res=qW f n todo cur k
 fuel:todo.length+41*(16-k)<f
 kk:k≤16
 fb:cur.length+f≤2000
 short:∀ x∈todo,x.length≤4000000
 names:∀ x∈cur,x.length≤12
theorem FwSt.go {w wr w':World}{n:Nd}{bx:Obj}{res:Except Nat (List UInt8)}{todo cur:List (List UInt8)}{A:Option Addr}{c:Nat}{A8:Option Addr}{c8 k f:Nat}(h:FwSt w wr n bx res todo cur A c A8 c8 k f)(hb:Below wr.heap.size wr w'):FwSt w w' n bx res todo cur A c A8 c8 k f :=
 ⟨h.below.trans (hb.mono h.below.size),(hb.block _ (qA h.box)).trans h.box,h.st.later hb,h.sc,h.ct.later hb,h.cc,h.eq,h.fuel,h.kk,h.fb,h.short,h.names⟩
theorem qH5 {p:Nat→Addr}(n:Nd)(vs:List Value)(s:List UInt8)(hs:s.length≤4000000)(w:World)(hE:Errs w p)(hm:∃ m,w.cell? ⟨14,0,none⟩=some (.int .i64 m))(hn:NodeAt w n vs) :
  Calls Tryz.prog 62 #[.agg vs.toArray,.string ⟨s.toArray⟩] w (TlPost p w (xY n s)):=by
 have HM:=Hh hm;have HE:=Hh hE;have HN:=Hh hn;have HG:=Hh (show xY n s=if treeErr n≠0 then .error (treeErr n) else match qQ s with | none=>.error 5 | some l=>qW 2000 n l [] 0 from rfl);generalize xY n s=res at HG ⊢;obtain⟨N,hN⟩:∃ N,N=n:=⟨_,rfl⟩;obtain⟨k,d,e,ks⟩:=n;obtain⟨A,c,rfl,_,_⟩:=hn.open;have hb1:=(zB w.heap.size w).alloc (zo _) (.cells #[.string ⟨k.toArray⟩,.string ⟨d.toArray⟩,.bool e,.slice A ks.length c] 134);have HX1:=Hh (zK1 w (.cells #[.string ⟨k.toArray⟩,.string ⟨d.toArray⟩,.bool e,.slice A ks.length c] 134));have HB1:=Hh hb1;have HM1:=Hh (fun (W:World) (hb:Below w.heap.size w W)=>show ∃ m,W.cell? ⟨14,0,none⟩=some (.int .i64 m) from by
  obtain⟨m,hm⟩:=HM.o
  exact⟨m,(hb.cell (p:=⟨14,0,none⟩) (lt_of_cell hm)).trans hm⟩)
 have HNM:=Hh (qFa (.mk k d e ks) _ s hs _ (HE.o.later hb1) (HM1.o _ hb1) (NodeAt.later hb1 _ _ HN.o));clear hm hE hn hb1;go_enter Tryz.func62,Tryz.ntmps62;go_upto_region 1 with fail;generalize w.alloc (.cells #[.string ⟨k.toArray⟩,.string ⟨d.toArray⟩,.bool e,.slice A ks.length c] 134)=w1 at *;obtain⟨q0,q1,q2,q3⟩:=cq HX1.o;go_upto_region 2 with (go_at_call 102;refine HNM.o.mono ?_;rintro ev w2 ⟨hb2,A2,m2,c2,er,rfl,hpost⟩;have HB2:=Hh (HB1.o.trans (hb2.mono HB1.o.size));have HX2:=Hh ((hb2.block _ (qA HX1.o)).trans HX1.o);have HPO:=Hh hpost;clear hb2 hpost);clear q0 q1 q2 q3;have HLS:=Hh (qBb s)
 rcases (show (∃ cd,cd≠0∧res=.error cd∧er=jK p cd)∨∃ l,l.length≤8∧treeErr (.mk k d e ks)=0∧qQ s=some l∧res=qW 2000 (.mk k d e ks) l [] 0∧er=.nilIface∧m2=l.length∧Strs w2 (.slice A2 l.length c2) l∧l.length≤c2 from by
  rcases HPO.o with ⟨h1,h2⟩ | ⟨h1,⟨h2,h3⟩ | ⟨l,h2,h3,h4,h5,h6⟩⟩
  ·exact .inl ⟨_,h1,by rw[HG.o,zM1 h1],h2⟩
  ·exact .inl ⟨5,by decide,by rw[HG.o,zL1 (by rw[h1];decide),h2],h3⟩
  ·exact .inr ⟨l,HLS.o l h2,h1,h2,by rw[HG.o,zL1 (by rw[h1];decide),h2],h3,h4,h5,h6⟩) with ⟨cd,hcd,hres,rfl⟩ | ⟨l,hl8,hte,hsp,hres,rfl,rfl,hst,hsc⟩
 ·rw[qD p hcd];have HEO:=Hh (qD p hcd);have HCD:=Hh hcd;have HRS:=Hh hres;clear hcd hres HPO;go_wp2_with fail;go_ret2;rw[HRS.o];exact⟨_,_,rfl,HB2.o,HEO.o.symm,HCD.o⟩
 ·have HW:=Hh (pN hte);have HS0:=Hh (show FwSt w w2 (.mk k d e ks) (.cells #[.string ⟨k.toArray⟩,.string ⟨d.toArray⟩,.bool e,.slice A ks.length c] 134 (0,0)) res l [] A2 c2 none 0 0 2000 from
   ⟨HB2.o,HX2.o,hst,hsc,⟨none,0,rfl,fun h=>absurd rfl h⟩,zo _,hres,by omega,by omega,by simp,fun x hx=>by have:=qGg hsp x hx;omega,by simp⟩)
  clear hte hsp hres hst hsc HPO hl8 HG HNM HLS;go_wp2_with fail
  go_loopw [6,8,9] (fun a6 a8 a9 wr=>∃ (todo cur:List (List UInt8)) (A3:Option Addr) (c3:Nat) (A8:Option Addr) (c8 k' f:Nat),a6=.slice A3 todo.length c3∧a8=.slice A8 cur.length c8∧a9=.int .i64 k'∧Hg (FwSt w wr (.mk k d e ks) (.cells #[.string ⟨k.toArray⟩,.string ⟨d.toArray⟩,.bool e,.slice A ks.length c] 134 (0,0)) res todo cur A3 c3 A8 c8 k' f)) (fun a6 _ a9 _=>oQ a6+41*(16-qOW a9))
  case atStart=>exact⟨l,[],A2,c2,none,0,0,2000,rfl,rfl,rfl,HS0⟩
  case round =>
   obtain⟨todo,cur,A3,c3,A8,c8,k',f,rfl,rfl,rfl,HS⟩:=hrel;clear HS0
   cases todo with
   | nil =>
    have HRS:=Hh (show res=.ok (gE cur) from by
     obtain⟨f',hf⟩:∃ f',f=f'+1:=⟨f-1,by have:=HS.o.fuel;omega⟩
     rw[HS.o.eq,hf,qF1])
    have HJ:=Hh (qJE HS.o.ct HS.o.cc (by have:=HS.o.fb;omega) (fun x hx=>by have:=HS.o.names x hx;omega));simp only[List.length_nil];go_wp2_with (go_at_call 105;refine HJ.o.mono ?_;rintro ev w4 ⟨rfl,hb4⟩;have HB4:=Hh (HS.o.below.trans (hb4.mono HS.o.below.size));clear hb4);go_ret2;rw[HRS.o];exact⟨_,_,rfl,HB4.o,rfl,rfl⟩
   | cons nm r =>
    obtain⟨g,off,rfl,hg,hcell,A5,hA5,hst5,hle5⟩:=HS.o.st.tail HS.o.sc;have HT5:=Hh hst5;obtain⟨f',hf⟩:∃ f',f=f'+1:=⟨f-1,by have:=HS.o.fuel;omega⟩;subst hf;have hfu:=HS.o.fuel;have hfb:=HS.o.fb;simp only[zQ] at hfu ⊢;have HFU:=Hh hfu;have HSHT:=Hh (show ∀ x∈r,x.length≤4000000 from fun x hx=>HS.o.short x (by simp[hx]));have hnl:=HS.o.short nm (by simp);have i1:(0:Int)<(r.length:Int)+1:=by omega
    have i2:(1:Int)≤(r.length:Int)+1:=by omega
    have HNX:=Hh (fun (W:World) (hW:Below wr.heap.size wr W) (cur':List (List UInt8)) (A8':Option Addr) (c8':Nat) (h1:Strs W (.slice A8' cur'.length c8') cur') (h2:cur'.length≤c8') (h3:res=qW f' (.mk k d e ks) r cur' k') (h4:cur'.length≤cur.length+1) (h5:∀ x∈cur',x.length≤12)=>show FwSt w W (.mk k d e ks) (.cells #[.string ⟨k.toArray⟩,.string ⟨d.toArray⟩,.bool e,.slice A ks.length c] 134 (0,0)) res r cur' A5 (c3-1) A8' c8' k' f' from
     ⟨HS.o.below.trans (hW.mono HS.o.below.size),(hW.block _ (qA HS.o.box)).trans HS.o.box,HT5.o.later hW,hle5,h1,h2,h3,by have:=HFU.o;omega,HS.o.kk,by omega,HSHT.o,h5⟩)
    clear hst5 hfu
    cases h0:nm.isEmpty with
    | true =>
     obtain rfl:nm=[]:=List.isEmpty_iff.1 h0;have HNE:=Hh (HNX.o wr (zB _ _) cur A8 c8 HS.o.ct HS.o.cc (by rw[HS.o.eq,qBY (.inl rfl)]) (by omega) HS.o.names);clear h0;go_wp2;go_roundw
     case rel=>exact⟨r,cur,A5,c3-1,A8,c8,k',f',rfl,rfl,rfl,HNE⟩
     case measure=>simp[oQ]
    | false =>
    cases h1:nm==[46] with
    | true =>
     obtain rfl:nm=[46]:=eq_of_beq h1;have HNE:=Hh (HNX.o wr (zB _ _) cur A8 c8 HS.o.ct HS.o.cc (by rw[HS.o.eq,qBY (.inr rfl)]) (by omega) HS.o.names);clear h0 h1;go_wp2;go_roundw
     case rel=>exact⟨r,cur,A5,c3-1,A8,c8,k',f',rfl,rfl,rfl,HNE⟩
     case measure=>simp[oQ]
    | false =>
    cases h2:nm==[46,46] with
    | true =>
     obtain rfl:nm=[46,46]:=eq_of_beq h2;have HDL:=Hh (show res=qW f' (.mk k d e ks) r cur.dropLast k' by rw[HS.o.eq,qIy]);have HNE:=Hh (HNX.o wr (zB _ _) cur.dropLast A8 c8 (by rw[List.length_dropLast];exact HS.o.ct.init) (by rw[List.length_dropLast];have:=HS.o.cc;omega) HDL.o (by rw[List.length_dropLast];omega) (fun x hx=>HS.o.names x ((List.dropLast_sublist cur).subset hx)));have hcl:cur.length≤2000:=by omega
     have HCC:=Hh HS.o.cc;have hcc:=HCC.o;have HLL:=Hh (show (max 0 ((cur.length:Int)-1)).toNat=cur.dropLast.length by rw[List.length_dropLast];omega);clear h0 h1 h2;go_wp2;go_roundw
     case rel=>exact⟨r,cur.dropLast,A5,c3-1,A8,c8,k',f',rfl,by rw[HLL.o],rfl,HNE⟩
     case measure=>simp[oQ]
    | false =>
    have HNA:=Hh (gD nm wr (by omega));have hn0:¬ (nm=[]∨nm=[46]):=fun h=>by
     rcases h with h | h
     ·rw[h] at h0;cases h0
     ·rw[h] at h1;exact absurd h1 (by decide)
    have hn1:nm≠[46,46]:=fun h=>by rw[h] at h2;exact absurd h2 (by decide)
    have HN0:=Hh hn0;have HN1:=Hh hn1;clear hn0 hn1
    cases hq:isName nm with
    | false =>
     have HRS:=Hh (show res=.error 5 by rw[HS.o.eq,qFV HN0.o HN1.o hq]);rw[hq] at HNA;clear hq;go_upto_region 13 with (go_at_call 103;refine HNA.o.mono ?_;rintro ev w4 ⟨rfl,hb4⟩;have HB4:=Hh (HS.o.below.trans (hb4.mono HS.o.below.size));clear hb4);have hg4:w4.cell? ⟨4,0,none⟩=some (.iface 376 (.pointer (some (p 5)))):=((HE.o.later HB4.o).cell 5 (by decide) (by decide)).trans (by rw[qD p (by decide)]);go_quiet (fail);go_wp2;go_ret2;rw[HRS.o];exact⟨_,_,rfl,Below.drewN HB4.o _,by rw[qD p (by decide)];rfl,by decide⟩
    | true =>
     have HQ:=Hh hq;rw[hq] at HNA;have HN12:=Hh (vT hq);have hcl:cur.length≤2000:=by omega
     have HCLN:=Hh (fun (W:World) (hW:Below wr.heap.size wr W)=>nT (HS.o.ct.later hW) (by omega));clear hq;go_upto_region 14 with (go_at_call 103;refine HNA.o.mono ?_;rintro ev w4 ⟨rfl,hb4⟩;have HB4:=Hh hb4;clear hb4);obtain⟨i0,hi,hz0,hz1,hz2⟩:=mY.info;have Hi:=Hh hi;have Hz0:=Hh hz0;have Hz1:=Hh hz1;have Hz2:=Hh hz2;clear hi hz0 hz1 hz2 h0 h1 h2;go_wp2_with fail;refine(HCLN.o w4 HB4.o).mono ?_;rintro ev w5 ⟨A6,c6,rfl,ho5,hb5⟩;have HB5:=Hh hb5;have HO6:=Hh (ho5.alloc (.cells #[.string ⟨nm.toArray⟩] 9));have HB6:=Hh (hb5.alloc hb5.size (.cells #[.string ⟨nm.toArray⟩] 9));clear ho5 hb5;go_upto_region 15 with (at_builtin;refine Stl.wpList_app _ rfl _ _ 22 rfl w4.heap.size 9 i0 (.string ByteArray.empty) 1 16 Tryz.underlying22 Hi.o Hz0.o Hz1.o Hz2.o rfl (by decide) (.slice A6 cur.length c6) cur.length (cur.map encStr) rfl HO6.o (some ⟨w5.heap.size,0,none⟩) 1 1 [.string ⟨nm.toArray⟩] rfl rfl (fun h=>by cases h) (jD _ _ _) (by simp[Value.oneCell']) (by unfold maxLen;omega) (by omega) HB6.o.size ?_;intro A7 c7 w7 hown7 hgr7 _;have HO7:=Hh hown7;have HB7:=Hh (HB6.o.grown hgr7 HB6.o.size (fun k hk=>(HO6.o.lt k hk).1));clear hown7 hgr7);have HS7:=Hh (show Strs w7 (.slice A7 (cur++[nm]).length c7) (cur++[nm]) from jS (base:=w4.heap.size) (by rw[zP,zU];exact HO7.o));have HC7:=Hh (show (cur++[nm]).length≤c7 by rw[zP];exact yG HO7.o);have HBW7:=Hh (HB4.o.trans (HB7.o.mono HB4.o.size));have HBT7:=Hh (HS.o.below.trans (HBW7.o.mono HS.o.below.size));have hx7:=(HBW7.o.block _ (qA HS.o.box)).trans HS.o.box;obtain⟨q0,q1,q2,q3⟩:=cq hx7;have hat:=qM6 (.mk k d e ks) _ A7 c7 (cur++[nm]) (by rw[zP];show cur.length+1≤_;omega) w w7 HBT7.o HN.o HW.o HS7.o;rw[show (cur++[nm]).length=cur.length+1 by simp] at hat;have HAT:=Hh hat;have HNM7:=Hh (show ∀ x∈cur++[nm],x.length≤12 from fun x hx=>by
      rcases zX.1 hx with hx | hx
      ·exact HS.o.names x hx
      ·rw[zg.1 hx];exact HN12.o)
     clear hat hx7
     cases hat:jJ (.mk k d e ks) (cur++[nm]) with
     | none =>
      have HRS:=Hh (show res=.error 6 by rw[HS.o.eq,qEZ HN0.o HN1.o HQ.o hat]);rw[hat] at HAT;clear hat;go_upto_region 16 with (go_at_call 104;refine HAT.o.mono ?_;rintro ev w8 ⟨hb8,a0,a1,a2,A9,m9,c9,bb,rfl,hpost⟩;have HB8:=Hh (HBT7.o.trans (hb8.mono HBT7.o.size));have HPO8:=Hh hpost;clear hb8 hpost);have hbb:bb=false:=HPO8.o;subst hbb;have HB9:=Hh (HB8.o.alloc HB8.o.size (.cells #[.string a0,.string a1,.bool a2,.slice A9 m9 c9] 134));generalize w8.alloc (.cells #[.string a0,.string a1,.bool a2,.slice A9 m9 c9] 134)=w9 at *;go_upto_region 17 with fail;clear q0 q1 q2 q3;have hg4:w9.cell? ⟨5,0,none⟩=some (.iface 376 (.pointer (some (p 6)))):=((HE.o.later HB9.o).cell 6 (by decide) (by decide)).trans (by rw[qD p (by decide)]);go_quiet (fail);go_wp2;go_ret2;rw[HRS.o];exact⟨_,_,rfl,Below.drewN HB9.o _,by rw[qD p (by decide)];rfl,by decide⟩
     | some x =>
      have HWX:=Hh (Well.names (cur++[nm]) _ x HW.o hat);have HXA:=Hh hat;rw[hat] at HAT;clear hat;go_upto_region 16 with (go_at_call 104;refine HAT.o.mono ?_;rintro ev w8 ⟨hb8,a0,a1,a2,A9,m9,c9,bb,rfl,hpost⟩;obtain⟨rfl,hnx⟩:=hpost;have HB8:=Hh hb8;have HNX8:=Hh hnx;clear hb8 hnx);obtain⟨kx,dx,ex,ksx⟩:=x;obtain⟨A10,c10,he,_,_⟩:=HNX8.o.open;simp only[zD,Value.string.injEq,Value.bool.injEq,zC1,and_true] at he;obtain⟨rfl,rfl,rfl,rfl,rfl,rfl⟩:=he;have hb9:=(zB w8.heap.size w8).alloc (zo _) (.cells #[.string ⟨kx.toArray⟩,.string ⟨dx.toArray⟩,.bool a2,.slice A9 ksx.length c9] 134);have HX9:=Hh (zK1 w8 (.cells #[.string ⟨kx.toArray⟩,.string ⟨dx.toArray⟩,.bool a2,.slice A9 ksx.length c9] 134));have HB79:=Hh (HB8.o.trans (hb9.mono HB8.o.size));clear hb9 q0 q1 q2 q3;generalize w8.alloc (.cells #[.string ⟨kx.toArray⟩,.string ⟨dx.toArray⟩,.bool a2,.slice A9 ksx.length c9] 134)=w9 at *;have HBW9:=Hh (HBW7.o.trans (HB79.o.mono HBW7.o.size));have HBT9:=Hh (HS.o.below.trans (HBW9.o.mono HS.o.below.size));have r0:=ce0 HX9.o;have r1:=ce1 HX9.o
      cases hkl:kx==[108,105,110,107] with
      | false =>
       have HEQ:=Hh (show res=qW f' (.mk k d e ks) r (cur++[nm]) k' by rw[HS.o.eq,qFW HN0.o HN1.o HQ.o HXA.o (show kx≠kLink from fun h=>by rw[h] at hkl;exact absurd hkl (by decide))]);have HNE:=Hh (HNX.o w9 HBW9.o (cur++[nm]) A7 c7 (HS7.o.later HB79.o) HC7.o HEQ.o (by simp) HNM7.o);go_wp2;go_roundw
       case rel=>exact⟨r,cur++[nm],A5,c3-1,A7,c7,k',f',rfl,by rw[zP];rfl,rfl,HNE⟩
       case measure=>simp[oQ]
      | true =>
       have HKL:=Hh (show kx=kLink from eq_of_beq hkl);have hkk:=HS.o.kk;by_cases h16:k'=16
       ·have HRS:=Hh (show res=.error 9 by rw[HS.o.eq,qFp HN0.o HN1.o HQ.o HXA.o HKL.o (by omega)]);subst h16;go_upto_region 22 with fail;have hg4:w9.cell? ⟨8,0,none⟩=some (.iface 376 (.pointer (some (p 9)))):=((HE.o.later HBT9.o).cell 9 (by decide) (by decide)).trans (by rw[qD p (by decide)]);go_quiet (fail);go_wp2;go_ret2;rw[HRS.o];exact⟨_,_,rfl,Below.drewN HBT9.o _,by rw[qD p (by decide)];rfl,by decide⟩
       ·have j1:¬ (16:Int)<(k':Int)+1:=by omega
        have HDL:=Hh (qJ9 HWX.o HKL.o);have hdl:=HDL.o.2;obtain⟨m,hmx⟩:=HM1.o w9 HBT9.o;have HSP:=Hh (qDR 47 dx (by omega) w9 hmx);have HHP:=Hh (qGN dx w9);obtain⟨L,hL⟩:∃ L,L=qG 47 dx:=⟨_,rfl⟩;have HLC:=Hh (show L.length≤41 by have:=kY 47 dx;rw[hL];omega);have HLS:=Hh (show ∀ x∈L,x.length≤4000000 from fun x hx=>by rw[hL] at hx;have:=qAh 47 dx x hx;omega);have HEQ:=Hh (show res=qW f' (.mk k d e ks) (L++r) (if dx.head?=some 47 then [] else cur) (k'+1) by rw[HS.o.eq,qE2 HN0.o HN1.o HQ.o HXA.o HKL.o (by omega)];rw[hL];rfl);rw[← hL] at HSP;have hlc:=HLC.o;have hr2:r.length≤2000:=by have:=HFU.o;omega
        have HA5:=Hh (show A5≠none from fun h=>by rw[← hA5] at h;split at h<;>cases h);have HNW:=Hh (fun (w11:World) (A11:Option Addr) (c11:Nat) (hb:Below w9.heap.size w9 w11) (ho:w11.ownsRow w9.heap.size 9 1 (.slice A11 (L.length+r.length) c11) (L.length+r.length) (L.map encStr++r.map encStr)) (cur':List (List UInt8)) (A8':Option Addr) (c8':Nat) (h1:Strs w9 (.slice A8' cur'.length c8') cur') (h2:cur'.length≤c8') (h3:cur'=if dx.head?=some 47 then [] else cur)=>show FwSt w w11 (.mk k d e ks) (.cells #[.string ⟨k.toArray⟩,.string ⟨d.toArray⟩,.bool e,.slice A ks.length c] 134 (0,0)) res (L++r) cur' A11 c11 A8' c8' (k'+1) f' from by
         have hbt:=HBT9.o.trans (hb.mono HBT9.o.size)
         have hbw:=HBW9.o.trans (hb.mono HBW9.o.size)
         have hcu:cur'.length≤cur.length∧∀ x∈cur',x.length≤12:=by
          rw[h3]
          split
          ·exact⟨zw _,fun x hx=>by cases hx⟩
          ·exact⟨zo _,HS.o.names⟩
         refine⟨hbt,(hbw.block _ (qA HS.o.box)).trans HS.o.box,jS (base:=w9.heap.size) (by rw[zP,zU];exact ho),by rw[zP];exact yG ho,h1.later hb,h2,by rw[h3];exact HEQ.o,?_,by omega,by omega,fun x hx=>?_,hcu.2⟩
         ·have:=HFU.o
          rw[zP]
          omega
         ·rcases zX.1 hx with hx | hx
          ·exact HLS.o x hx
          ·exact HSHT.o x hx)
        clear hmx hL
        cases hpf:(dx.head?==some 47) with
        | true =>
         have HC1:=Hh (show ([]:List (List UInt8))=if dx.head?=some 47 then [] else cur by rw[zM1 (eq_of_beq hpf)]);rw[hpf] at HHP;clear hpf;go_upto_region 25 with (go_at_call 47;refine HHP.o.mono ?_;rintro ev wz ⟨rfl,rfl⟩);go_wp2_with fail;refine HSP.o.mono ?_;rintro ev w10 ⟨rfl,ho10,hb10⟩;have HB10:=Hh hb10;have HO10:=Hh ho10;have HT10:=Hh (HT5.o.later (HBW9.o.trans (hb10.mono HBW9.o.size)));clear ho10 hb10;go_wp2_with (at_builtin;refine Stl.wpList_app _ rfl _ _ 22 rfl w9.heap.size 9 i0 (.string ByteArray.empty) 1 16 Tryz.underlying22 Hi.o Hz0.o Hz1.o Hz2.o rfl (by decide) (.slice (some ⟨w9.heap.size,0,none⟩) L.length L.length) L.length (L.map encStr) rfl HO10.o A5 r.length (c3-1) (r.map encStr) rfl (by simp) (fun h=>absurd h HA5.o) (wZ HT10.o) (mB _) (by unfold maxLen;omega) (by omega) HB10.o.size ?_;intro A11 c11 w11 hown11 hgr11 _;have HO11:=Hh hown11;have HB11:=Hh (HB10.o.grown hgr11 HB10.o.size (fun k hk=>(HO10.o.lt k hk).1));clear hown11 hgr11);have HNE:=Hh (HNW.o w11 A11 c11 HB11.o HO11.o [] none 0 ⟨none,0,rfl,fun h=>absurd rfl h⟩ (zo _) HC1.o);go_roundw
         case rel=>exact⟨L++r,[],A11,c11,none,0,k'+1,f',by rw[zP],rfl,by go_num,HNE⟩
         case measure=>simp[oQ,qOW];omega
        | false =>
         have HC1:=Hh (show cur=if dx.head?=some 47 then [] else cur by rw[zL1 (fun h=>by rw[h] at hpf;exact absurd hpf (by decide))]);rw[hpf] at HHP;clear hpf;go_upto_region 25 with (go_at_call 47;refine HHP.o.mono ?_;rintro ev wz ⟨rfl,rfl⟩);go_wp2_with fail;refine HSP.o.mono ?_;rintro ev w10 ⟨rfl,ho10,hb10⟩;have HB10:=Hh hb10;have HO10:=Hh ho10;have HT10:=Hh (HT5.o.later (HBW9.o.trans (hb10.mono HBW9.o.size)));clear ho10 hb10;go_wp2_with (at_builtin;refine Stl.wpList_app _ rfl _ _ 22 rfl w9.heap.size 9 i0 (.string ByteArray.empty) 1 16 Tryz.underlying22 Hi.o Hz0.o Hz1.o Hz2.o rfl (by decide) (.slice (some ⟨w9.heap.size,0,none⟩) L.length L.length) L.length (L.map encStr) rfl HO10.o A5 r.length (c3-1) (r.map encStr) rfl (by simp) (fun h=>absurd h HA5.o) (wZ HT10.o) (mB _) (by unfold maxLen;omega) (by omega) HB10.o.size ?_;intro A11 c11 w11 hown11 hgr11 _;have HO11:=Hh hown11;have HB11:=Hh (HB10.o.grown hgr11 HB10.o.size (fun k hk=>(HO10.o.lt k hk).1));clear hown11 hgr11);have HNE:=Hh (HNW.o w11 A11 c11 HB11.o HO11.o cur A8 c8 (HS.o.ct.later HBW9.o) HS.o.cc HC1.o);go_roundw
         case rel=>exact⟨L++r,cur,A11,c11,A8,c8,k'+1,f',by rw[zP],rfl,by go_num,HNE⟩
         case measure=>simp[oQ,qOW];omega
end Go.Proofs.YtbmkaekimccdgaaGreatDoor
