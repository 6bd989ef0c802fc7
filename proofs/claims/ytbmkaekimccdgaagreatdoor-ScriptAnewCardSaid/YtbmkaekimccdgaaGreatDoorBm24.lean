/- Lemmas. -/
import Derived.Deep.RegionLaw
import Derived.Test.YtbmkaekimccdgaaGreatDoorBm23
set_option maxHeartbeats 16000000
set_option maxRecDepth 1000000
set_option linter.all false
namespace Go.Proofs.YtbmkaekimccdgaaGreatDoor
open Go.RowKit Go.Maps Go.Sort Go.Shelf Stl
def DcIn (w:World)(k0:Nat→Col)(d:Stl.Dirs)(wx:World)(b' bt' bm':Nat)(c3:Nat→Col):Prop :=
 Below w.heap.size w wx∧(∀ k,k<w.heap.size→c3 k=k0 k)∧w.heap.size≤b'∧w.heap.size≤bm'∧wx.heap[b']?=some (.cells #[.pointer (some ⟨bt',0,none⟩),.map (some bm'),.int .i64 d.next] 88 (0,0))∧c3 b'=.dirs∧TabAt wx c3 bt' d.t∧wx.heap[bm']?=some (.map #[] 0)∧c3 bm'=.dirsMap
theorem qNl {w:World}{d:Stl.Dirs}{w3:World}{c3 k0:Nat→Col}{bt' bm':Nat}(hB:Below w.heap.size w w3)(hcc:∀ k,k<w.heap.size→c3 k=k0 k)(ht:TabAt w3 c3 bt' d.t)(hm:w3.heap[bm']?=some (.map #[] 0))(hmc:c3 bm'=.dirsMap)(hbm:w.heap.size≤bm') :
  DcIn w k0 d (w3.alloc (.cells #[.pointer (some ⟨bt',0,none⟩),.map (some bm'),.int .i64 d.next] 88)) w3.heap.size bt' bm' (jC c3 w3.heap.size .dirs):=by
 have e:=Ext.made w3 c3 S0 (.cells #[.pointer (some ⟨bt',0,none⟩),.map (some bm'),.int .i64 d.next] 88) .dirs;refine⟨hB.alloc hB.size _,fun k hk=>?_,hB.size,hbm,zK1 w3 _,qM _ _ _,ht.ext e rfl (fun _ _=>rfl),(e.kept hm hmc rfl).1,(e.kept hm hmc rfl).2⟩;rw[qJ hk hB.size];exact hcc k hk
theorem qHX {α:Type}{P:Program}{k:TypeId}{key:α→Lit}{w:World}{b n:Nat}{f:α→Option Value}(h:Stl.zzMapAt P k key w b n f):∃ es clock,w.heap[b]?=some (.map es clock)∧∀ w2 b2,w2.heap[b2]?=some (.map es clock)→Stl.zzMapAt P k key w2 b2 n f:=by
 obtain⟨D,⟨es,clock,h1,h2⟩,h3⟩:=h;exact⟨es,clock,h1,fun w2 b2 hb=>⟨D,⟨es,clock,hb,h2⟩,h3⟩⟩
structure DcSt (w w4 wr:World)(k0 c4 cr:Nat→Col)(d:Stl.Dirs)(nd:Nat→List Value)(fm:Nat→Nat)(bm bm' r:Nat)(left:Nat→Bool)(cnt:Nat)(fm':Nat→Nat):Prop where
 below:Below w.heap.size w wr
 ext:Ext w4 wr c4 cr (fun y=>decide (y=.dirsMap)||decide (y=.free))
 range:RangeAt Tryz.prog 3 dY wr bm r d.l.length (yC d.l nd fm) left cnt
 map:gS wr bm' d.l.length (fun k=>if left k=false then yC d.l nd fm' k else none)
 fcol:∀ k e,qN d.l k=some e→left k=false→cr (fm' k)=.files k
 files:∀ k e,qN d.l k=some e→left k=false→vM wr (fm' k) e.f.length (fileAt e.f)
 mcol:cr bm'=.dirsMap
 rcol:cr r=.free
 old:∀ k,k<w.heap.size→cr k=k0 k
theorem qAJ {l:List Ent}{nd:Nat→List Value}{fm:Nat→Nat}{k:Nat}(h:(yC l nd fm k).isSome=true):∃ e,qN l k=some e:=by
 unfold yC at h
 cases hx:qN l k with
 | none=>rw[hx] at h;cases h
 | some e=>exact⟨e,rfl⟩
section
variable {w:World}{c:Nat→Col}{b:Nat}{d:Stl.Dirs}
theorem qFt (k0:Nat→Col)(hro:∀ k,c k=.ro→k0 k=.ro)(h:DirsAt w c b d)(hd:DirsGood d) :
  Calls Tryz.prog 67 #[.pointer (some ⟨b,0,none⟩)] w fun e w'=>∃ b2 c2,e=.returned (.pointer (some ⟨b2,0,none⟩))∧Below w.heap.size w w'∧(∀ k,k<w.heap.size→c2 k=k0 k)∧w.heap.size≤b2∧DirsAt w' c2 b2 d:=by
 obtain⟨bt,bm,nd,fm,h⟩:=h;have H:=Hh h;have HD:=Hh hd;have c0:=ce0 h.own;have c2:=ce2 h.own;have hbl:=lt_of_cell c0;have hmm:=@run_makeMap Tryz.prog;have HRO:=Hh hro;have hx:Ext w w c (fun k=>if k<w.heap.size then c k else .free) S0:=(Ext.refl w c S0).recolor (fun k hk _=>zM1 hk);have HT:=Hh (h.tab.ext hx rfl (fun _ _=>rfl));have hro2:∀ k,(if k<w.heap.size then c k else Col.free)=.ro→(if k<w.heap.size then k0 k else Col.dirsMap)=.ro:=fun k hk=>by
  by_cases h1:k<w.heap.size
  ·rw[zM1 h1] at hk ⊢;exact HRO.o k hk
  ·rw[zL1 h1] at hk
   cases hk
 have HRO2:=Hh hro2;clear h hro hd hx hro2;go_enter Tryz.func67,Tryz.ntmps67;go_upto_region 1 with fail
 go_cut [3] (fun s wx=>∃ (b' bt' bm':Nat) (c3:Nat→Col),s=.pointer (some ⟨b',0,none⟩)∧Hg (DcIn w k0 d wx b' bt' bm' c3))
 case first =>
  go_region_held3 (fun w'=>w'.cell? ⟨b,0,none⟩=some (.pointer (some ⟨bt,0,none⟩))∧w'.cell? ⟨b,2,none⟩=some (.int .i64 d.next))
   (first
    | exact⟨c0,c2⟩
    | exact⟨c0',c2'⟩
    | go_keep)
   (first
    | (go_at_call 111;refine(qF6 (fun k=>if k<w.heap.size then k0 k else .dirsMap) HRO2.o (HT.o.ext (Ext.of_below (by go_grown) _ S0) rfl (fun _ _=>rfl)) HD.o.disk HD.o.inos).mono ?_;rintro ev w2 ⟨bt2,c3,rfl,hb2,hc3,hbt2,ht2⟩;have hb2':Below w.heap.size w w2:=(by refine Below.trans ?_ (hb2.mono ?_)<;>first | go_grown | (simp;done) | (simp;omega));have c0':=(hb2'.cell (p:=⟨b,0,none⟩) hbl).trans c0;have c2':=(hb2'.cell (p:=⟨b,2,none⟩) hbl).trans c2)
    | fail)
  ·have hs2:=hb2'.size;have hz:w.drew.heap.size=w.heap.size:=rfl;have e3:=Ext.made w2 c3 S0 (.map #[] 0) .dirsMap;have hf:=qNl (w:=w) (d:=d) (k0:=k0) (hb2'.alloc hs2 (.map #[] 0)) (fun k hk=>by rw[qJ hk hs2,hc3 k (by omega),zM1 hk]) (ht2.ext e3 rfl (fun _ _=>rfl)) (zK1 w2 _) (qM _ _ _) hs2;clear c0 c2 c0' c2';go_wp2;go_meet
   case rel=>exact⟨_,_,_,_,by simp,Hh hf⟩
  ·have hs2:=hb2'.size;have hz:(w.alloc (.map #[] 0)).drew.heap.size=w.heap.size+1:=by simp
   have hf:=qNl (w:=w) (d:=d) (k0:=k0) (bm':=w.heap.size) hb2' (fun k hk=>by rw[hc3 k (by omega),zM1 hk]) ht2 ((hb2.block _ (by omega)).trans (zK1 w _)) (by rw[hc3 _ (by omega),zL1 (by omega)]) (zo _);clear c0 c2 c0' c2';go_wp2;go_meet
   case rel=>exact⟨_,_,_,_,rfl,Hh hf⟩
 case rest =>
  obtain⟨b',bt',bm',c3,rfl,HC⟩:=hcut;obtain⟨hB,hcc,hb',hbm',hown,hcb,ht3,hm3,hmc⟩:=HC.o;have c1:wc.cell? ⟨b,1,none⟩=some (.map (some bm)):=(hB.cell (p:=⟨b,1,none⟩) hbl).trans (zJ1 w b 1 _ _ _ H.o.own);have HM:=Hh (H.o.map.of_block (hB.block _ H.o.map.lt));have HB:=Hh hB;have HNM:=Hh (show gS wc bm' 0 (fun _=>none) from ⟨.map [],⟨#[],0,hm3,⟨by simp,MapKept.stamped_empty 0,by simp⟩,zo _,rfl⟩,MapIs.empty⟩);have hblt:=H.o.map.lt;clear c0 c2 hB hcc hown hcb ht3 hm3;go_wp2_with (at_range;refine qAc rfl _ 86 203 rfl okN Tryz.underlying86 rfl HM.o ?_;intro w4 cnt hrg hgr hsz);have HR:=Hh hrg;have hB4:=Hh (HB.o.grown hgr HB.o.size (fun k hk=>by cases hk));have he4:=((Ext.refl wc c3 S0).grown hgr (fun k hk=>by cases hk)).recolor (c3:=jC c3 wc.heap.size .free) (fun k hk _=>qJ hk (zo _));have HE4:=Hh he4;have hr0:=HB.o.size;have hbmlt:bm'<wc.heap.size:=HNM.o.lt;have HL0:=Hh (show ∀ k,(yC d.l nd fm k).isSome=false→yC d.l nd fm k=none from fun k h=>by simpa using h);have H0:=Hh (show DcSt w w4 w4 k0 (jC c3 wc.heap.size .free) (jC c3 wc.heap.size .free) d nd fm bm bm' wc.heap.size (fun x=>(yC d.l nd fm x).isSome) cnt fm from
   ⟨hB4.o,Ext.refl _ _ _,HR.o,(((HNM.o.ext he4 hmc rfl).mono (zw _)).congr (fun k=>by
    by_cases h:(yC d.l nd fm k).isSome=false
    ·rw[zM1 h];exact HL0.o k h
    ·rw[zL1 h])),fun k x hx hl=>(by unfold yC at hl;rw[hx] at hl;cases hl),fun k x hx hl=>(by unfold yC at hl;rw[hx] at hl;cases hl),by rw[qJ hbmlt (zo _)];exact hmc,qM _ _ _,fun k hk=>(by rw[qJ hk hr0];exact HC.o.2.1 k hk)⟩)
  have HOK:=Hh (show ∀ x:Nat,(yC d.l nd fm x).isSome=true→x≤4611686018427387904 from fun x hx=>by
   obtain⟨e,he⟩:=qAJ hx
   have h1:=HD.o.ok.next e (vX he).1
   have h3:=(vX he).2
   have h2:=HD.o.next
   omega)
  clear hrg hgr he4 c1;generalize hr:wc.heap.size=r at *;go_simp
  go_loopw [23] (fun _ wr=>∃ (left:Nat→Bool) (cn:Nat) (cr:Nat→Col) (fm':Nat→Nat),Hg (DcSt w w4 wr k0 (jC c3 r .free) cr d nd fm bm bm' r left cn fm')) (fun _ wr=>wr.rangeLeft bm r)
  case atStart=>exact⟨_,_,_,_,H0⟩
  case round =>
   obtain⟨left,cn,cr,fm',HS⟩:=hrel;have hm0:=HS.o.range.left_eq;go_wp2_with (at_next;refine qAg rfl _ rfl okN HOK.o rfl HS.o.range ?_ ?_)
   case _ =>
    intro hdone;have HDN:=Hh hdone;clear hdone;go_wp2;go_ret;obtain⟨_,hcc,hb',_,hown,hcb,ht3,_,hmc⟩:=HC.o;have e:=(HE4.o.mono (S':=fun y=>decide (y=.dirsMap)||decide (y=.free)) (fun _ _=>rfl)).trans HS.o.ext;refine⟨b',cr,rfl,HS.o.below,HS.o.old,hb',bt',bm',nd,fm',(e.kept hown hcb rfl).1,(e.kept hown hcb rfl).2,ht3.ext e rfl (fun x hx=>by cases x<;>first | rfl | (cases hx)),HS.o.mcol,HS.o.map.congr (fun k=>by rw[zM1 (HDN.o k)]),fun k e he=>?_,fun k e he=>HS.o.fcol k e he (HDN.o k),fun k e he=>HS.o.files k e he (HDN.o k)⟩;exact NodeP.go HS.o.below.size (fun b hb hc=>⟨HS.o.below.block b hb,by rw[HS.o.old b hb];exact HRO.o b hc⟩) _ _ (H.o.node k e he)
   case _ =>
    intro x v w5 cnt' hlx hfx hrg5 hlt hgr5 hsz5 hen;obtain⟨e,he⟩:=qAJ (by rw[hfx];rfl);obtain⟨k',d',e',ks,A,cap,hn,hnd,hnp⟩:=H.o.ent he;have hv:v=.agg #[.string ⟨k'.toArray⟩,.string ⟨d'.toArray⟩,.bool e',.slice A ks.length cap,.map (some (fm x))]:=by
     unfold yC at hfx;rw[he,hnd] at hfx;exact(Option.some.inj hfx).symm
    subst hv;have HLX:=Hh hlx;have HR5:=Hh hrg5;have HG5:=Hh hgr5;have HLT:=Hh hlt;have HEN:=Hh he;have HND:=Hh hnd;have HFX:=Hh hfx;simp only[mkN] at hen;clear hlx hrg5 hgr5 hlt hfx he hn hnd hnp;go_upto_region 5 with fail;have hw0:=HS.o.below.size;have hsz0:=HS.o.ext.size;have hfl:fm x<w.heap.size:=(H.o.files x e HEN.o).lt;have hbl6:bm'<wr.heap.size:=HS.o.map.lt;have hrlt:r<wr.heap.size:=HS.o.range.lt;have hown6:=((HE4.o.mono (S':=fun y=>decide (y=.dirsMap)||decide (y=.free)) (fun _ _=>rfl)).trans HS.o.ext).kept HC.o.2.2.2.2.1 HC.o.2.2.2.2.2.1 rfl;obtain⟨es,clock,hes,htw⟩:=qHX (H.o.files x e HEN.o);have HTW:=Hh htw;have HB5:=Hh (HS.o.below.grown HG5.o HS.o.below.size (fun k hk=>by injection hk with hk;omega));obtain⟨W6,hW6⟩:∃ W6,W6=w5.alloc (.cells #[.string ⟨k'.toArray⟩,.string ⟨d'.toArray⟩,.bool e',.slice A ks.length cap,.map (some (fm x))] 203):=⟨_,rfl⟩;have hb6:Below w5.heap.size w5 W6:=by rw[hW6];exact(zB _ w5).alloc (zo _) _
    have hs6:W6.heap.size=wr.heap.size+1:=by rw[hW6];simp;omega
    have HX6:=Hh (show W6.heap[wr.heap.size]?=some (.cells #[.string ⟨k'.toArray⟩,.string ⟨d'.toArray⟩,.bool e',.slice A ks.length cap,.map (some (fm x))] 203 (0,0)) from by rw[hW6,← hsz5];exact zK1 w5 _);have HES:=Hh (show W6.drew.heap[fm x]?=some (.map es clock) from (hb6.block _ (by omega)).trans ((HB5.o.block _ hfl).trans hes));obtain⟨W7,hW7⟩:∃ W7,W7=(W6.alloc (.map es clock)).drew:=⟨_,rfl⟩;have hb7:Below W6.heap.size W6 W7:=by rw[hW7];exact((zB _ W6).alloc (zo _) _).drew
    have hs7:W7.heap.size=wr.heap.size+2:=by rw[hW7];simp;omega
    have HX7:=Hh (show W7.heap[wr.heap.size+1]?=some (.map es clock) from by rw[hW7,← hs6];exact zK1 W6 _);have HB57:=Hh (hb6.trans (hb7.mono hb6.size));have F7:Ext wr W7 cr (jC (jC cr wr.heap.size .free) (wr.heap.size+1) (.files x)) (S1 .free):=(((Ext.refl wr cr (S1 .free)).grown HG5.o (fun k hk _=>by injection hk with hk;subst hk;rw[HS.o.rcol];rfl)).trans (Ext.of_below HB57.o cr (S1 .free))).recolor (fun k hk _=>by rw[qJ hk (by omega),qJ hk (zo _)]);obtain⟨c7,hc7⟩:∃ c7,c7=jC (jC cr wr.heap.size .free) (wr.heap.size+1) (.files x):=⟨_,rfl⟩;have hc7o:∀ k,k<wr.heap.size→c7 k=cr k:=fun k hk=>by rw[hc7,qJ hk (by omega),qJ hk (zo _)]
    have hc7n:c7 (wr.heap.size+1)=.files x:=by rw[hc7,qM]
    rw[← hc7] at F7;have HM7:=HS.o.map.ext F7 HS.o.mcol rfl;obtain⟨W8,hput,hmap,hturn⟩:=HM7.put okN Tryz.underlying86 (by have:=HD.o.ents;unfold maxLen;omega) (i:=x) (HOK.o x (by rw[HFX.o];rfl)) (.agg #[.string ⟨k'.toArray⟩,.string ⟨d'.toArray⟩,.bool e',.slice A ks.length cap,.map (some (wr.heap.size+1))]);have HMP:=Hh hmap;have HTN:=Hh hturn;have hmc7:c7 bm'=.dirsMap:=by rw[hc7o bm' hbl6];exact HS.o.mcol
    have T8:=Ext.turned hturn hmc7;have HT8:=Hh T8;have HF7:=Hh F7;have HO6:=Hh ((hb6.block _ (by rw[hsz5];exact qA hown6.1)).trans (((HG5.o).block _ (qA hown6.1) (fun h=>by
     injection h with h
     have h2:=HS.o.rcol
     rw[← h,hown6.2] at h2
     cases h2)).trans hown6.1))
    have HO7:=Hh (F7.kept hown6.1 hown6.2 rfl).1;have HO8:=Hh (T8.kept (F7.kept hown6.1 hown6.2 rfl).1 (F7.kept hown6.1 hown6.2 rfl).2 rfl).1;have HX67:=Hh ((hb7.block _ (by omega)).trans HX6.o);have HX68:=Hh (((hturn.grown.block _ (by omega) (fun h=>by injection h with h;omega))).trans HX67.o);simp only[mkN] at hput;clear hes htw hb6 hb7 F7 HM7 hmap hturn T8 hown6 hmc7;have c1:=ce1 HO6.o;obtain⟨q0,q1,q2,q3⟩:=cq HX6.o;have q4:=ce4 HX6.o;have c1':=ce1 HO7.o;obtain⟨q0',q1',q2',q3'⟩:=cq HX67.o;have q4':=ce4 HX67.o;have c1'':=ce1 HO8.o;obtain⟨q0'',q1'',q2'',q3''⟩:=cq HX68.o;have q4'':=ce4 HX68.o;rw[hW7] at hput c1' q0' q1' q2' q3' q4';have HW7:=Hh hW7;rw[← hW6];clear hW6 hW7;have HCL:=Hh (show Calls Tryz.prog 112 #[.map (some (fm x))] W6.drew fun e w'=>e=.returned (.map (some W6.drew.heap.size))∧w'=W6.drew.alloc (.map es clock) from AnyW.maps_Clone Tryz.mclone (fm x) es clock W6.drew HES.o)
    go_region_held3 (fun w'=>w'.cell? ⟨b',1,none⟩=some (.map (some bm'))∧w'.cell? ⟨wr.heap.size,0,none⟩=some (.string ⟨k'.toArray⟩)∧w'.cell? ⟨wr.heap.size,1,none⟩=some (.string ⟨d'.toArray⟩)∧w'.cell? ⟨wr.heap.size,2,none⟩=some (.bool e')∧w'.cell? ⟨wr.heap.size,3,none⟩=some (.slice A ks.length cap)∧w'.cell? ⟨wr.heap.size,4,none⟩=some (.map (some (fm x))))
     (first
      | exact⟨c1,q0,q1,q2,q3,q4⟩
      | exact⟨c1',q0',q1',q2',q3',q4'⟩
      | exact⟨c1'',q0'',q1'',q2'',q3'',q4''⟩
      | go_keep)
     (first
      | (go_at_call 112;refine HCL.o.mono ?_;rintro ev w7 ⟨rfl,rfl⟩)
      | fail)
    have HHC:=Hh hc7o;have HHN:=Hh hc7n;clear hput c1 c1' c1'' q0 q1 q2 q3 q4 q0' q1' q2' q3' q4' q0'' q1'' q2'' q3'' q4'' hen hc7;go_wp2;have hR8:RangeAt Tryz.prog 3 dY W8 bm r d.l.length (yC d.l nd fm) (fun y=>left y&&!decide (y=x)) cnt' :=
     HR5.o.of_blocks ((HTN.o.grown.block bm (by omega) (fun h=>by injection h with h;omega)).trans (HB57.o.block bm (by omega))) ((HTN.o.grown.block r (by omega) (fun h=>by injection h with h;omega)).trans (HB57.o.block r (by omega)))
    refine⟨⟨fun y=>left y&&!decide (y=x),cnt',c7,fun k=>if k=x then wr.heap.size+1 else fm' k,Hh ⟨?_,?_,hR8,?_,?_,?_,?_,?_,?_⟩⟩,?_⟩
    ·exact(HB5.o.trans (HB57.o.mono HB5.o.size)).grown HTN.o.grown (by omega) (fun k hk=>by injection hk with hk;omega)
    ·exact(HS.o.ext.then HF7.o (jP (by simp))).then HT8.o (jP (by simp))
    ·have h1:=(HMP.o.congr (g:=fun k=>if (left k&&!decide (k=x))=false then yC d.l nd (fun k=>if k=x then wr.heap.size+1 else fm' k) k else none) (fun k=>by
      by_cases hk:k=x
      ·subst hk
       simp only[decide_true,Bool.not_true,Bool.and_false,if_true]
       unfold yC
       rw[HEN.o,HND.o]
       simp
      ·have e1:(left k&&!decide (k=x))=left k:=by simp[hk]
       have e2:yC d.l nd (fun k=>if k=x then wr.heap.size+1 else fm' k) k=yC d.l nd fm' k:=by unfold yC;simp[hk]
       rw[e1,e2,zL1 hk])).tight okN.keyed (d.l.map (·.k)) (fun k hk=>by
       by_cases hl:(left k&&!decide (k=x))=false
       ·rw[zM1 hl] at hk
        obtain⟨y,hy⟩:=qAJ hk
        exact zb.2 ⟨y,(vX hy).1,(vX hy).2⟩
       ·rw[zL1 hl] at hk;cases hk)
     simpa using h1
    ·intro k y hy hl;by_cases hk:k=x
     ·subst hk;simp only[if_true];exact HHN.o
     ·simp only[zL1 hk];have hlk:left k=false:=by simpa[hk] using hl
      rw[HHC.o _ (HS.o.files k y hy hlk).lt];exact HS.o.fcol k y hy hlk
    ·intro k y hy hl;by_cases hk:k=x
     ·subst hk;have:e=y:=by have:=HEN.o.symm.trans hy;injection this
      subst this;simp only[if_true];exact HTW.o W8 _ (HT8.o.kept HX7.o HHN.o rfl).1
     ·simp only[zL1 hk];have hlk:left k=false:=by simpa[hk] using hl
      have h7:c7 (fm' k)=.files k:=by rw[HHC.o _ (HS.o.files k y hy hlk).lt];exact HS.o.fcol k y hy hlk
      exact((HS.o.files k y hy hlk).ext HF7.o (HS.o.fcol k y hy hlk) rfl).ext HT8.o h7 rfl
    ·rw[HHC.o _ hbl6];exact HS.o.mcol
    ·rw[HHC.o _ hrlt];exact HS.o.rcol
    ·intro k hk;rw[HHC.o k (by omega)];exact HS.o.old k hk
    ·rw[hR8.left_eq,hm0];exact HLT.o
end
theorem pC:xX 150 (.agg #[.string ⟨#[]⟩,.slice none 0 0,.int .i64 0]) 3 48:=xQ (by kernel_rfl) rfl (by decide)
theorem qFT (x:PkX):∀ v∈yF x,v.oneCell'=true:=by
 intro v hv;simp only[yF,zY,List.not_mem_nil,or_false] at hv
 rcases hv with rfl | rfl | rfl<;>rfl
theorem qIX (a:Addr)(cap:Nat)(w:World) :
  Calls Tryz.prog 68 #[.slice (some a) 0 cap] w fun ev w'=>∃ A' cap',ev=.returned (.slice A' 0 cap')∧w'.ownsRow w.heap.size 150 3 (.slice A' 0 cap') 0 []∧Below w.heap.size w w':=by
 obtain⟨i,hi,hz0,hz1,hz2⟩:=pC.info;have t43:Tryz.prog.underlying 57=some (.slice 150):=by kernel_rfl
 have q43:∀ (w:World) (a:Option Addr) (n c:Nat),(binOp .eql 57 (.slice a n c) (.slice none 0 0)).run Tryz.prog w=.ok (.bool a.isNone) w:=fun w a n c=>Lib.run_eql_slice_nil w _ _ a n c 0 0 t43
 have u43:∀ w,Sem.run Tryz.prog (underlying 57) w=.ok (TypeDesc.slice 150) w:=run_underlying t43;go_enter Tryz.func68,Tryz.ntmps68;go_wp2_with (at_builtin;refine wpList_append_own _ rfl _ _ 57 rfl w.heap.size 150 i _ 3 48 t43 hi hz0 hz1 hz2 rfl (by decide) _ _ _ rfl (World.ownsRow_made w #[] 0 (zo _) (zw _) rfl) a 0 cap [] rfl rfl (by intro r u hj;simp at hj) (by intro u hu;cases hu) (by unfold maxLen;omega) (by omega) (by simp) ?_);intro v' w1 hown hgrow hnil;obtain⟨A',cap',rfl⟩:=Stl.owns_slice _ hown;go_wp2;go_ret;refine⟨A',cap',rfl,by simpa using hown,?_⟩;exact((zB _ w).alloc (zo _) _).grown hgrow (by simp) (by intro k hk;simp[Value.ownBlock] at hk;omega)
theorem qKy {w:World}{A:Option Addr}(cap:Nat){zs:List PkX}(h:KeptAt w A zs)(hz:zs.length≤1000000) :
  Calls Tryz.prog 68 #[.slice A zs.length cap] w fun ev w'=>∃ A' c',ev=.returned (.slice A' zs.length c')∧w'.ownsRow w.heap.size 150 3 (.slice A' zs.length c') zs.length (zs.flatMap yF)∧Below w.heap.size w w':=by
 obtain⟨i,hi,hz0,hz1,hz2⟩:=pC.info;by_cases hn:zs=[]
 ·subst hn
  cases A with
  | none =>
   refine(AnyE.slices_Clone_nil Tryz.cloneK 0 cap w).mono ?_;rintro ev w' ⟨rfl,rfl⟩;exact⟨none,0,rfl,zF1 _ _ _ _,zB _ _⟩
  | some ad=>exact qIX ad cap w
 ·obtain⟨b,rfl,hb,hc⟩:=h hn;refine(AnyE.slices_Clone Tryz.cloneK i _ 3 48 hi hz0 hz1 hz2 rfl (by decide) (gB pC) b 0 zs.length cap (zs.flatMap yF) w (yY zs) (by unfold maxLen;omega) (by omega) (fun j u hu=>by rw[zv];exact hc j u hu) (fun u hu=>by obtain⟨x,_,hx⟩:=za.1 hu;exact qFT x u hx)).mono ?_;rintro ev w' ⟨v',rfl,h5,_,h6⟩;obtain⟨A',cap',rfl⟩:=Stl.owns_slice _ h5;exact⟨A',cap',rfl,h5,h6⟩
def qIL (w:World)(k0:Nat→Col)(s:Sto)(tp:Nat)(e:Ending)(w':World):Prop:=∃ b2 c2,e=.returned (.pointer (some ⟨b2,0,none⟩))∧Below w.heap.size w w'∧(∀ k,k<w.heap.size→c2 k=k0 k)∧w.heap.size≤b2∧StoAt w' c2 b2 s tp
section
variable {w:World}{A:Option Addr}{zs:List PkX}{c:Nat→Col}{b:Nat}{s:Sto}{bd:Nat}{cap:Nat}{R:Option Addr}{rc tp:Nat}
theorem qI4 (k0:Nat→Col)(hro:∀ k,c k=.ro→k0 k=.ro)(h:StoX w c b s bd A cap zs R rc tp)(hd:DirsGood s.d)(hz:zs.length≤1000000)(hrl:s.roots.length≤1000000) :
  Calls Tryz.prog 35 #[.pointer (some ⟨b,0,none⟩)] w (qIL w k0 s tp):=by
 have H:=Hh h;have HD:=Hh hd;obtain⟨c0,c1,c2,c3⟩:=cq h.own;have hbl:=qA h.own;have hx:Ext w w c (fun k=>if k<w.heap.size then c k else .free) S0:=(Ext.refl w c S0).recolor (fun k hk _=>zM1 hk);have hro2:∀ k,(if k<w.heap.size then c k else Col.free)=.ro→(if k<w.heap.size then k0 k else Col.sto)=.ro:=fun k hk=>by
  by_cases h1:k<w.heap.size
  ·rw[zM1 h1] at hk ⊢;exact hro k hk
  ·rw[zL1 h1] at hk
   cases hk
 have hD0:=(zB w.heap.size w).drew;have HCP:=Hh (show Calls Tryz.prog 67 #[.pointer (some ⟨bd,0,none⟩)] w.drew _ from qFt (fun k=>if k<w.heap.size then k0 k else Col.sto) hro2 ((h.dirs.ext hx rfl (fun _ _=>rfl)).below hD0) hd);have HK:=Hh h.kept;have HR:=Hh (jS h.roots.1);have HRO:=Hh hro;have HD0:=Hh hD0;clear h hd hx hro2 hro hD0;go_enter Tryz.func35,Tryz.ntmps35;go_upto_region 1 with fail
 go_region_held3 (fun w'=>w'.cell? ⟨b,0,none⟩=some (.pointer (some ⟨bd,0,none⟩))∧w'.cell? ⟨b,1,none⟩=some (.slice A zs.length cap)∧w'.cell? ⟨b,2,none⟩=some (.slice R s.roots.length rc)∧w'.cell? ⟨b,3,none⟩=some (.pointer (some ⟨tp,0,none⟩)))
  (first
   | exact⟨c0,c1,c2,c3⟩
   | exact HS2.o
   | exact HS3.o
   | exact HS4.o
   | go_keep)
  (first
   | (go_at_call 67;refine HCP.o.mono ?_;rintro ev w2 ⟨b2,k2,rfl,hb2,hk2,hl2,hd2⟩;have HB2:=Hh (HD0.o.trans (hb2.mono (zo _)));have HK2:=Hh hk2;have HL2:=Hh hl2;have HD2:=Hh hd2;have HS2:=Hh (show w2.cell? ⟨b,0,none⟩=some (.pointer (some ⟨bd,0,none⟩))∧w2.cell? ⟨b,1,none⟩=some (.slice A zs.length cap)∧w2.cell? ⟨b,2,none⟩=some (.slice R s.roots.length rc)∧w2.cell? ⟨b,3,none⟩=some (.pointer (some ⟨tp,0,none⟩)) from ⟨(HB2.o.cell hbl).trans c0,(HB2.o.cell hbl).trans c1,(HB2.o.cell hbl).trans c2,(HB2.o.cell hbl).trans c3⟩);clear hb2 hk2 hl2 hd2)
   | (go_at_call 68;refine(qKy cap (HK.o.later HB2.o) hz).mono ?_;rintro ev w3 ⟨A3,cap3,rfl,hr3,hb3⟩;have HB23:=Hh hb3;have HR3:=Hh hr3;have HB3:=Hh (HB2.o.trans (hb3.mono HB2.o.size));have HS3:=Hh (show w3.cell? ⟨b,0,none⟩=some (.pointer (some ⟨bd,0,none⟩))∧w3.cell? ⟨b,1,none⟩=some (.slice A zs.length cap)∧w3.cell? ⟨b,2,none⟩=some (.slice R s.roots.length rc)∧w3.cell? ⟨b,3,none⟩=some (.pointer (some ⟨tp,0,none⟩)) from ⟨(HB3.o.cell hbl).trans c0,(HB3.o.cell hbl).trans c1,(HB3.o.cell hbl).trans c2,(HB3.o.cell hbl).trans c3⟩);clear hb3 hr3)
   | (go_at_call 69;refine(nT (HR.o.later HB3.o) hrl).mono ?_;rintro ev w4 ⟨A4,cap4,rfl,hr4,hb4⟩;have HB34:=Hh hb4;have HR4:=Hh hr4;have HB4:=Hh (HB3.o.trans (hb4.mono HB3.o.size));have HS4:=Hh (show w4.cell? ⟨b,0,none⟩=some (.pointer (some ⟨bd,0,none⟩))∧w4.cell? ⟨b,1,none⟩=some (.slice A zs.length cap)∧w4.cell? ⟨b,2,none⟩=some (.slice R s.roots.length rc)∧w4.cell? ⟨b,3,none⟩=some (.pointer (some ⟨tp,0,none⟩)) from ⟨(HB4.o.cell hbl).trans c0,(HB4.o.cell hbl).trans c1,(HB4.o.cell hbl).trans c2,(HB4.o.cell hbl).trans c3⟩);clear hb4 hr4)
   | fail)
 clear c0 c1 c2 c3;go_wp2;go_ret;have s2:=HB2.o.size;have s3:=HB23.o.size;have s4:=HB34.o.size;have hb5:=HB34.o.alloc HB34.o.size (.cells #[.pointer (some ⟨b2,0,none⟩),.slice A3 zs.length cap3,.slice A4 s.roots.length cap4,.pointer (some ⟨tp,0,none⟩)] 59);have hb45:Below w4.heap.size w4 (w4.alloc (.cells #[.pointer (some ⟨b2,0,none⟩),.slice A3 zs.length cap3,.slice A4 s.roots.length cap4,.pointer (some ⟨tp,0,none⟩)] 59)):=(zB _ w4).alloc (zo _) _;have hx5:=zK1 w4 (.cells #[.pointer (some ⟨b2,0,none⟩),.slice A3 zs.length cap3,.slice A4 s.roots.length cap4,.pointer (some ⟨tp,0,none⟩)] 59);have hbw:Below w.heap.size w (w4.alloc (.cells #[.pointer (some ⟨b2,0,none⟩),.slice A3 zs.length cap3,.slice A4 s.roots.length cap4,.pointer (some ⟨tp,0,none⟩)] 59)):=HB4.o.alloc HB4.o.size _;have hsz:(w4.alloc (.cells #[.pointer (some ⟨b2,0,none⟩),.slice A3 zs.length cap3,.slice A4 s.roots.length cap4,.pointer (some ⟨tp,0,none⟩)] 59)).heap.size=w4.heap.size+1:=by simp
 generalize w4.alloc (.cells #[.pointer (some ⟨b2,0,none⟩),.slice A3 zs.length cap3,.slice A4 s.roots.length cap4,.pointer (some ⟨tp,0,none⟩)] 59)=w5 at *;obtain⟨k5,hk5⟩:∃ k5:Nat→Col,k5=fun k=>if k<w2.heap.size then k2 k else if k<w3.heap.size then .stoL else if k<w4.heap.size then .roots else .sto:=⟨_,rfl⟩
 have e25:Ext w2 w5 k2 k5 S0:=(Ext.of_below ((HB23.o.trans (hb5.mono s3))) k2 S0).recolor fun k hk _=>by rw[hk5];exact zM1 hk
 have HX5:=hx5;refine⟨w4.heap.size,k5,rfl,hbw,fun k hk=>?_,by omega,StoX.shut (bd:=b2) (A:=A3) (cap:=cap3) (zs:=zs) (R:=A4) (rc:=cap4) ⟨HX5,?_,HD2.o.ext e25 rfl (fun _ _=>rfl),?_,H.o.eq,fun x hx=>⟨(H.o.ro x hx).1,?_⟩,?_⟩⟩
 ·rw[hk5];show (if k<w2.heap.size then k2 k else _)=_;rw[zM1 (by omega),HK2.o k (by simpa using hk)];exact zM1 hk
 ·rw[hk5];show (if w4.heap.size<w2.heap.size then _ else if w4.heap.size<w3.heap.size then Col.stoL else if w4.heap.size<w4.heap.size then Col.roots else Col.sto)=_;rw[zL1 (by omega),zL1 (by omega),zL1 (by omega)]
 ·refine RowAt.of_owns (base:=0) ((HR3.o.mono (zw _)).kept (Below.toGrown hb5 none) (by cases Value.ownBlock (Value.slice A3 zs.length cap3)<;>simp)) fun k hk=>?_
  obtain⟨l1,l2⟩:=HR3.o.lt k hk;rw[hk5];show (if k<w2.heap.size then _ else if k<w3.heap.size then Col.stoL else _)=_;rw[zL1 (by omega),zM1 l2]
 ·intro hn;obtain⟨g,off,h1,h2,h3,h4⟩:=(H.o.ro x hx).2 hn;refine⟨g,off,h1,by omega,?_,fun j u hu=>?_⟩
  ·rw[hk5];show (if g<w2.heap.size then k2 g else _)=_;rw[zM1 (by omega),HK2.o g (by simpa using h2)];show (if g<w.heap.size then k0 g else _)=_;rw[zM1 h2];exact HRO.o g h3
  ·exact(hbw.cell (p:=⟨g,off+j,none⟩) h2).trans (h4 j u hu)
 ·refine RowAt.of_owns (base:=0) ((HR4.o.mono (zw _)).kept (Below.toGrown hb45 none) (by cases Value.ownBlock (Value.slice A4 s.roots.length cap4)<;>simp)) fun k hk=>?_
  obtain⟨l1,l2⟩:=HR4.o.lt k hk;rw[hk5];show (if k<w2.heap.size then _ else if k<w3.heap.size then Col.stoL else if k<w4.heap.size then Col.roots else _)=_;rw[zL1 (by omega),zL1 (by omega),zM1 l2]
end
theorem vK {w:World}{base:Nat}{e:TypeId}{size g n cap:Nat}{xs:List Value}(h:w.ownsRow base e size (.slice (some ⟨g,0,none⟩) n cap) n xs):∀ (vs:List Value) (o:Nat),o+vs.length≤xs.length →
  (w.setCells g o vs).ownsRow base e size (.slice (some ⟨g,0,none⟩) n cap) n (xs.take o++vs++xs.drop (o+vs.length))∧w.grownBy (w.setCells g o vs) (some g):=by
 intro vs
 induction vs generalizing w xs with
 | nil =>
  intro o _;refine⟨?_,⟨rfl,rfl,rfl,zo _,fun _ _ _=>rfl⟩⟩;rw[show w.setCells g o []=w from rfl];simpa using h
 | cons v r ih =>
  intro o ho;simp only[zQ] at ho;obtain⟨h1,h2⟩:=h.stored o v;obtain⟨h3,h4⟩:=ih h1 (o+1) (by simp;omega);refine⟨?_,⟨h4.os.trans h2.os,h4.tape.trans h2.tape,h4.output.trans h2.output,zq h2.size h4.size,fun k hk hne=>(h4.block k (zt hk h2.size) hne).trans (h2.block k hk hne)⟩⟩;have e1:(xs.set o v).take (o+1)++r++(xs.set o v).drop (o+1+r.length)=xs.take o++v::r++xs.drop (o+(v::r).length):=by
   have hlt:o<xs.length:=by omega
   obtain⟨a,x,b,rfl,rfl⟩:∃ a x b,xs=a++x::b∧a.length=o:=⟨xs.take o,xs[o],xs.drop (o+1),by rw[← zF hlt,List.take_append_drop],by rw[List.length_take];omega⟩;rw[List.set_append_right _ _ (zo _),Nat.sub_self,List.set_cons_zero];have t1:(a++v::b).take (a.length+1)=a++[v]:=by rw[List.take_append,zm (by omega)];simp
   have t2:(a++v::b).drop (a.length+1+r.length)=b.drop r.length:=by rw[List.drop_append,zG (by omega)];simp[show a.length+1+r.length-a.length=r.length+1 by omega]
   have t3:(a++x::b).drop (a.length+(v::r).length)=b.drop r.length:=by rw[List.drop_append,zG (by simp)];simp[show a.length+(r.length+1)-a.length=r.length+1 by omega]
   rw[t1,t2,t3,List.take_left];simp
  rw[← e1];exact h3
theorem kS {w:World}{base:Nat}{e:TypeId}{size g n m cap:Nat}{xs:List Value}(h:w.ownsRow base e size (.slice (some ⟨g,0,none⟩) n cap) n xs)(hm:m≤n):w.ownsRow base e size (.slice (some ⟨g,0,none⟩) m cap) m (xs.take (m*size)):=by
 have hl:=h.1
 rcases h.2 with ⟨e1,_⟩ | ⟨g',cp,cur,e1,h2,h3,h4,h5,h6,h7⟩
 ·cases e1
 ·injection e1 with a1 a2 a3
  injection a1 with a1
  injection a1 with a1 _ _
  subst a1 a3;have hms:m*size≤n*size:=Nat.mul_le_mul_right _ hm;refine⟨by rw[List.length_take];omega,.inr ⟨g,cap,cur,rfl,h2,h3,by omega,h5,h6,?_⟩⟩;rw[← h7,List.take_take,Nat.min_eq_left hms]
theorem qEj {P:Program}(w:World)(t e ty:TypeId)(z:Value)(ht:P.underlying t=some (.slice e))(hv:∀ w,(zeroValue e).run P w=.ok z w)(h1:∀ u∈z.cells.toList,u.oneCell'=true)(b o c:Nat)
  (hc:∀ j,j<z.cells.size→(w.cell? ⟨b,o+j,none⟩).isSome=true) (hf:∀ j,j<z.cells.size→w.frozen? ⟨b,o+j,none⟩=false) :
  (Builtin.clear_ #[t] ty #[.slice (some ⟨b,o,none⟩) 1 c]).run P w=.ok (.tuple #[]) (w.setCells b o z.cells.toList):=by
 have hzc:(Builtin.zeroCells z.cells 1).toList=z.cells.toList:=by
  apply List.ext_getElem
  ·simp[Builtin.zeroCells]
  ·intro i h1 h2;have h3:i<z.cells.size:=by simpa using h2
   simp[Builtin.zeroCells,Nat.mod_eq_of_lt h3,getElem!_pos z.cells i h3]
 have hst:=run_storeCells_cells (P:=P) b o z.cells.toList 0 w (by simpa using hc) (by simpa using hf) h1;simp only[Nat.add_zero] at hst;simp[Builtin.clear_,run_underlying ht,hv,hzc,hst]
theorem qMO (w:World):(zeroValue 150).run Tryz.prog w=.ok (.agg #[.string ⟨#[]⟩,.slice none 0 0,.int .i64 0]) w:=by kernel_rfl
theorem qDr:∀ (zs:List PkX) (k:Nat),(zs.drop k).flatMap yF=(zs.flatMap yF).drop (k*3)
 | [],k=>by simp
 | x::r,0=>by simp
 | x::r,k+1=>by
  rw[List.drop_succ_cons,qDr r k,List.flatMap_cons,show (k+1)*3=(yF x).length+k*3 by show _=3+_;omega,List.drop_append];simp
theorem qDV:∀ (zs:List PkX) (k:Nat),(zs.take k).flatMap yF=(zs.flatMap yF).take (k*3)
 | [],k=>by simp
 | x::r,0=>by simp
 | x::r,k+1=>by
  rw[List.take_succ_cons,List.flatMap_cons,qDV r k,List.flatMap_cons,show (k+1)*3=(yF x).length+k*3 by show _=3+_;omega,List.take_append];rw[zm (l:=yF x) (by omega)];simp
theorem qNM {w:World}{base g cap:Nat}{zs:List PkX}(hr:w.ownsRow base 150 3 (.slice (some ⟨g,0,none⟩) zs.length cap) zs.length (zs.flatMap yF))(k:Nat)(hk:k<zs.length)(hz:zs.length≤1000000) :
  Calls Tryz.prog 116 #[.slice (some ⟨g,0,none⟩) zs.length cap,.int .i64 k,.int .i64 ((k:Int)+1)] w fun e w'=>e=.returned (.slice (some ⟨g,0,none⟩) (zs.length-1) cap) ∧
   w'.ownsRow base 150 3 (.slice (some ⟨g,0,none⟩) (zs.length-1) cap) (zs.length-1) ((zs.eraseIdx k).flatMap yF)∧w.grownBy w' (some g):=by
 have hncap:=yG hr;have hcap:cap≤maxLen:=by
  rcases hr.2 with ⟨e1,_⟩ | ⟨g',cp,cur,e1,_,_,_,h5,_⟩
  ·cases e1
  ·injection e1 with _ _ e3;omega
 unfold maxLen at hcap;obtain⟨i0,hi0,hz0,hz1,hz2⟩:=pC.info;obtain⟨news,hnews⟩:∃ news,news=(zs.drop (k+1)).flatMap yF:=⟨_,rfl⟩;have hlen:news.length=(zs.length-(k+1))*3:=by rw[hnews,yY,List.length_drop]
 have hcell:∀ j u,(zs.flatMap yF)[j]?=some u→w.cell? ⟨g,j,none⟩=some u:=fun j u hu=>by
  have hj:=(zM.1 hu).1;rw[yY] at hj;rw[hr.cellAt j hj];exact hu
 have hfl:=yY zs;obtain⟨A,hA,hsrc⟩:∃ A:Addr,(if cap=k+1 then some (⟨g,0,none⟩:Addr) else some ⟨g,(k+1)*3,none⟩)=some A∧Hg (∀ t u,news[t]?=some u→w.drew.cell? (A.add t)=some u):=by
  by_cases h:cap=k+1
  ·refine⟨⟨g,0,none⟩,by rw[zM1 h],fun t u hu=>?_⟩;have h0:news.length=0:=by rw[hlen];omega
   rw[zR.1 h0] at hu;simp at hu
  ·refine⟨⟨g,(k+1)*3,none⟩,by rw[zL1 h],fun t u hu=>?_⟩;have e1:(⟨g,(k+1)*3,none⟩:Addr).add t=⟨g,(k+1)*3+t,none⟩:=by unfold Addr.add;split<;>simp_all
   rw[e1];refine hcell ((k+1)*3+t) u ?_;rw[hnews,qDr,List.getElem?_drop] at hu;exact hu
 have s1:Hg (news.length=(zs.length-(k+1))*3):=hlen;have s2:Hg (∀ u∈news,u.oneCell'=true):=by
  intro u hu;rw[hnews] at hu;obtain⟨x,_,hx⟩:=za.1 hu;exact qFT x u hx
 have hcs:∀ j,j<zs.length*3→(w.cell? ⟨g,j,none⟩).isSome=true:=fun j hj=>by
  rw[hr.cellAt j hj,zL (by rw[hfl];exact hj)];rfl
 have s3:Hg (∀ t,t<news.length→(w.drew.cell? ⟨g,0+k*3+t,none⟩).isSome=true∧w.drew.frozen? ⟨g,0+k*3+t,none⟩=false):=by
  intro t ht;rw[hlen] at ht;exact⟨hcs _ (by omega),hr.frozenAt _⟩
 obtain⟨h1a,h1b⟩:=vK (w:=w.drew) hr news (0+k*3) (by rw[hfl,hlen];omega);obtain⟨W1,hW1⟩:∃ W1,W1=w.drew.setCells g (0+k*3) news:=⟨_,rfl⟩;rw[← hW1] at h1a h1b;obtain⟨xs1,hxs1⟩:∃ xs1,xs1=(zs.flatMap yF).take (0+k*3)++news++(zs.flatMap yF).drop (0+k*3+news.length):=⟨_,rfl⟩;rw[← hxs1] at h1a;have hl1:=h1a.1;obtain⟨zc,hzc⟩:∃ zc:Value,zc=.agg #[.string ⟨#[]⟩,.slice none 0 0,.int .i64 0]:=⟨_,rfl⟩;have hzs:zc.cells=#[.string ⟨#[]⟩,.slice none 0 0,.int .i64 0]:=by rw[hzc];rfl
 have hcl:∀ ty c',(Builtin.clear_ #[57] ty #[.slice (some ⟨g,(zs.length-1)*3,none⟩) 1 c']).run Tryz.prog W1=.ok (.tuple #[]) (W1.setCells g ((zs.length-1)*3) zc.cells.toList):=fun ty c' =>
  qEj W1 _ 150 ty zc Tryz.underlying57 (fun w=>by rw[hzc];exact qMO w) (fun u hu=>by
   rw[hzs] at hu
   simp only[zY,List.not_mem_nil,or_false] at hu
   rcases hu with rfl | rfl | rfl<;>rfl) g _ c' (fun j hj=>by
    rw[hzs] at hj
    have hj':j<3:=hj
    rw[h1a.cellAt _ (by omega),zL (by rw[hl1];omega)]
    rfl) (fun j _=>h1a.frozenAt _)
 obtain⟨h2a,h2b⟩:=vK h1a zc.cells.toList ((zs.length-1)*3) (by rw[hzs,hl1];show _+3≤_;omega);have h3:=kS h2a (m:=zs.length-1) (by omega);have hfin:(xs1.take ((zs.length-1)*3)++zc.cells.toList++xs1.drop ((zs.length-1)*3+zc.cells.toList.length)).take ((zs.length-1)*3)=(zs.eraseIdx k).flatMap yF:=by
  rw[List.append_assoc,zj (by rw[List.length_take,hl1];omega),List.take_take,Nat.min_self,hxs1,zv,List.eraseIdx_eq_take_drop_succ,List.flatMap_append,qDV,← hnews];have e1:((zs.flatMap yF).take (k*3)++news).length=(zs.length-1)*3:=by rw[zP,List.length_take,hfl,hlen];omega
  rw[zj (by omega),zm (by omega)]
 rw[hfin] at h3;clear hfin;have HF:=Hh h3;have HG:=Hh (show w.grownBy (W1.setCells g ((zs.length-1)*3) zc.cells.toList) (some g) from ⟨h2b.os.trans h1b.os,h2b.tape.trans h1b.tape,h2b.output.trans h1b.output,zq h1b.size h2b.size,fun k hk hne=>(h2b.block k (zt hk h1b.size) hne).trans (h1b.block k hk hne)⟩);have hW:Hg (W1=w.drew.setCells g (0+k*3) news):=hW1;generalize zc.cells.toList=zl at hcl HF HG h2a h2b h3;have hkc:k≤cap:=by omega
 have hkc1:k+1≤cap:=by omega
 have hsum:k+(zs.length-(k+1))=zs.length-1:=by omega
 clear hr hcell hcs h1a h1b h2a h2b h3 hl1 hxs1 hzs hW1 hnews hlen hfl hzc hz2 hz0;have e0:((k:Int)==(k:Int)+1)=false:=by rw[zG1];omega
 have i1:(0:Int)≤(k:Int)+1:=by omega
 have i2:(k:Int)+1≤(zs.length:Int):=by omega
 have mixed:Tryz.prog.follows Departure.mixedOrders=true:=by kernel_rfl
 go_enter Tryz.func116,Tryz.ntmps116;go_wp2_with fail
 go_region_law_o (refine step_append_room rfl (.tmp 22) (.tmp 25) 57 rfl 150 i0 3 Tryz.underlying57 hi0 hz1 g 0 k cap (by simp[Act.eval,Act.put]) A (zs.length-(k+1)) (cap-(k+1)) news (by simp[Act.eval,Act.put]) s1.o hsrc.o s2.o (by omega) s3.o ?_;rw[← hW.o])
 have j1:((zs.length-1:Nat):Int)≤(zs.length:Int):=by omega
 have j2:(0:Int)≤((zs.length-1:Nat):Int):=by omega
 have j3:¬ cap=zs.length-1:=by omega
 have j4:zs.length-(zs.length-1)=1:=by omega
 have j5:(zs.length:Int)≤(cap:Int):=by omega
 go_wp2;go_ret;exact⟨rfl,HF.o,HG.o⟩
end Go.Proofs.YtbmkaekimccdgaaGreatDoor
