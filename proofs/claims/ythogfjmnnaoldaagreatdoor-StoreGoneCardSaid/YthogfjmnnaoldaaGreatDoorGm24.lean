/- Texts of this claim, merged: DirsCopy, Copied. -/
import Derived.Test.YthogfjmnnaoldaaGreatDoorGm18
import Derived.Test.YthogfjmnnaoldaaGreatDoorGm23
set_option maxHeartbeats 16000000
set_option maxRecDepth 1000000
set_option linter.all false
namespace Go.Proofs.YthogfjmnnaoldaaGreatDoor
open Go.RowKit Go.Maps Go.Sort Go.Shelf Stl
def DcIn (w:World) (k0:Nat→Col) (d:Stl.Dirs) (wx:World) (b' bt' bm':Nat) (c3:Nat→Col):Prop :=
 Below w.heap.size w wx∧(∀ k,k<w.heap.size→c3 k=k0 k)∧w.heap.size≤b'∧w.heap.size≤bm'∧wx.heap[b']?=some (.cells #[.pointer (some ⟨bt',0,none⟩),.map (some bm'),.int .i64 d.next] 97 (0,0))∧c3 b'=.dirs∧TabAt wx c3 bt' d.t∧wx.heap[bm']?=some (.map #[] 0)∧c3 bm'=.dirsMap
theorem qPp {w:World} {d:Stl.Dirs} {w3:World} {c3 k0:Nat→Col} {bt' bm':Nat} (hB:Below w.heap.size w w3) (hcc:∀ k,k<w.heap.size→c3 k=k0 k) (ht:TabAt w3 c3 bt' d.t) (hm:w3.heap[bm']?=some (.map #[] 0)) (hmc:c3 bm'=.dirsMap) (hbm:w.heap.size≤bm') :
  DcIn w k0 d (w3.alloc (.cells #[.pointer (some ⟨bt',0,none⟩),.map (some bm'),.int .i64 d.next] 97)) w3.heap.size bt' bm' (qAz c3 w3.heap.size .dirs):=by
 have e:=Ext.made w3 c3 S0 (.cells #[.pointer (some ⟨bt',0,none⟩),.map (some bm'),.int .i64 d.next] 97) .dirs
 refine ⟨hB.alloc hB.size _,fun k hk=>?_,hB.size,hbm,zL1 w3 _,qAl _ _ _,ht.ext e rfl (fun _ _=>rfl),(e.kept hm hmc rfl).1,(e.kept hm hmc rfl).2⟩
 rw [qAg hk hB.size]
 exact hcc k hk
theorem qLk {α:Type} {P:Program} {k:TypeId} {key:α→Lit} {w:World} {b n:Nat} {f:α→Option Value} (h:Stl.MapAt P k key w b n f):∃ es clock,w.heap[b]?=some (.map es clock)∧∀ w2 b2,w2.heap[b2]?=some (.map es clock)→Stl.MapAt P k key w2 b2 n f:=by
 obtain ⟨D,⟨es,clock,h1,h2⟩,h3⟩:=h
 exact ⟨es,clock,h1,fun w2 b2 hb=>⟨D,⟨es,clock,hb,h2⟩,h3⟩⟩
structure DcSt (w w4 wr:World) (k0 c4 cr:Nat→Col) (d:Stl.Dirs) (nd:Nat→List Value) (fm:Nat→Nat) (bm bm' r:Nat) (left:Nat→Bool) (cnt:Nat) (fm':Nat→Nat):Prop where
 below:Below w.heap.size w wr
 ext:Ext w4 wr c4 cr (fun y=>decide (y=.dirsMap)||decide (y=.free))
 range:RangeAt Tryz.prog 3 qKq wr bm r d.l.length (qA3 d.l nd fm) left cnt
 map:qCR wr bm' d.l.length (fun k=>if left k=false then qA3 d.l nd fm' k else none)
 fcol:∀ k e,qAh d.l k=some e→left k=false→cr (fm' k)=.files k
 files:∀ k e,qAh d.l k=some e→left k=false→qBh wr (fm' k) e.f.length (fileAt e.f)
 mcol:cr bm'=.dirsMap
 rcol:cr r=.free
 old:∀ k,k<w.heap.size→cr k=k0 k
theorem qC6 {l:List Ent} {nd:Nat→List Value} {fm:Nat→Nat} {k:Nat} (h:(qA3 l nd fm k).isSome=true):∃ e,qAh l k=some e:=by
 unfold qA3 at h
 cases hx:qAh l k with
 | none=>rw [hx] at h;cases h
 | some e=>exact ⟨e,rfl⟩
section
variable {w:World} {c:Nat→Col} {b:Nat} {d:Stl.Dirs}
theorem qIB (k0:Nat→Col) (hro:∀ k,c k=.ro→k0 k=.ro) (h:DirsAt w c b d) (hd:DirsGood d) :
  Calls Tryz.prog 38 #[.pointer (some ⟨b,0,none⟩)] w fun e w'=>∃ b2 c2,e=.returned (.pointer (some ⟨b2,0,none⟩))∧Below w.heap.size w w'∧(∀ k,k<w.heap.size→c2 k=k0 k)∧w.heap.size≤b2∧DirsAt w' c2 b2 d:=by
 obtain ⟨bt,bm,nd,fm,h⟩:=h
 have H:=Hh h
 have HD:=Hh hd
 have c0:w.cell? ⟨b,0,none⟩=some (.pointer (some ⟨bt,0,none⟩)):=zK1 w b 0 _ _ _ h.own
 have c2:w.cell? ⟨b,2,none⟩=some (.int .i64 d.next):=zK1 w b 2 _ _ _ h.own
 have hbl:=lt_of_cell c0
 have hmm:=@run_makeMap Tryz.prog
 have HRO:=Hh hro
 have hx:Ext w w c (fun k=>if k<w.heap.size then c k else .free) S0:=(Ext.refl w c S0).recolor (fun k hk _=>zN1 hk)
 have HT:=Hh (h.tab.ext hx rfl (fun _ _=>rfl))
 have hro2:∀ k,(if k<w.heap.size then c k else Col.free)=.ro→(if k<w.heap.size then k0 k else Col.dirsMap)=.ro:=fun k hk=>by
  by_cases h1:k<w.heap.size
  ·rw [zN1 h1] at hk ⊢
   exact HRO.out k hk
  ·rw [zM1 h1] at hk
   cases hk
 have HRO2:=Hh hro2
 clear h hro hd hx hro2
 go_enter Tryz.func38,Tryz.ntmps38
 go_upto_region 1 with fail
 go_cut [3] (fun s wx=>∃ (b' bt' bm':Nat) (c3:Nat→Col),s=.pointer (some ⟨b',0,none⟩)∧Hid (DcIn w k0 d wx b' bt' bm' c3))
 case first =>
  go_region_held3 (fun w'=>w'.cell? ⟨b,0,none⟩=some (.pointer (some ⟨bt,0,none⟩))∧w'.cell? ⟨b,2,none⟩=some (.int .i64 d.next))
   (first
    | exact ⟨c0,c2⟩
    | exact ⟨c0',c2'⟩
    | go_keep)
   (first
    | (go_at_call 64;refine (qJL (fun k=>if k<w.heap.size then k0 k else .dirsMap) HRO2.out (HT.out.ext (Ext.of_below (by go_grown) _ S0) rfl (fun _ _=>rfl)) HD.out.disk HD.out.inos).mono ?_;rintro ev w2 ⟨bt2,c3,rfl,hb2,hc3,hbt2,ht2⟩;have hb2':Below w.heap.size w w2:=(by refine Below.trans ?_ (hb2.mono ?_)<;>first | go_grown | (simp;done) | (simp;omega));have c0':=(hb2'.cell (p:=⟨b,0,none⟩) hbl).trans c0;have c2':=(hb2'.cell (p:=⟨b,2,none⟩) hbl).trans c2)
    | fail)
  ·have hs2:=hb2'.size
   have hz:w.drew.heap.size=w.heap.size:=rfl
   have e3:=Ext.made w2 c3 S0 (.map #[] 0) .dirsMap
   have hf:=qPp (w:=w) (d:=d) (k0:=k0) (hb2'.alloc hs2 (.map #[] 0)) (fun k hk=>by rw [qAg hk hs2,hc3 k (by omega),zN1 hk]) (ht2.ext e3 rfl (fun _ _=>rfl)) (zL1 w2 _) (qAl _ _ _) hs2
   clear c0 c2 c0' c2'
   go_wp2
   go_meet
   case rel=>exact ⟨_,_,_,_,by simp,Hh hf⟩
  ·have hs2:=hb2'.size
   have hz:(w.alloc (.map #[] 0)).drew.heap.size=w.heap.size+1:=by simp
   have hf:=qPp (w:=w) (d:=d) (k0:=k0) (bm':=w.heap.size) hb2' (fun k hk=>by rw [hc3 k (by omega),zN1 hk]) ht2 ((hb2.block _ (by omega)).trans (zL1 w _)) (by rw [hc3 _ (by omega),zM1 (by omega)]) (zr _)
   clear c0 c2 c0' c2'
   go_wp2
   go_meet
   case rel=>exact ⟨_,_,_,_,rfl,Hh hf⟩
 case rest =>
  obtain ⟨b',bt',bm',c3,rfl,HC⟩:=hcut
  obtain ⟨hB,hcc,hb',hbm',hown,hcb,ht3,hm3,hmc⟩:=HC.out
  have c1:wc.cell? ⟨b,1,none⟩=some (.map (some bm)):=(hB.cell (p:=⟨b,1,none⟩) hbl).trans (zK1 w b 1 _ _ _ H.out.own)
  have HM:=Hh (H.out.map.of_block (hB.block _ H.out.map.lt))
  have HB:=Hh hB
  have HNM:=Hh (show qCR wc bm' 0 (fun _=>none) from ⟨.map [],⟨#[],0,hm3,⟨by simp,MapKept.stamped_empty 0,by simp⟩,zr _,rfl⟩,MapIs.empty⟩)
  have hblt:=H.out.map.lt
  clear c0 c2 hB hcc hown hcb ht3 hm3
  go_wp2_with (at_range;refine qBW rfl _ 95 138 rfl okN Tryz.underlying95 rfl HM.out ?_;intro w4 cnt hrg hgr hsz)
  have HR:=Hh hrg
  have hB4:=Hh (HB.out.grown hgr HB.out.size (fun k hk=>by cases hk))
  have he4:=((Ext.refl wc c3 S0).grown hgr (fun k hk=>by cases hk)).recolor (c3:=qAz c3 wc.heap.size .free) (fun k hk _=>qAg hk (zr _))
  have HE4:=Hh he4
  have hr0:=HB.out.size
  have hbmlt:bm'<wc.heap.size:=HNM.out.lt
  have HL0:=Hh (show ∀ k,(qA3 d.l nd fm k).isSome=false→qA3 d.l nd fm k=none from fun k h=>by simpa using h)
  have H0:=Hh (show DcSt w w4 w4 k0 (qAz c3 wc.heap.size .free) (qAz c3 wc.heap.size .free) d nd fm bm bm' wc.heap.size (fun x=>(qA3 d.l nd fm x).isSome) cnt fm from
   ⟨hB4.out,Ext.refl _ _ _,HR.out,(((HNM.out.ext he4 hmc rfl).mono (zy _)).congr (fun k=>by
    by_cases h:(qA3 d.l nd fm k).isSome=false
    ·rw [zN1 h];exact HL0.out k h
    ·rw [zM1 h])),fun k x hx hl=>(by unfold qA3 at hl;rw [hx] at hl;cases hl),fun k x hx hl=>(by unfold qA3 at hl;rw [hx] at hl;cases hl),by rw [qAg hbmlt (zr _)];exact hmc,qAl _ _ _,fun k hk=>(by rw [qAg hk hr0];exact HC.out.2.1 k hk)⟩)
  have HOK:=Hh (show ∀ x:Nat,(qA3 d.l nd fm x).isSome=true→x≤4611686018427387904 from fun x hx=>by
   obtain ⟨e,he⟩:=qC6 hx
   have h1:=HD.out.ok.next e (qA1 he).1
   have h3:=(qA1 he).2
   have h2:=HD.out.next
   omega)
  clear hrg hgr he4 c1
  generalize hr:wc.heap.size=r at *
  go_simp
  go_loopw [23] (fun _ wr=>∃ (left:Nat→Bool) (cn:Nat) (cr:Nat→Col) (fm':Nat→Nat),Hid (DcSt w w4 wr k0 (qAz c3 r .free) cr d nd fm bm bm' r left cn fm')) (fun _ wr=>wr.rangeLeft bm r)
  case atStart=>exact ⟨_,_,_,_,H0⟩
  case round =>
   obtain ⟨left,cn,cr,fm',HS⟩:=hrel
   have hm0:=HS.out.range.left_eq
   go_wp2_with (at_next;refine qCp rfl _ rfl okN HOK.out rfl HS.out.range ?_ ?_)
   case _ =>
    intro hdone
    have HDN:=Hh hdone
    clear hdone
    go_wp2
    go_ret
    obtain ⟨_,hcc,hb',_,hown,hcb,ht3,_,hmc⟩:=HC.out
    have e:=(HE4.out.mono (S':=fun y=>decide (y=.dirsMap)||decide (y=.free)) (fun _ _=>rfl)).trans HS.out.ext
    refine ⟨b',cr,rfl,HS.out.below,HS.out.old,hb',bt',bm',nd,fm',(e.kept hown hcb rfl).1,(e.kept hown hcb rfl).2,ht3.ext e rfl (fun x hx=>by cases x<;>first | rfl | (cases hx)),HS.out.mcol,HS.out.map.congr (fun k=>by rw [zN1 (HDN.out k)]),fun k e he=>?_,fun k e he=>HS.out.fcol k e he (HDN.out k),fun k e he=>HS.out.files k e he (HDN.out k)⟩
    exact NodeP.go HS.out.below.size (fun b hb hc=>⟨HS.out.below.block b hb,by rw [HS.out.old b hb];exact HRO.out b hc⟩) _ _ (H.out.node k e he)
   case _ =>
    intro x v w5 cnt' hlx hfx hrg5 hlt hgr5 hsz5 hen
    obtain ⟨e,he⟩:=qC6 (by rw [hfx];rfl)
    obtain ⟨k',d',e',ks,A,cap,hn,hnd,hnp⟩:=H.out.ent he
    have hv:v=.agg #[.string ⟨k'.toArray⟩,.string ⟨d'.toArray⟩,.bool e',.slice A ks.length cap,.map (some (fm x))]:=by
     unfold qA3 at hfx
     rw [he,hnd] at hfx
     exact (Option.some.inj hfx).symm
    subst hv
    have HLX:=Hh hlx
    have HR5:=Hh hrg5
    have HG5:=Hh hgr5
    have HLT:=Hh hlt
    have HEN:=Hh he
    have HND:=Hh hnd
    have HFX:=Hh hfx
    simp only [mkN] at hen
    clear hlx hrg5 hgr5 hlt hfx he hn hnd hnp
    go_upto_region 5 with fail
    have hw0:=HS.out.below.size
    have hsz0:=HS.out.ext.size
    have hfl:fm x<w.heap.size:=(H.out.files x e HEN.out).lt
    have hbl6:bm'<wr.heap.size:=HS.out.map.lt
    have hrlt:r<wr.heap.size:=HS.out.range.lt
    have hown6:=((HE4.out.mono (S':=fun y=>decide (y=.dirsMap)||decide (y=.free)) (fun _ _=>rfl)).trans HS.out.ext).kept HC.out.2.2.2.2.1 HC.out.2.2.2.2.2.1 rfl
    obtain ⟨es,clock,hes,htw⟩:=qLk (H.out.files x e HEN.out)
    have HTW:=Hh htw
    have HB5:=Hh (HS.out.below.grown HG5.out HS.out.below.size (fun k hk=>by injection hk with hk;omega))
    obtain ⟨W6,hW6⟩:∃ W6,W6=w5.alloc (.cells #[.string ⟨k'.toArray⟩,.string ⟨d'.toArray⟩,.bool e',.slice A ks.length cap,.map (some (fm x))] 138):=⟨_,rfl⟩
    have hb6:Below w5.heap.size w5 W6:=by rw [hW6];exact (zC _ w5).alloc (zr _) _
    have hs6:W6.heap.size=wr.heap.size+1:=by rw [hW6];simp;omega
    have HX6:=Hh (show W6.heap[wr.heap.size]?=some (.cells #[.string ⟨k'.toArray⟩,.string ⟨d'.toArray⟩,.bool e',.slice A ks.length cap,.map (some (fm x))] 138 (0,0)) from by rw [hW6,← hsz5];exact zL1 w5 _)
    have HES:=Hh (show W6.drew.heap[fm x]?=some (.map es clock) from (hb6.block _ (by omega)).trans ((HB5.out.block _ hfl).trans hes))
    obtain ⟨W7,hW7⟩:∃ W7,W7=(W6.alloc (.map es clock)).drew:=⟨_,rfl⟩
    have hb7:Below W6.heap.size W6 W7:=by rw [hW7];exact ((zC _ W6).alloc (zr _) _).drew
    have hs7:W7.heap.size=wr.heap.size+2:=by rw [hW7];simp;omega
    have HX7:=Hh (show W7.heap[wr.heap.size+1]?=some (.map es clock) from by rw [hW7,← hs6];exact zL1 W6 _)
    have HB57:=Hh (hb6.trans (hb7.mono hb6.size))
    have F7:Ext wr W7 cr (qAz (qAz cr wr.heap.size .free) (wr.heap.size+1) (.files x)) (S1 .free):=(((Ext.refl wr cr (S1 .free)).grown HG5.out (fun k hk _=>by injection hk with hk;subst hk;rw [HS.out.rcol];rfl)).trans (Ext.of_below HB57.out cr (S1 .free))).recolor (fun k hk _=>by rw [qAg hk (by omega),qAg hk (zr _)])
    obtain ⟨c7,hc7⟩:∃ c7,c7=qAz (qAz cr wr.heap.size .free) (wr.heap.size+1) (.files x):=⟨_,rfl⟩
    have hc7o:∀ k,k<wr.heap.size→c7 k=cr k:=fun k hk=>by rw [hc7,qAg hk (by omega),qAg hk (zr _)]
    have hc7n:c7 (wr.heap.size+1)=.files x:=by rw [hc7,qAl]
    rw [← hc7] at F7
    have HM7:=HS.out.map.ext F7 HS.out.mcol rfl
    obtain ⟨W8,hput,hmap,hturn⟩:=HM7.put okN Tryz.underlying95 (by have:=HD.out.ents;unfold maxLen;omega) (i:=x) (HOK.out x (by rw [HFX.out];rfl)) (.agg #[.string ⟨k'.toArray⟩,.string ⟨d'.toArray⟩,.bool e',.slice A ks.length cap,.map (some (wr.heap.size+1))])
    have HMP:=Hh hmap
    have HTN:=Hh hturn
    have hmc7:c7 bm'=.dirsMap:=by rw [hc7o bm' hbl6];exact HS.out.mcol
    have T8:=Ext.turned hturn hmc7
    have HT8:=Hh T8
    have HF7:=Hh F7
    have HO6:=Hh ((hb6.block _ (by rw [hsz5];exact qAa hown6.1)).trans (((HG5.out).block _ (qAa hown6.1) (fun h=>by
     injection h with h
     have h2:=HS.out.rcol
     rw [← h,hown6.2] at h2
     cases h2)).trans hown6.1))
    have HO7:=Hh (F7.kept hown6.1 hown6.2 rfl).1
    have HO8:=Hh (T8.kept (F7.kept hown6.1 hown6.2 rfl).1 (F7.kept hown6.1 hown6.2 rfl).2 rfl).1
    have HX67:=Hh ((hb7.block _ (by omega)).trans HX6.out)
    have HX68:=Hh (((hturn.grown.block _ (by omega) (fun h=>by injection h with h;omega))).trans HX67.out)
    simp only [mkN] at hput
    clear hes htw hb6 hb7 F7 HM7 hmap hturn T8 hown6 hmc7
    have c1:W6.cell? ⟨b',1,none⟩=some (.map (some bm')):=zK1 _ b' 1 _ _ _ HO6.out
    have q0:W6.cell? ⟨wr.heap.size,0,none⟩=some (.string ⟨k'.toArray⟩):=zK1 _ _ 0 _ _ _ HX6.out
    have q1:W6.cell? ⟨wr.heap.size,1,none⟩=some (.string ⟨d'.toArray⟩):=zK1 _ _ 1 _ _ _ HX6.out
    have q2:W6.cell? ⟨wr.heap.size,2,none⟩=some (.bool e'):=zK1 _ _ 2 _ _ _ HX6.out
    have q3:W6.cell? ⟨wr.heap.size,3,none⟩=some (.slice A ks.length cap):=zK1 _ _ 3 _ _ _ HX6.out
    have q4:W6.cell? ⟨wr.heap.size,4,none⟩=some (.map (some (fm x))):=zK1 _ _ 4 _ _ _ HX6.out
    have c1':W7.cell? ⟨b',1,none⟩=some (.map (some bm')):=zK1 _ b' 1 _ _ _ HO7.out
    have q0':W7.cell? ⟨wr.heap.size,0,none⟩=some (.string ⟨k'.toArray⟩):=zK1 _ _ 0 _ _ _ HX67.out
    have q1':W7.cell? ⟨wr.heap.size,1,none⟩=some (.string ⟨d'.toArray⟩):=zK1 _ _ 1 _ _ _ HX67.out
    have q2':W7.cell? ⟨wr.heap.size,2,none⟩=some (.bool e'):=zK1 _ _ 2 _ _ _ HX67.out
    have q3':W7.cell? ⟨wr.heap.size,3,none⟩=some (.slice A ks.length cap):=zK1 _ _ 3 _ _ _ HX67.out
    have q4':W7.cell? ⟨wr.heap.size,4,none⟩=some (.map (some (fm x))):=zK1 _ _ 4 _ _ _ HX67.out
    have c1'':W8.cell? ⟨b',1,none⟩=some (.map (some bm')):=zK1 _ b' 1 _ _ _ HO8.out
    have q0'':W8.cell? ⟨wr.heap.size,0,none⟩=some (.string ⟨k'.toArray⟩):=zK1 _ _ 0 _ _ _ HX68.out
    have q1'':W8.cell? ⟨wr.heap.size,1,none⟩=some (.string ⟨d'.toArray⟩):=zK1 _ _ 1 _ _ _ HX68.out
    have q2'':W8.cell? ⟨wr.heap.size,2,none⟩=some (.bool e'):=zK1 _ _ 2 _ _ _ HX68.out
    have q3'':W8.cell? ⟨wr.heap.size,3,none⟩=some (.slice A ks.length cap):=zK1 _ _ 3 _ _ _ HX68.out
    have q4'':W8.cell? ⟨wr.heap.size,4,none⟩=some (.map (some (fm x))):=zK1 _ _ 4 _ _ _ HX68.out
    rw [hW7] at hput c1' q0' q1' q2' q3' q4'
    have HW7:=Hh hW7
    rw [← hW6]
    clear hW6 hW7
    have HCL:=Hh (show Calls Tryz.prog 65 #[.map (some (fm x))] W6.drew fun e w'=>e=.returned (.map (some W6.drew.heap.size))∧w'=W6.drew.alloc (.map es clock) from AnyW.maps_Clone Tryz.mclone (fm x) es clock W6.drew HES.out)
    go_region_held3 (fun w'=>w'.cell? ⟨b',1,none⟩=some (.map (some bm'))∧w'.cell? ⟨wr.heap.size,0,none⟩=some (.string ⟨k'.toArray⟩)∧w'.cell? ⟨wr.heap.size,1,none⟩=some (.string ⟨d'.toArray⟩)∧w'.cell? ⟨wr.heap.size,2,none⟩=some (.bool e')∧w'.cell? ⟨wr.heap.size,3,none⟩=some (.slice A ks.length cap)∧w'.cell? ⟨wr.heap.size,4,none⟩=some (.map (some (fm x))))
     (first
      | exact ⟨c1,q0,q1,q2,q3,q4⟩
      | exact ⟨c1',q0',q1',q2',q3',q4'⟩
      | exact ⟨c1'',q0'',q1'',q2'',q3'',q4''⟩
      | go_keep)
     (first
      | (go_at_call 65;refine HCL.out.mono ?_;rintro ev w7 ⟨rfl,rfl⟩)
      | fail)
    have HHC:=Hh hc7o
    have HHN:=Hh hc7n
    clear hput c1 c1' c1'' q0 q1 q2 q3 q4 q0' q1' q2' q3' q4' q0'' q1'' q2'' q3'' q4'' hen hc7
    go_wp2
    have hR8:RangeAt Tryz.prog 3 qKq W8 bm r d.l.length (qA3 d.l nd fm) (fun y=>left y&&!decide (y=x)) cnt' :=
     HR5.out.of_blocks ((HTN.out.grown.block bm (by omega) (fun h=>by injection h with h;omega)).trans (HB57.out.block bm (by omega))) ((HTN.out.grown.block r (by omega) (fun h=>by injection h with h;omega)).trans (HB57.out.block r (by omega)))
    refine ⟨⟨fun y=>left y&&!decide (y=x),cnt',c7,fun k=>if k=x then wr.heap.size+1 else fm' k,Hh ⟨?_,?_,hR8,?_,?_,?_,?_,?_,?_⟩⟩,?_⟩
    ·exact (HB5.out.trans (HB57.out.mono HB5.out.size)).grown HTN.out.grown (by omega) (fun k hk=>by injection hk with hk;omega)
    ·exact (HS.out.ext.then HF7.out (qAF (by simp))).then HT8.out (qAF (by simp))
    ·have h1:=(HMP.out.congr (g:=fun k=>if (left k&&!decide (k=x))=false then qA3 d.l nd (fun k=>if k=x then wr.heap.size+1 else fm' k) k else none) (fun k=>by
      by_cases hk:k=x
      ·subst hk
       simp only [decide_true,Bool.not_true,Bool.and_false,if_true]
       unfold qA3
       rw [HEN.out,HND.out]
       simp
      ·have e1:(left k&&!decide (k=x))=left k:=by simp [hk]
       have e2:qA3 d.l nd (fun k=>if k=x then wr.heap.size+1 else fm' k) k=qA3 d.l nd fm' k:=by unfold qA3;simp [hk]
       rw [e1,e2,zM1 hk])).tight okN.keyed (d.l.map (·.k)) (fun k hk=>by
       by_cases hl:(left k&&!decide (k=x))=false
       ·rw [zN1 hl] at hk
        obtain ⟨y,hy⟩:=qC6 hk
        exact zf.2 ⟨y,(qA1 hy).1,(qA1 hy).2⟩
       ·rw [zM1 hl] at hk;cases hk)
     simpa using h1
    ·intro k y hy hl
     by_cases hk:k=x
     ·subst hk
      simp only [if_true]
      exact HHN.out
     ·simp only [zM1 hk]
      have hlk:left k=false:=by simpa [hk] using hl
      rw [HHC.out _ (HS.out.files k y hy hlk).lt]
      exact HS.out.fcol k y hy hlk
    ·intro k y hy hl
     by_cases hk:k=x
     ·subst hk
      have:e=y:=by have:=HEN.out.symm.trans hy;injection this
      subst this
      simp only [if_true]
      exact HTW.out W8 _ (HT8.out.kept HX7.out HHN.out rfl).1
     ·simp only [zM1 hk]
      have hlk:left k=false:=by simpa [hk] using hl
      have h7:c7 (fm' k)=.files k:=by rw [HHC.out _ (HS.out.files k y hy hlk).lt];exact HS.out.fcol k y hy hlk
      exact ((HS.out.files k y hy hlk).ext HF7.out (HS.out.fcol k y hy hlk) rfl).ext HT8.out h7 rfl
    ·rw [HHC.out _ hbl6];exact HS.out.mcol
    ·rw [HHC.out _ hrlt];exact HS.out.rcol
    ·intro k hk
     rw [HHC.out k (by omega)]
     exact HS.out.old k hk
    ·rw [hR8.left_eq,hm0];exact HLT.out
end
theorem qD3:qCq 104 (.agg #[.string ⟨#[]⟩,.slice none 0 0,.int .i64 0]) 3 48:=qCB (by kernel_rfl) rfl (by decide)
theorem qIf (x:PkX):∀ v∈qA4 x,v.oneCell'=true:=by
 intro v hv
 simp only [qA4,za,List.not_mem_nil,or_false] at hv
 rcases hv with rfl | rfl | rfl<;>rfl
theorem qLL (a:Addr) (cap:Nat) (w:World) :
  Calls Tryz.prog 39 #[.slice (some a) 0 cap] w fun ev w'=>∃ A' cap',ev=.returned (.slice A' 0 cap')∧w'.ownsRow w.heap.size 104 3 (.slice A' 0 cap') 0 []∧Below w.heap.size w w':=by
 obtain ⟨i,hi,hz0,hz1,hz2⟩:=qD3.info
 have t43:Tryz.prog.underlying 62=some (.slice 104):=by kernel_rfl
 have q43:∀ (w:World) (a:Option Addr) (n c:Nat),(binOp .eql 62 (.slice a n c) (.slice none 0 0)).run Tryz.prog w=.ok (.bool a.isNone) w:=fun w a n c=>Lib.run_eql_slice_nil w _ _ a n c 0 0 t43
 have u43:∀ w,Sem.run Tryz.prog (underlying 62) w=.ok (TypeDesc.slice 104) w:=run_underlying t43
 go_enter Tryz.func39,Tryz.ntmps39
 go_wp2_with (at_builtin;refine wpList_append_own _ rfl _ _ 62 rfl w.heap.size 104 i _ 3 48 t43 hi hz0 hz1 hz2 rfl (by decide) _ _ _ rfl (World.ownsRow_made w #[] 0 (zr _) (zy _) rfl) a 0 cap [] rfl rfl (by intro r u hj;simp at hj) (by intro u hu;cases hu) (by unfold maxLen;omega) (by omega) (by simp) ?_)
 intro v' w1 hown hgrow hnil
 obtain ⟨A',cap',rfl⟩:=Stl.owns_slice _ hown
 go_wp2
 go_ret
 refine ⟨A',cap',rfl,by simpa using hown,?_⟩
 exact ((zC _ w).alloc (zr _) _).grown hgrow (by simp) (by intro k hk;simp [Value.ownBlock] at hk;omega)
theorem qMl {w:World} {A:Option Addr} (cap:Nat) {zs:List PkX} (h:KeptAt w A zs) (hz:zs.length≤1000000) :
  Calls Tryz.prog 39 #[.slice A zs.length cap] w fun ev w'=>∃ A' c',ev=.returned (.slice A' zs.length c')∧w'.ownsRow w.heap.size 104 3 (.slice A' zs.length c') zs.length (zs.flatMap qA4)∧Below w.heap.size w w':=by
 obtain ⟨i,hi,hz0,hz1,hz2⟩:=qD3.info
 by_cases hn:zs=[]
 ·subst hn
  cases A with
  | none =>
   refine (AnyE.slices_Clone_nil Tryz.cloneK 0 cap w).mono ?_
   rintro ev w' ⟨rfl,rfl⟩
   exact ⟨none,0,rfl,zG1 _ _ _ _,zC _ _⟩
  | some ad=>exact qLL ad cap w
 ·obtain ⟨b,rfl,hb,hc⟩:=h hn
  refine (AnyE.slices_Clone Tryz.cloneK i _ 3 48 hi hz0 hz1 hz2 rfl (by decide) (qCA qD3) b 0 zs.length cap (zs.flatMap qA4) w (qBq zs) (by unfold maxLen;omega) (by omega) (fun j u hu=>by rw [zx];exact hc j u hu) (fun u hu=>by obtain ⟨x,_,hx⟩:=ze.1 hu;exact qIf x u hx)).mono ?_
  rintro ev w' ⟨v',rfl,h5,_,h6⟩
  obtain ⟨A',cap',rfl⟩:=Stl.owns_slice _ h5
  exact ⟨A',cap',rfl,h5,h6⟩
def qLC (w:World) (k0:Nat→Col) (s:Sto) (tp:Nat) (e:Ending) (w':World):Prop:=∃ b2 c2,e=.returned (.pointer (some ⟨b2,0,none⟩))∧Below w.heap.size w w'∧(∀ k,k<w.heap.size→c2 k=k0 k)∧w.heap.size≤b2∧StoAt w' c2 b2 s tp
section
variable {w:World} {A:Option Addr} {zs:List PkX} {c:Nat→Col} {b:Nat} {s:Sto} {bd:Nat} {cap:Nat} {R:Option Addr} {rc tp:Nat}
theorem qLW (k0:Nat→Col) (hro:∀ k,c k=.ro→k0 k=.ro) (h:StoX w c b s bd A cap zs R rc tp) (hd:DirsGood s.d) (hz:zs.length≤1000000) (hrl:s.roots.length≤1000000) :
  Calls Tryz.prog 19 #[.pointer (some ⟨b,0,none⟩)] w (qLC w k0 s tp):=by
 have H:=Hh h
 have HD:=Hh hd
 have c0:=zK1 w b 0 _ _ _ h.own
 have c1:=zK1 w b 1 _ _ _ h.own
 have c2:=zK1 w b 2 _ _ _ h.own
 have c3:=zK1 w b 3 _ _ _ h.own
 have hbl:=qAa h.own
 have hx:Ext w w c (fun k=>if k<w.heap.size then c k else .free) S0:=(Ext.refl w c S0).recolor (fun k hk _=>zN1 hk)
 have hro2:∀ k,(if k<w.heap.size then c k else Col.free)=.ro→(if k<w.heap.size then k0 k else Col.sto)=.ro:=fun k hk=>by
  by_cases h1:k<w.heap.size
  ·rw [zN1 h1] at hk ⊢
   exact hro k hk
  ·rw [zM1 h1] at hk
   cases hk
 have hD0:=(zC w.heap.size w).drew
 have HCP:=Hh (show Calls Tryz.prog 38 #[.pointer (some ⟨bd,0,none⟩)] w.drew _ from qIB (fun k=>if k<w.heap.size then k0 k else Col.sto) hro2 ((h.dirs.ext hx rfl (fun _ _=>rfl)).below hD0) hd)
 have HK:=Hh h.kept
 have HR:=Hh (qBG h.roots.1)
 have HRO:=Hh hro
 have HD0:=Hh hD0
 clear h hd hx hro2 hro hD0
 go_enter Tryz.func19,Tryz.ntmps19
 go_upto_region 1 with fail
 go_region_held3 (fun w'=>w'.cell? ⟨b,0,none⟩=some (.pointer (some ⟨bd,0,none⟩))∧w'.cell? ⟨b,1,none⟩=some (.slice A zs.length cap)∧w'.cell? ⟨b,2,none⟩=some (.slice R s.roots.length rc)∧w'.cell? ⟨b,3,none⟩=some (.pointer (some ⟨tp,0,none⟩)))
  (first
   | exact ⟨c0,c1,c2,c3⟩
   | exact HS2.out
   | exact HS3.out
   | exact HS4.out
   | go_keep)
  (first
   | (go_at_call 38;refine HCP.out.mono ?_;rintro ev w2 ⟨b2,k2,rfl,hb2,hk2,hl2,hd2⟩;have HB2:=Hh (HD0.out.trans (hb2.mono (zr _)));have HK2:=Hh hk2;have HL2:=Hh hl2;have HD2:=Hh hd2;have HS2:=Hh (show w2.cell? ⟨b,0,none⟩=some (.pointer (some ⟨bd,0,none⟩))∧w2.cell? ⟨b,1,none⟩=some (.slice A zs.length cap)∧w2.cell? ⟨b,2,none⟩=some (.slice R s.roots.length rc)∧w2.cell? ⟨b,3,none⟩=some (.pointer (some ⟨tp,0,none⟩)) from ⟨(HB2.out.cell hbl).trans c0,(HB2.out.cell hbl).trans c1,(HB2.out.cell hbl).trans c2,(HB2.out.cell hbl).trans c3⟩);clear hb2 hk2 hl2 hd2)
   | (go_at_call 39;refine (qMl cap (HK.out.later HB2.out) hz).mono ?_;rintro ev w3 ⟨A3,cap3,rfl,hr3,hb3⟩;have HB23:=Hh hb3;have HR3:=Hh hr3;have HB3:=Hh (HB2.out.trans (hb3.mono HB2.out.size));have HS3:=Hh (show w3.cell? ⟨b,0,none⟩=some (.pointer (some ⟨bd,0,none⟩))∧w3.cell? ⟨b,1,none⟩=some (.slice A zs.length cap)∧w3.cell? ⟨b,2,none⟩=some (.slice R s.roots.length rc)∧w3.cell? ⟨b,3,none⟩=some (.pointer (some ⟨tp,0,none⟩)) from ⟨(HB3.out.cell hbl).trans c0,(HB3.out.cell hbl).trans c1,(HB3.out.cell hbl).trans c2,(HB3.out.cell hbl).trans c3⟩);clear hb3 hr3)
   | (go_at_call 31;refine (qEc (HR.out.later HB3.out) hrl).mono ?_;rintro ev w4 ⟨A4,cap4,rfl,hr4,hb4⟩;have HB34:=Hh hb4;have HR4:=Hh hr4;have HB4:=Hh (HB3.out.trans (hb4.mono HB3.out.size));have HS4:=Hh (show w4.cell? ⟨b,0,none⟩=some (.pointer (some ⟨bd,0,none⟩))∧w4.cell? ⟨b,1,none⟩=some (.slice A zs.length cap)∧w4.cell? ⟨b,2,none⟩=some (.slice R s.roots.length rc)∧w4.cell? ⟨b,3,none⟩=some (.pointer (some ⟨tp,0,none⟩)) from ⟨(HB4.out.cell hbl).trans c0,(HB4.out.cell hbl).trans c1,(HB4.out.cell hbl).trans c2,(HB4.out.cell hbl).trans c3⟩);clear hb4 hr4)
   | fail)
 clear c0 c1 c2 c3
 go_wp2
 go_ret
 have s2:=HB2.out.size
 have s3:=HB23.out.size
 have s4:=HB34.out.size
 have hb5:=HB34.out.alloc HB34.out.size (.cells #[.pointer (some ⟨b2,0,none⟩),.slice A3 zs.length cap3,.slice A4 s.roots.length cap4,.pointer (some ⟨tp,0,none⟩)] 64)
 have hb45:Below w4.heap.size w4 (w4.alloc (.cells #[.pointer (some ⟨b2,0,none⟩),.slice A3 zs.length cap3,.slice A4 s.roots.length cap4,.pointer (some ⟨tp,0,none⟩)] 64)):=(zC _ w4).alloc (zr _) _
 have hx5:=zL1 w4 (.cells #[.pointer (some ⟨b2,0,none⟩),.slice A3 zs.length cap3,.slice A4 s.roots.length cap4,.pointer (some ⟨tp,0,none⟩)] 64)
 have hbw:Below w.heap.size w (w4.alloc (.cells #[.pointer (some ⟨b2,0,none⟩),.slice A3 zs.length cap3,.slice A4 s.roots.length cap4,.pointer (some ⟨tp,0,none⟩)] 64)):=HB4.out.alloc HB4.out.size _
 have hsz:(w4.alloc (.cells #[.pointer (some ⟨b2,0,none⟩),.slice A3 zs.length cap3,.slice A4 s.roots.length cap4,.pointer (some ⟨tp,0,none⟩)] 64)).heap.size=w4.heap.size+1:=by simp
 generalize w4.alloc (.cells #[.pointer (some ⟨b2,0,none⟩),.slice A3 zs.length cap3,.slice A4 s.roots.length cap4,.pointer (some ⟨tp,0,none⟩)] 64)=w5 at *
 obtain ⟨k5,hk5⟩:∃ k5:Nat→Col,k5=fun k=>if k<w2.heap.size then k2 k else if k<w3.heap.size then .stoL else if k<w4.heap.size then .roots else .sto:=⟨_,rfl⟩
 have e25:Ext w2 w5 k2 k5 S0:=(Ext.of_below ((HB23.out.trans (hb5.mono s3))) k2 S0).recolor fun k hk _=>by rw [hk5];exact zN1 hk
 have HX5:=hx5
 refine ⟨w4.heap.size,k5,rfl,hbw,fun k hk=>?_,by omega,StoX.shut (bd:=b2) (A:=A3) (cap:=cap3) (zs:=zs) (R:=A4) (rc:=cap4) ⟨HX5,?_,HD2.out.ext e25 rfl (fun _ _=>rfl),?_,H.out.eq,fun x hx=>⟨(H.out.ro x hx).1,?_⟩,?_⟩⟩
 ·rw [hk5]
  show (if k<w2.heap.size then k2 k else _)=_
  rw [zN1 (by omega),HK2.out k (by simpa using hk)]
  exact zN1 hk
 ·rw [hk5]
  show (if w4.heap.size<w2.heap.size then _ else if w4.heap.size<w3.heap.size then Col.stoL else if w4.heap.size<w4.heap.size then Col.roots else Col.sto)=_
  rw [zM1 (by omega),zM1 (by omega),zM1 (by omega)]
 ·refine RowAt.of_owns (base:=0) ((HR3.out.mono (zy _)).kept (Below.toGrown hb5 none) (by cases Value.ownBlock (Value.slice A3 zs.length cap3)<;>simp)) fun k hk=>?_
  obtain ⟨l1,l2⟩:=HR3.out.lt k hk
  rw [hk5]
  show (if k<w2.heap.size then _ else if k<w3.heap.size then Col.stoL else _)=_
  rw [zM1 (by omega),zN1 l2]
 ·intro hn
  obtain ⟨g,off,h1,h2,h3,h4⟩:=(H.out.ro x hx).2 hn
  refine ⟨g,off,h1,by omega,?_,fun j u hu=>?_⟩
  ·rw [hk5]
   show (if g<w2.heap.size then k2 g else _)=_
   rw [zN1 (by omega),HK2.out g (by simpa using h2)]
   show (if g<w.heap.size then k0 g else _)=_
   rw [zN1 h2]
   exact HRO.out g h3
  ·exact (hbw.cell (p:=⟨g,off+j,none⟩) h2).trans (h4 j u hu)
 ·refine RowAt.of_owns (base:=0) ((HR4.out.mono (zy _)).kept (Below.toGrown hb45 none) (by cases Value.ownBlock (Value.slice A4 s.roots.length cap4)<;>simp)) fun k hk=>?_
  obtain ⟨l1,l2⟩:=HR4.out.lt k hk
  rw [hk5]
  show (if k<w2.heap.size then _ else if k<w3.heap.size then Col.stoL else if k<w4.heap.size then Col.roots else _)=_
  rw [zM1 (by omega),zM1 (by omega),zN1 l2]
end
end Go.Proofs.YthogfjmnnaoldaaGreatDoor
