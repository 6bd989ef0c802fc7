/- Texts of this claim, merged: StoTree, OptKey, OptPure, All, Scan. -/
import Derived.DeepKeys4
import Derived.Maps.Own
import Derived.Shelf.AbstractIn
import Derived.Test.YthogfjmnnaoldaaGreatDoorGm25
set_option maxHeartbeats 16000000
set_option maxRecDepth 1000000
set_option linter.all false
namespace Go.Proofs.YthogfjmnnaoldaaGreatDoor
open Go.RowKit Go.Sort Go.Shelf Stl
def qOR (p:Nat→Addr) (w:World) (c:Nat→Col) (r:Except Nat Nd) (ev:Ending) (w':World):Prop:=Below w.heap.size w w'∧qEd p (fun b=>c b=.ro) w r ev w'
theorem qP1 {d:Stl.Dirs} (h:DirsGood d) {k:Nat} {e:Ent} (he:qAh d.l k=some e):k≤1000000:=by
 obtain ⟨h1,h2⟩:=qA1 he
 have:=h.ok.next e h1
 have:=h.next
 omega
section
variable {w:World} {A:Option Addr} {zs:List PkX} {c:Nat→Col} {b:Nat} {s:Sto} {bd:Nat} {cap:Nat} {R:Option Addr} {rc tp:Nat} {p:Nat→Addr}
theorem qKn (h:StoX w c b s bd A cap zs R rc tp) (hg:qAX s) (hE:Env w c p) (name:List UInt8) :
  Calls Tryz.prog 25 #[.pointer (some ⟨b,0,none⟩),.string ⟨name.toArray⟩] w (qOR p w c (s.tree name)):=by
 have hfew:=h.few hg.ok
 have H:=Hh h
 have HG:=Hh hg
 have HE:=Hh hE
 obtain ⟨res,hres⟩:∃ res,res=s.tree name:=⟨_,rfl⟩
 rw [← hres]
 unfold Sto.tree at hres
 have hb1:Below w.heap.size w (w.alloc (.cells #[.string ⟨#[]⟩,.string ⟨#[]⟩,.bool false,.slice none 0 0] 45)):=(zC _ w).alloc (zr _) _
 have HB1:=Hh hb1
 have HBX:=Hh (zL1 w (.cells #[.string ⟨#[]⟩,.string ⟨#[]⟩,.bool false,.slice none 0 0] 45))
 have HFD:=Hh (qC4 (h.below hb1) (by omega) name)
 clear h hg hE hb1
 go_enter Tryz.func25,Tryz.ntmps25
 cases hf:s.find name with
 | none =>
  rw [hf] at hres
  have HRS:=Hh (show res=.error 6 from hres)
  have HF:=Hh hf
  clear hf hres
  go_upto_region 3 with (go_at_call 55;refine HFD.out.mono ?_;rintro ev w2 ⟨⟨i,rfl,hi⟩,hb2⟩;have hneg:=(hi.none_ H.out.eq).1 HF.out;have hbx2:=(hb2.block _ (qAa HBX.out)).trans HBX.out;have HB2:=Hh (HB1.out.trans (hb2.mono HB1.out.size));have HBX2:=Hh hbx2;clear hb2 hi hbx2)
  have hg2:=((HE.out.errs.later HB2.out).cell 6 (by omega) (by omega))
  have HGL:=Hh (lt_of_cell (HE.out.errs.cell 6 (by omega) (by omega)))
  have HE6:=Hh (qAc p (c:=6) (by omega))
  rw [HE6.out] at hg2
  have hgne:w.heap.size≠4:=by have:=HGL.out;simp [qCz] at this;omega
  have hgne':4≠w.heap.size:=hgne.symm
  have hg3:w2.cell? ⟨4,0,none⟩=some (.iface 371 (.pointer (some (p 6)))):=hg2
  have z0:w2.cell? ⟨w.heap.size,0,none⟩=some (.string ⟨#[]⟩):=zK1 w2 _ 0 _ _ _ HBX2.out
  have z1:w2.cell? ⟨w.heap.size,1,none⟩=some (.string ⟨#[]⟩):=zK1 w2 _ 1 _ _ _ HBX2.out
  have z2:w2.cell? ⟨w.heap.size,2,none⟩=some (.bool false):=zK1 w2 _ 2 _ _ _ HBX2.out
  have z3:w2.cell? ⟨w.heap.size,3,none⟩=some (.slice none 0 0):=zK1 w2 _ 3 _ _ _ HBX2.out
  have f0:w2.frozen? ⟨w.heap.size,0,none⟩=false:=qAb HBX2.out 0
  have f1:w2.frozen? ⟨w.heap.size,1,none⟩=false:=qAb HBX2.out 1
  have f2:w2.frozen? ⟨w.heap.size,2,none⟩=false:=qAb HBX2.out 2
  have f3:w2.frozen? ⟨w.heap.size,3,none⟩=false:=qAb HBX2.out 3
  clear hg2
  go_region
  have HF:=Hh (show ((((w2.setCell ⟨w.heap.size,0,none⟩ (.string ⟨#[]⟩)).setCell ⟨w.heap.size,1,none⟩ (.string ⟨#[]⟩)).setCell ⟨w.heap.size,2,none⟩ (.bool false)).setCell ⟨w.heap.size,3,none⟩ (.slice none 0 0)).drew.heap[w.heap.size]?=some (.cells #[.string ⟨#[]⟩,.string ⟨#[]⟩,.bool false,.slice none 0 0] 45 (0,0)) from qAd (qAd (qAd (qAd HBX2.out 0 (.string ⟨#[]⟩)) 1 (.string ⟨#[]⟩)) 2 (.bool false)) 3 (.slice none 0 0))
  have HBF:=Hh (((((HB2.out.setCell (p:=⟨w.heap.size,0,none⟩) (zr _) (.string ⟨#[]⟩)).setCell (p:=⟨w.heap.size,1,none⟩) (zr _) (.string ⟨#[]⟩)).setCell (p:=⟨w.heap.size,2,none⟩) (zr _) (.bool false)).setCell (p:=⟨w.heap.size,3,none⟩) (zr _) (.slice none 0 0)).drew)
  clear z0 z1 z2 z3 f0 f1 f2 f3 hgne hgne' hg3
  go_wp2_with fail
  generalize ((((w2.setCell ⟨w.heap.size,0,none⟩ (.string ⟨#[]⟩)).setCell ⟨w.heap.size,1,none⟩ (.string ⟨#[]⟩)).setCell ⟨w.heap.size,2,none⟩ (.bool false)).setCell ⟨w.heap.size,3,none⟩ (.slice none 0 0)).drew=w9 at *
  have r0:w9.cell? ⟨w.heap.size,0,none⟩=some (.string ⟨#[]⟩):=zK1 w9 _ 0 _ _ _ HF.out
  have r1:w9.cell? ⟨w.heap.size,1,none⟩=some (.string ⟨#[]⟩):=zK1 w9 _ 1 _ _ _ HF.out
  have r2:w9.cell? ⟨w.heap.size,2,none⟩=some (.bool false):=zK1 w9 _ 2 _ _ _ HF.out
  have r3:w9.cell? ⟨w.heap.size,3,none⟩=some (.slice none 0 0):=zK1 w9 _ 3 _ _ _ HF.out
  refine zI1 (v:=.tuple #[.agg #[.string ⟨#[]⟩,.string ⟨#[]⟩,.bool false,.slice none 0 0],.iface 371 (.pointer (some (p 6)))]) ?_ rfl ⟨HBF.out,?_⟩
  ·simp [results,Tryz.results25,go_sem,r0,r1,r2,r3]
  ·rw [HRS.out]
   exact ⟨_,_,_,_,_,_,_,rfl,HE6.out.symm,by decide⟩
 | some pk =>
  rw [hf] at hres
  have HRS:=Hh (show res=s.d.get pk.k from hres)
  have HF:=Hh hf
  have hpm:∃ e,qAh s.d.l pk.k=some e:=by
   have h1:pk∈s.l:=(qBZ hf).1
   have h2:pk.k∈s.d.l.map (·.k):=by rw [← HG.out.ok.ks];exact zf.2 ⟨pk,h1,rfl⟩
   obtain ⟨e,he,hk⟩:=zf.1 h2
   exact ⟨e,hk▸qAs HG.out.ok.dirs.keys he⟩
  obtain ⟨e,he⟩:=hpm
  have HKB:=Hh (qP1 HG.out.good he)
  have HEN:=Hh he
  clear hf hres he
  go_upto_region 4 with (go_at_call 55;refine HFD.out.mono ?_;rintro ev w2 ⟨⟨i,rfl,hi⟩,hb2⟩;obtain ⟨ki,hki,rfl,hpk⟩:=hi.some_ H.out.eq HG.out.ok.pks.names HF.out;have HPK:=Hh hpk;have hbx2:=(hb2.block _ (qAa HBX.out)).trans HBX.out;have HB2:=Hh (HB1.out.trans (hb2.mono HB1.out.size));have HBX2:=Hh hbx2;clear hb2 hi hbx2 hpk)
  obtain ⟨c',hc'⟩:∃ c':Nat→Col,c'=fun k=>if k<w.heap.size then c k else .free:=⟨_,rfl⟩
  have HCO:=Hh (show ∀ k,c' k=.ro→c k=.ro∧k<w.heap.size from fun k hk=>by
   rw [hc'] at hk
   have hk:(if k<w.heap.size then c k else Col.free)=.ro:=hk
   by_cases hl:k<w.heap.size
   ·rw [zN1 hl] at hk;exact ⟨hk,hl⟩
   ·rw [zM1 hl] at hk;cases hk)
  have HX2:=Hh (H.out.ext (show Ext w w2 c c' S0 from (Ext.of_below HB2.out c S0).recolor fun k hk _=>by rw [hc'];exact zN1 hk) rfl (fun _ _=>rfl))
  clear hc'
  obtain ⟨g,hA,hgl,s0,s1,s2⟩:=HX2.out.kept.at hki
  subst hA
  rw [HPK.out] at s2
  clear s0 s1
  have c0:w2.cell? ⟨b,0,none⟩=some (.pointer (some ⟨bd,0,none⟩)):=zK1 w2 b 0 _ _ _ HX2.out.own
  have c1:w2.cell? ⟨b,1,none⟩=some (.slice (some ⟨g,0,none⟩) zs.length cap):=zK1 w2 b 1 _ _ _ HX2.out.own
  have k1:(ki:Int)<(zs.length:Int):=by omega
  have k2:(0:Int)≤(ki:Int):=by omega
  have HGT:=Hh (fun (W:World) (hb:Below w2.heap.size w2 W)=>qQH (p:=p) (HX2.out.below hb).dirs HG.out.good pk.k HKB.out (HE.out.errs.later (HB2.out.trans (hb.mono HB2.out.size))) HEN.out)
  have HDR:=Hh (zC w2.heap.size w2).drew
  have hlx2:=qAa HBX2.out
  generalize pk.k=kq at *
  go_region_law
   (first
    | (go_simp;go_at_call 56;refine (HGT.out _ (zC _ _)).mono ?_;rintro ev w3 ⟨hb3,a0,a1,a2,A5,m5,cp5,er,rfl,hpost⟩;have HPO:=Hh hpost;have HB3:=Hh hb3;have hbx3:=(hb3.block _ hlx2).trans HBX2.out;have HBX3:=Hh hbx3;have z0:w3.cell? ⟨w.heap.size,0,none⟩=some (.string ⟨#[]⟩):=zK1 w3 _ 0 _ _ _ hbx3;have z1:w3.cell? ⟨w.heap.size,1,none⟩=some (.string ⟨#[]⟩):=zK1 w3 _ 1 _ _ _ hbx3;have z2:w3.cell? ⟨w.heap.size,2,none⟩=some (.bool false):=zK1 w3 _ 2 _ _ _ hbx3;have z3:w3.cell? ⟨w.heap.size,3,none⟩=some (.slice none 0 0):=zK1 w3 _ 3 _ _ _ hbx3;have f0:w3.frozen? ⟨w.heap.size,0,none⟩=false:=qAb hbx3 0;have f1:w3.frozen? ⟨w.heap.size,1,none⟩=false:=qAb hbx3 1;have f2:w3.frozen? ⟨w.heap.size,2,none⟩=false:=qAb hbx3 2;have f3:w3.frozen? ⟨w.heap.size,3,none⟩=false:=qAb hbx3 3;clear hpost hb3 hbx3)
    | (go_simp;go_at_call 56;refine (HGT.out _ HDR.out).mono ?_;rintro ev w3 ⟨hb3',a0,a1,a2,A5,m5,cp5,er,rfl,hpost⟩;have hb3:Below w2.heap.size w2 w3:=HDR.out.trans hb3';clear hb3';have HPO:=Hh hpost;have HB3:=Hh hb3;have hbx3:=(hb3.block _ hlx2).trans HBX2.out;have HBX3:=Hh hbx3;have z0:w3.cell? ⟨w.heap.size,0,none⟩=some (.string ⟨#[]⟩):=zK1 w3 _ 0 _ _ _ hbx3;have z1:w3.cell? ⟨w.heap.size,1,none⟩=some (.string ⟨#[]⟩):=zK1 w3 _ 1 _ _ _ hbx3;have z2:w3.cell? ⟨w.heap.size,2,none⟩=some (.bool false):=zK1 w3 _ 2 _ _ _ hbx3;have z3:w3.cell? ⟨w.heap.size,3,none⟩=some (.slice none 0 0):=zK1 w3 _ 3 _ _ _ hbx3;have f0:w3.frozen? ⟨w.heap.size,0,none⟩=false:=qAb hbx3 0;have f1:w3.frozen? ⟨w.heap.size,1,none⟩=false:=qAb hbx3 1;have f2:w3.frozen? ⟨w.heap.size,2,none⟩=false:=qAb hbx3 2;have f3:w3.frozen? ⟨w.heap.size,3,none⟩=false:=qAb hbx3 3;clear hpost hb3 hbx3)
    | fail)
  all_goals
   have hpo:=HPO.out
   have HBW:=Hh (HB2.out.trans (HB3.out.mono HB2.out.size))
   have HF:=Hh (show ((((w3.setCell ⟨w.heap.size,0,none⟩ (.string a0)).setCell ⟨w.heap.size,1,none⟩ (.string a1)).setCell ⟨w.heap.size,2,none⟩ (.bool a2)).setCell ⟨w.heap.size,3,none⟩ (.slice A5 m5 cp5)).heap[w.heap.size]?=some (.cells #[(.string a0),(.string a1),(.bool a2),(.slice A5 m5 cp5)] 45 (0,0)) from qAd (qAd (qAd (qAd HBX3.out 0 (.string a0)) 1 (.string a1)) 2 (.bool a2)) 3 (.slice A5 m5 cp5))
   have HBF:=Hh ((((HBW.out.setCell (p:=⟨w.heap.size,0,none⟩) (zr _) (.string a0)).setCell (p:=⟨w.heap.size,1,none⟩) (zr _) (.string a1)).setCell (p:=⟨w.heap.size,2,none⟩) (zr _) (.bool a2)).setCell (p:=⟨w.heap.size,3,none⟩) (zr _) (.slice A5 m5 cp5))
   have HFP:=Hh (show (match s.d.get kq with
    | .ok y=>er=.nilIface∧NodeP (fun b=>c b=.ro∨w.heap.size≤b) ((((w3.setCell ⟨w.heap.size,0,none⟩ (.string a0)).setCell ⟨w.heap.size,1,none⟩ (.string a1)).setCell ⟨w.heap.size,2,none⟩ (.bool a2)).setCell ⟨w.heap.size,3,none⟩ (.slice A5 m5 cp5)) y [.string a0,.string a1,.bool a2,.slice A5 m5 cp5]
    | .error cd=>er=qAN p cd∧cd≠0) from by
    revert hpo
    cases s.d.get kq with
    | error cd=>exact fun h=>h
    | ok y =>
     rintro ⟨h1,h2⟩
     refine ⟨h1,?_⟩
     have h3:=NodeP.go (zr w3.heap.size) (fun k hk hp=>⟨rfl,(show (c k=.ro∨w.heap.size≤k)∧k≠w.heap.size from by
      rcases hp with hp | hp
      ·have h4:=HCO.out k hp
       exact ⟨.inl h4.1,by omega⟩
      ·have h4:w2.heap.size≤k:=hp
       exact ⟨.inr (by omega),by omega⟩)⟩) _ _ h2
     exact NodeP.go (zr _) (fun k _ hp=>⟨rfl,hp.1⟩) _ _ (NodeP.set4 h3 (fun k hk=>hk.2)))
   clear z0 z1 z2 z3 f0 f1 f2 f3 hpo HPO c0 c1 s2
   go_wp2_with fail
   generalize ((((w3.setCell ⟨w.heap.size,0,none⟩ (.string a0)).setCell ⟨w.heap.size,1,none⟩ (.string a1)).setCell ⟨w.heap.size,2,none⟩ (.bool a2)).setCell ⟨w.heap.size,3,none⟩ (.slice A5 m5 cp5))=wz at *
   have r0:wz.cell? ⟨w.heap.size,0,none⟩=some (.string a0):=zK1 wz _ 0 _ _ _ HF.out
   have r1:wz.cell? ⟨w.heap.size,1,none⟩=some (.string a1):=zK1 wz _ 1 _ _ _ HF.out
   have r2:wz.cell? ⟨w.heap.size,2,none⟩=some (.bool a2):=zK1 wz _ 2 _ _ _ HF.out
   have r3:wz.cell? ⟨w.heap.size,3,none⟩=some (.slice A5 m5 cp5):=zK1 wz _ 3 _ _ _ HF.out
   refine zI1 (v:=.tuple #[.agg #[(.string a0),(.string a1),(.bool a2),(.slice A5 m5 cp5)],er]) ?_ rfl ⟨HBF.out,?_⟩
   ·simp [results,Tryz.results25,go_sem,r0,r1,r2,r3]
   ·rw [HRS.out]
    exact ⟨_,_,_,_,_,_,_,rfl,HFP.out⟩
end
end Go.Proofs.YthogfjmnnaoldaaGreatDoor
namespace Go.Proofs.YthogfjmnnaoldaaGreatDoor
open Go.RowKit Stl
def mkK (x:List UInt8×Bool):Value:=.agg #[.string ⟨x.1.toArray⟩,.bool x.2]
def qQO (x:List UInt8×Bool):Lit:=.string (keyBytes [.string x.1,.bool x.2])
theorem qML:laidOutB Tryz.prog=true:=by kernel_rfl
theorem qOE:(306:TypeId)<Tryz.prog.types.size:=of_decide_eq_true (by kernel_rfl)
theorem qOS:(match Tryz.prog.underlying 306 with | some (.array _ _) | some (.struct _)=>true | _=>false)=true:=by kernel_rfl
theorem qKa:WideMaps.KeyLaw Tryz.prog 306:=deep_law_laid qML (m:=2) (by omega) qOE (by kernel_rfl) qOS
theorem qMP:Tryz.prog.keyType 306=true:=by kernel_rfl
theorem qLv:Tryz.prog.cellsOf 306=2:=by kernel_rfl
theorem qPQ:Tryz.prog.cellsOf 9=1:=by kernel_rfl
theorem qPP:Tryz.prog.cellsOf 4=1:=by kernel_rfl
theorem qMU:∃ n,Tryz.prog.types.size=n+1:=⟨Tryz.prog.types.size-1,by kernel_rfl⟩
theorem qJA (x:List UInt8×Bool) (hx:x.1.length≤maxLen):keyOf Tryz.prog 306 (mkK x)=some (qQO x):=by
 obtain ⟨s,e⟩:=x
 obtain ⟨n,hn⟩:=qMU
 have hsz:ByteArray.size ⟨s.toArray⟩≤maxLen:=hx
 unfold keyOf
 rw [Tryz.underlying306]
 simp only [mkK,qQO,qMP,hn]
 simp [Value.formed,Tryz.underlying306,qLv,Program.keyLits,qPQ,qPP,Tryz.underlying9,Tryz.underlying4,hsz,Value.cells]
abbrev qPa:={ x:List UInt8×Bool // x.1.length≤maxLen }
def mkT (x:qPa):Value:=mkK x.1
def qQq (x:qPa):Lit:=qQO x.1
theorem qNX (a b:qPa) (h:qQq a=qQq b):a=b:=by
 have h1:=qJA a.1 a.2
 have h2:=qJA b.1 b.2
 rw [show qQO b.1=qQO a.1 from h.symm] at h2
 have h3:=qKa.inj h1 h2
 obtain ⟨⟨s,e⟩,ha⟩:=a
 obtain ⟨⟨s',e'⟩,hb⟩:=b
 simp only [mkK,Value.agg.injEq,Array.mk.injEq,zE,Value.string.injEq,ByteArray.mk.injEq,Value.bool.injEq,and_true] at h3
 obtain ⟨rfl,rfl⟩:=h3
 rfl
theorem okK:qEH Tryz.prog 306 mkT qQq (fun _=>True):=⟨Maps.Keyed.of_law qKa,fun x _=>qJA x.1 x.2,qNX⟩
end Go.Proofs.YthogfjmnnaoldaaGreatDoor
namespace Stl
def keyOf (t:Tab) (n:Nat):Option (Bytes×Bool):=match t.read n with | .ok s=>(t.at_ n).map fun x=>(s,x.exec) | .error _=>none
def qBz (t:Tab) (l:List Nat) (key:Bytes×Bool):Option Nat:=l.find? fun n=>keyOf t n==some key
theorem qC0 (t:Tab) (l:List Nat) (n:Nat) (key:Bytes×Bool):qBz t (l++[n]) key=match qBz t l key with | some m=>some m | none=>if keyOf t n=some key then some n else none:=by
 unfold qBz
 rw [List.find?_append]
 cases l.find? fun n=>keyOf t n==some key with
 | some m=>rfl
 | none =>
  simp only [Option.none_or,List.find?_cons,List.find?_nil]
  by_cases h:keyOf t n=some key
  ·simp [h]
  ·rw [zM1 h,(show (keyOf t n==some key)=false by simpa using h)]
theorem qKQ {t:Tab} {n:Nat} {s:Bytes} {x:Ino} (h1:t.read n=.ok s) (h2:t.at_ n=some x):keyOf t n=some (s,x.exec):=by
 unfold keyOf
 rw [h1,h2]
 rfl
theorem qPm {t:Tab} {n:Nat} {c:Nat} (h1:t.read n=.error c):keyOf t n=none:=by
 unfold keyOf
 rw [h1]
theorem qEq {t:Tab} {n:Nat} {key:Bytes×Bool} (h:keyOf t n=some key):∃ x,t.read n=.ok key.1∧t.at_ n=some x∧x.exec=key.2:=by
 unfold keyOf at h
 cases h1:t.read n with
 | error c=>rw [h1] at h;cases h
 | ok s =>
  rw [h1] at h
  cases h2:t.at_ n with
  | none=>rw [h2] at h;cases h
  | some x =>
   rw [h2] at h
   cases h
   exact ⟨x,rfl,rfl,rfl⟩
theorem qEP {t:Tab} {n:Nat}:n∈t.all↔(t.at_ n).isSome=true:=by
 unfold Tab.all
 rw [zb,List.mem_range]
 constructor
 ·exact fun h=>h.2
 ·intro h
  obtain ⟨x,hx⟩:=zA1.1 h
  exact ⟨qEi hx,h⟩
theorem qII (t:Tab):t.all.Pairwise (·<·):=List.Pairwise.filter _ List.pairwise_lt_range
theorem qDr:∀ {l:List Nat} {p:Nat→Bool} {m:Nat},l.Pairwise (·<·)→(l.find? p=some m↔m∈l∧p m=true∧∀ k∈l,k<m→p k=false)
 | [],p,m,_=>by simp
 | a::r,p,m,h=>by
  rw [zk] at h
  rw [List.find?_cons]
  cases ha:p a
  ·simp only
   rw [qDr h.2]
   constructor
   ·rintro ⟨h1,h2,h3⟩
    refine ⟨by simp [h1],h2,fun k hk hkm=>?_⟩
    rcases za.1 hk with rfl | hk
    ·exact ha
    ·exact h3 k hk hkm
   ·rintro ⟨h1,h2,h3⟩
    refine ⟨?_,h2,fun k hk=>h3 k (by simp [hk])⟩
    rcases za.1 h1 with rfl | h1
    ·rw [ha] at h2;cases h2
    ·exact h1
  ·simp only [zC1]
   constructor
   ·rintro rfl
    refine ⟨by simp,ha,fun k hk hkm=>?_⟩
    rcases za.1 hk with rfl | hk
    ·omega
    ·have:=h.1 k hk
     omega
   ·rintro ⟨h1,h2,h3⟩
    rcases za.1 h1 with rfl | h1
    ·rfl
    ·have:=h3 a (by simp) (h.1 m h1)
     rw [ha] at this
     cases this
theorem qGz {t:Tab} {n m:Nat} {key:Bytes×Bool} (hk:keyOf t n=some key):t.lesser n=some m↔m<n∧qBz t t.all key=some m:=by
 obtain ⟨x,h1,h2,h3⟩:=qEq hk
 have hp:∀ k,(match t.read k with | .error _=>false | .ok r=>r==key.1&&((t.at_ k).map (·.exec))==((t.at_ n).map (·.exec)))=(keyOf t k==some key):=by
  intro k
  unfold keyOf
  cases h4:t.read k with
  | error c=>rfl
  | ok s =>
   simp only [h2,zB1,h3]
   cases h5:t.at_ k with
   | none =>
    simp [Tab.read,h5] at h4
   | some y =>
    simp only [zB1]
    rw [Bool.eq_iff_iff]
    simp only [zD,beq_iff_eq,zC1]
    obtain ⟨k1,k2⟩:=key
    simp
 have e:t.lesser n=(List.range n).find? fun k=>keyOf t k==some key:=by
  unfold Tab.lesser
  rw [h1]
  simp only
  congr 1
  funext k
  exact hp k
 rw [e,qDr List.pairwise_lt_range]
 unfold qBz
 rw [qDr (qII t)]
 simp only [beq_iff_eq,List.mem_range,qEP]
 constructor
 ·rintro ⟨a,b,c⟩
  obtain ⟨y,_,hy,_⟩:=qEq b
  exact ⟨a,by rw [hy];rfl,b,fun k _ hkm=>c k (by omega) hkm⟩
 ·rintro ⟨a,b,c,d⟩
  refine ⟨a,c,fun k hk hkm=>?_⟩
  cases hq:keyOf t k with
  | none=>simp
  | some z =>
   obtain ⟨y,_,hy,_⟩:=qEq hq
   have:=d k (by rw [hy];rfl) hkm
   rw [hq] at this
   simpa using this
theorem qLz {t:Tab} {n:Nat} {key:Bytes×Bool} (hk:keyOf t n=some key):∃ m,qBz t t.all key=some m∧m≤n:=by
 obtain ⟨x,_,hx,_⟩:=qEq hk
 have hn:n∈t.all:=qEP.2 (by rw [hx];rfl)
 cases h:qBz t t.all key with
 | none =>
  have:=List.find?_eq_none.1 h n hn
  exact absurd (by rw [hk];simp) this
 | some m =>
  refine ⟨m,rfl,?_⟩
  obtain ⟨_,_,h3⟩:=(qDr (qII t)).1 h
  rcases zw n m with h4 | h4
  ·have:=h3 n hn h4
   rw [hk] at this
   simp at this
  ·exact h4
theorem qJo {t:Tab} {n m:Nat} {key:Bytes×Bool} (hk:keyOf t n=some key) (hm:qBz t t.all key=some m) (h:¬ m<n):t.lesser n=none:=by
 cases hl:t.lesser n with
 | none=>rfl
 | some k =>
  obtain ⟨h1,h2⟩:=(qGz hk).1 hl
  rw [hm] at h2
  cases h2
  exact absurd h1 h
theorem qLV {t:Tab} {n:Nat} {c:Nat} (h:t.read n=.error c):t.lesser n=none:=by
 unfold Tab.lesser
 rw [h]
end Stl
namespace Go.Proofs.YthogfjmnnaoldaaGreatDoor
open Go.RowKit Go.Maps Go.Sort Go.Shelf Stl
theorem qFV {w:World} {b n:Nat} {D:DataW Value} {f:Nat→Option Value} (h:w.ownsMap Tryz.prog 3 qCf b n D) (hM:MapIs qKq D f) {l:List Nat} (hs:l.Pairwise (·<·)) (hm:∀ k,k∈l↔(f k).isSome=true) {ss:List Int} (hp:ss.Perm (intKeys D)) :
  ss.mergeSort leI=l.map fun k:Nat=>(k:Int):=by
 obtain ⟨es,rfl,hpw,hk⟩:=h.entries okN.keyed
 have hk2:∀ p∈es,∃ x,p.1=.int .i64 x:=fun p hp=>by
  have hh:has (.map es) p.1=true:=by rw [has_eq];exact List.any_eq_true.2 ⟨p,hp,WideAt.sameKey_self (hk p hp)⟩
  obtain ⟨k,v,h1,_⟩:=hM.has_ _ hh
  exact ⟨(k:Int),h1⟩
 have hp2:(l.map fun k:Nat=>(k:Int)).Perm (intKeys (.map es)):=perm_intKeys hpw hk2 (List.pairwise_map.2 (hs.imp fun h e=>by omega)) (fun x=>by
  constructor
  ·intro hx
   obtain ⟨k,hk,rfl⟩:=zf.1 hx
   rw [show (Lit.int .i64 (k:Int))=qKq k from rfl,hM.has_eq]
   exact (hm k).1 hk
  ·intro hx
   obtain ⟨k,v,h1,h2⟩:=hM.has_ _ hx
   have e:x=(k:Int):=by simpa [qKq] using h1
   exact zf.2 ⟨k,(hm k).2 (by rw [h2];rfl),e.symm⟩)
 rw [mergeSort_of_perm_i (hp.trans hp2.symm)]
 exact List.mergeSort_of_pairwise (List.pairwise_map.2 (hs.imp fun h=>by simp;omega))
theorem qPz (m:Nat):AnyZI.SortsIn Tryz.prog Tryz.sortedI_ren Fence.wide m :=
 ⟨fun blk off cap ss W hH hblk hsz=>zJ1.2 (AnyM.slices_Sort_int Tryz.sortI blk off cap ss W hH hblk hsz),
  fun p cap W=>zJ1.2 (AnyM.slices_Sort_int_none Tryz.sortI p cap W)⟩
section
variable {w:World} {c:Nat→Col} {b:Nat} {T:Tab}
theorem qHG (h:TabAt w c b T) (hL:T.l.length≤1000000) :
  Calls Tryz.prog 141 #[.pointer (some ⟨b,0,none⟩)] w fun e w'=>∃ A cap,e=.returned (.slice A T.all.length cap)∧w'.ownsRow w.heap.size 3 1 (.slice A T.all.length cap) T.all.length (T.all.map qJq)∧Below w.heap.size w w':=by
 obtain ⟨bd,bs,bm,st,h⟩:=h
 have c2:w.cell? ⟨b,2,none⟩=some (.map (some bm)):=zK1 w b 2 _ _ _ h.own
 obtain ⟨D0,hown,hMI⟩:=h.map
 have hsl:=hown.size_le
 have hbl:=hown.lt
 have hKS:=fun ss hp=>qFV hown hMI (l:=T.all) (List.Pairwise.filter _ List.pairwise_lt_range) (fun k=>by
  unfold Tab.all
  rw [zb,List.mem_range]
  have e:(qAH T st k).isSome=(T.at_ k).isSome:=by unfold qAH;cases T.at_ k<;>rfl
  rw [e]
  exact ⟨fun h=>h.2,fun h=>⟨by cases hx:T.at_ k with | none=>rw [hx] at h;cases h | some x=>exact qEi hx,h⟩⟩) (ss:=ss) hp
 have HKS:=Hh hKS
 clear h hKS
 refine (zJ1 (n:=6)).1 ?_
 have hseq:SeqGives Fence.wide 2 Tryz.prog 249 #[.pointer (some ⟨w.heap.size,0,none⟩)] encZ (fun ss=>ss.Perm (intKeys D0)) (Maps.size D0) (w.alloc (.cells #[.map (some bm)] 92)) :=
  AnyZI.keys_gives (ρ:=Tryz.keysStat_ren) { Tryz.keysStat with } Fence.wide _ trivial rfl (by omega) w.heap.size bm T.l.length D0 _ (by simp) (by simp) (by
   obtain ⟨es,clock,hb,Ft,hs,hD⟩:=hown
   exact ⟨es,clock,(Below.heap_alloc _ _ bm hbl).trans hb,Ft,hs,hD⟩)
 have cK:∀ mb W,CallsIn Fence.wide 5 Tryz.prog 199 #[.map mb] W fun e w'=>e=.returned (.func (.func 249) #[] #[.pointer (some ⟨W.heap.size,0,none⟩)])∧w'=W.alloc (.cells #[.map mb] 92):=fun mb W=>AnyZI.keys_in Tryz.keysStat Fence.wide 5 trivial rfl mb W
 have cS:=AnyZI.sorted_in Tryz.sortedI Fence.wide 5 trivial trivial trivial trivial rfl (by omega) (qPz _) (enters_of Tryz.func248 (by kernel_rfl) rfl) 249 #[.pointer (some ⟨w.heap.size,0,none⟩)] trivial (enters_of Tryz.func249 (by kernel_rfl) rfl) _ _ (by unfold maxLen;omega) (by omega) _ hseq
 change CallsIn _ _ Tryz.prog 198 _ _ _ at cS
 have hfK:Fence.wide.fn 199:=trivial
 have hfS:Fence.wide.fn 198:=trivial
 refine callsIn_of_wp Tryz.func141 rfl trivial ?_ rfl
 simp only [Tryz.ntmps141,List.size_toArray,zS,List.length_nil,Nat.reduceAdd,Nat.reduceSub,Array.replicate_succ,Array.replicate_zero,List.push_toArray,List.append_toArray,zj,zF]
 gi_wp2_with (first
  | (gi_at_call 199;refine (cK _ _).mono ?_;rintro e w' ⟨rfl,rfl⟩)
  | (gi_at_call 198;refine cS.mono ?_;rintro e w' ⟨v,ss,rfl,hS,hrow,hnil,hb⟩))
 go_ret
 have hks:=HKS.out ss hS
 have hlen:ss.length=T.all.length:=by
  have:=congrArg List.length hks
  simpa using this
 have e1:(ss.mergeSort (fun x y=>decide (x≤y))).map encZ=T.all.map qJq:=by
  rw [show ss.mergeSort (fun x y=>decide (x≤y))=_ from hks,zY]
  rfl
 rw [e1,hlen] at hrow
 obtain ⟨A,cap,rfl⟩:=Stl.owns_slice _ hrow
 exact ⟨A,cap,rfl,ownsRow_base_a hrow (by simp),((zC _ w).alloc (zr _) _).trans (hb.mono (by simp))⟩
end
end Go.Proofs.YthogfjmnnaoldaaGreatDoor
namespace Go.Proofs.YthogfjmnnaoldaaGreatDoor
open Go.RowKit Go.Sort Go.Shelf Stl
def qPA (T:Tab) (n:Nat):Bool:=match T.read n with | .ok _=>false | .error _=>true
theorem qP8 (T:Tab):T.scan=T.all.filter (qPA T):=rfl
theorem qDe {T:Tab} {n cd:Nat} (h:T.read n=.error cd):cd≠0:=by
 unfold Tab.read at h
 split at h
 ·cases h;decide
 ·split at h
  ·cases h
  ·cases h;decide
section
variable {w:World} {c:Nat→Col} {b:Nat} {T:Tab} {p:Nat→Addr}
theorem qOD (h:TabAt w c b T) (ht:qBj T) (hD:T.disk.length≤1000000) (hL:T.l.length≤1000000) (hE:Errs w p) :
  Calls Tryz.prog 88 #[.pointer (some ⟨b,0,none⟩)] w fun e w'=>∃ A cap,e=.returned (.slice A T.scan.length cap)∧w'.ownsRow w.heap.size 3 1 (.slice A T.scan.length cap) T.scan.length (T.scan.map qJq)∧Below w.heap.size w w':=by
 have HALL:=Hh (qHG h hL)
 have HS:=Hh (qP8 T)
 have hal:∀ n∈T.all,n≤1000000:=fun n hn=>by
  unfold Tab.all at hn
  have:=List.mem_range.1 (zb.1 hn).1
  omega
 have hll:T.all.length≤1000000:=by
  unfold Tab.all
  have:=zU (fun n=>(T.at_ n).isSome) (List.range T.l.length)
  simp at this ⊢
  omega
 generalize T.scan=res at HS ⊢
 generalize T.all=all at HALL HS hal hll
 have HT:=Hh h
 have HOK:=Hh ht
 have HDD:=Hh hD
 have HE:=Hh hE
 have HAL:=Hh hal
 clear h ht hD hL hE hal
 go_enter Tryz.func88,Tryz.ntmps88
 go_upto_region 5 with (go_at_call 141;refine HALL.out.mono ?_;rintro ev wx ⟨A,cap,rfl,hr,hb⟩;have HRW:=Hh hr;have HBX:=Hh hb;clear hr hb)
 go_loopw [3,13] (fun v a wr=>∃ (i:Nat) (acc:List Nat),a=.int .i64 i∧i≤all.length∧acc.length≤i∧Hid (Below wx.heap.size wx wr)∧Hid (wr.ownsRow wx.heap.size 3 1 v acc.length (acc.map qJq))∧Hid (acc=(all.take i).filter (qPA T))) (fun _ a _=>all.length-(intOf a).toNat)
 case atStart=>exact ⟨0,[],rfl,zy _,zr _,Hh (zC _ _),Hh (zG1 _ _ _ _),Hh rfl⟩
 case round =>
  obtain ⟨i,acc,rfl,hi,hacc,HB,HO,HA⟩:=hrel
  by_cases hil:i<all.length
  ·have i1:(i:Int)<(all.length:Int):=by omega
   have i2:(0:Int)≤(i:Int):=by omega
   have hbr:Below w.heap.size w wr:=HBX.out.trans (HB.out.mono HBX.out.size)
   have HRD:=Hh (qB4 (HT.out.below hbr) HOK.out HDD.out all[i] (HAL.out _ (zP hil)) (HE.out.later hbr))
   have hap:∃ g,A=some ⟨g,0,none⟩∧g<wx.heap.size:=by
    rcases HRW.out.2 with ⟨_,h0⟩ | ⟨g,cp,cur,e,_,h6,_⟩
    ·omega
    ·simp only [zD1] at e
     exact ⟨g,e.1,qAa h6⟩
   obtain ⟨g,rfl,hgl⟩:=hap
   have q0:wr.cell? ⟨g,i,none⟩=some (.int .i64 (all[i]:Nat)):=by
    rw [HB.out.cell (p:=⟨g,i,none⟩) hgl,HRW.out.cellAt i (by omega),zO,zM hil]
    rfl
   have HAN:=Hh (show (all.take (i+1)).filter (qPA T)=acc++(if qPA T all[i] then [all[i]] else []) by
    rw [zq hil,List.filter_append,← HA.out]
    simp only [zJ,List.filter_nil])
   generalize all[i]=n at HRD q0 HAN
   cases hrd:T.read n with
   | ok s =>
    rw [hrd,show qDt p (.ok s)=#[.string ⟨s.toArray⟩,.nilIface] from rfl] at HRD
    have HAN2:=Hh (show acc=(all.take (i+1)).filter (qPA T) by
     rw [HAN.out]
     simp [qPA,hrd])
    clear hrd hbr
    go_wp2_with (go_at_call 137;refine HRD.out.mono ?_;rintro ev w3 ⟨rfl,hb3⟩;have HB3:=Hh (HB.out.trans (hb3.mono HB.out.size));have HO3:=Hh (HO.out.kept (Below.toGrown hb3 none) (by cases Value.ownBlock u3<;>simp));clear hb3)
    clear q0
    go_roundw
    case rel=>exact ⟨i+1,acc,by go_num,hil,by omega,HB3,HO3,HAN2⟩
    case measure=>simp [intOf];omega
   | error cd =>
    rw [hrd,show qDt p (.error cd)=#[.string ⟨#[]⟩,qAN p cd] from rfl,qAc p (qDe hrd)] at HRD
    have HAN2:=Hh (show acc++[n]=(all.take (i+1)).filter (qPA T) by
     rw [HAN.out]
     simp [qPA,hrd])
    obtain ⟨i0,hii,hz0,hz1,hz2⟩:=qJK.info
    have HII:=Hh hii
    have HZ0:=Hh hz0
    have HZ1:=Hh hz1
    have HZ2:=Hh hz2
    clear hrd hbr hii hz0 hz1 hz2
    go_upto_region 9 with (go_at_call 137;refine HRD.out.mono ?_;rintro ev w3 ⟨rfl,hb3⟩;have HB3:=Hh (HB.out.trans (hb3.mono HB.out.size));have HO3:=Hh (HO.out.kept (Below.toGrown hb3 none) (by cases Value.ownBlock u3<;>simp));clear hb3)
    have hb4:Below w3.heap.size w3 (w3.alloc (.cells #[.int .i64 n] 3)):=(zC _ w3).alloc (zr _) _
    have HB4:=Hh (HB3.out.trans (hb4.mono HB3.out.size))
    have HO4:=Hh (HO3.out.kept (Below.toGrown hb4 none) (by cases Value.ownBlock u3<;>simp))
    clear hb4 q0
    go_wp2_with (at_builtin;refine Stl.wpList_app _ rfl _ _ 158 rfl wx.heap.size 3 i0 (.int .i64 0) 1 8 Tryz.underlying158 HII.out HZ0.out HZ1.out HZ2.out rfl (by decide) u3 acc.length (acc.map qJq) rfl HO4.out (some ⟨w3.heap.size,0,none⟩) 1 1 [.int .i64 n] rfl rfl (fun h=>by cases h) (qAw _ _ _) (by simp [Value.oneCell']) (by unfold maxLen;omega) (by omega) (zt HB3.out.size (by simp)) ?_;intro A5 c5 w5 hown5 hgr5 hat;have HO5:=Hh hown5;have HB5:=Hh (HB4.out.grown hgr5 HB4.out.size (fun k hk=>(HO4.out.lt k hk).1));clear hown5 hgr5 hat)
    go_roundw
    case rel=>exact ⟨i+1,acc++[n],by go_num,hil,by simp;omega,HB5,by simpa using HO5,HAN2⟩
    case measure=>simp [intOf];omega
  ·have i1:¬ (i:Int)<(all.length:Int):=by omega
   have HR:=Hh (show res=acc by
    have:=HA.out
    rw [zo (by omega)] at this
    rw [HS.out,this])
   obtain ⟨A3,c3,e3⟩:=Stl.owns_slice _ HO.out
   subst e3
   go_wp2
   go_ret
   rw [HR.out]
   exact ⟨A3,c3,rfl,ownsRow_base_a HO.out HBX.out.size,HBX.out.trans (HB.out.mono HBX.out.size)⟩
end
end Go.Proofs.YthogfjmnnaoldaaGreatDoor
