/- Texts of this claim, merged: DirsGet. -/
import Derived.Test.YthogfjmnnaoldaaGreatDoorGm13
import Derived.Test.YthogfjmnnaoldaaGreatDoorGm22
set_option maxHeartbeats 16000000
set_option maxRecDepth 1000000
set_option linter.all false
namespace Go.Proofs.YthogfjmnnaoldaaGreatDoor
open Go.RowKit Go.Sort Go.Shelf Stl
structure DirsGood (d:Stl.Dirs):Prop where
 ok:qAD d
 disk:d.t.disk.length≤1000000
 inos:d.t.l.length≤1000000
 next:d.next≤1000000
 ents:d.l.length≤1000000
theorem DirsGood.small {d:Stl.Dirs} (h:DirsGood d) {k:Nat} {e:Ent} (he:qAh d.l k=some e):∀ q∈e.f,q.2≤1000000:=fun q hq=>by
 have hm:=zh he
 have h1:=h.ok.there q.2 (by unfold nums;exact ze.2 ⟨e,hm,zf.2 ⟨q,hq,rfl⟩⟩)
 obtain ⟨x,hx⟩:=zA1.1 h1
 have:=qEi hx
 have:=h.inos
 omega
theorem DirsGood.paths {d:Stl.Dirs} (h:DirsGood d) {k:Nat} {e:Ent} (he:qAh d.l k=some e):∀ x∈Stl.flat e.n [] 0,x.path.length≤1000000:=fun x hx=>by
 have:=((items_well (h.ok.well e (zh he))).2 x hx).2
 omega
theorem NodeP.set4 {P:Nat→Prop} {w:World} {n:Nd} {vs:List Value} {x:Nat} {u0 u1 u2 u3:Value} (h:NodeP P w n vs) (hP:∀ b,P b→b≠x):NodeP P ((((w.setCell ⟨x,0,none⟩ u0).setCell ⟨x,1,none⟩ u1).setCell ⟨x,2,none⟩ u2).setCell ⟨x,3,none⟩ u3) n vs :=
 NodeP.go (by simp [World.setCell]) (fun b _ hp=>⟨by
  rw [zB _ ⟨x,3,none⟩ _ b (hP b hp),zB _ ⟨x,2,none⟩ _ b (hP b hp),zB _ ⟨x,1,none⟩ _ b (hP b hp),zB _ ⟨x,0,none⟩ _ b (hP b hp)],hp⟩) n vs h
theorem qJV (w:World):(zeroValue 138).run Tryz.prog w=.ok (.agg #[.string ⟨#[]⟩,.string ⟨#[]⟩,.bool false,.slice none 0 0,.map none]) w:=by kernel_rfl
section
variable {w:World} {c:Nat→Col} {b:Nat} {d:Stl.Dirs} {bt bm:Nat} {nd:Nat→List Value} {fm:Nat→Nat}
theorem DirsIn.below {w2:World} (h:DirsIn w c b d bt bm nd fm) (hb:Below w.heap.size w w2):DirsIn w2 c b d bt bm nd fm:=h.ext (Ext.of_below hb c S0) rfl (fun _ _=>rfl)
theorem DirsAt.below {w2:World} (h:DirsAt w c b d) (hb:Below w.heap.size w w2):DirsAt w2 c b d:=h.ext (Ext.of_below hb c S0) rfl (fun _ _=>rfl)
theorem DirsIn.lookOk (h:DirsIn w c b d bt bm nd fm) {k:Nat} (hk:k≤1000000) {e:Ent} (he:qAh d.l k=some e) :
  (Instr.lookup 95 (.map (some bm)) (.int .i64 k) true).run Tryz.prog w=.ok (.tuple #[.agg (nd k++[Value.map (some (fm k))]).toArray,.bool true]) w:=by
 have hlk:=h.map.getOk (t:=95) okN Tryz.underlying95 (qJV w) (i:=k) (by omega)
 have hs:qA3 d.l nd fm k=some (.agg (nd k++[Value.map (some (fm k))]).toArray):=by unfold qA3;rw [he];rfl
 rw [hs] at hlk
 simpa only [zz,Option.isSome_some,mkN] using hlk
theorem DirsIn.lookNo (h:DirsIn w c b d bt bm nd fm) {k:Nat} (hk:k≤1000000) (he:qAh d.l k=none) :
  (Instr.lookup 95 (.map (some bm)) (.int .i64 k) true).run Tryz.prog w=.ok (.tuple #[.agg #[.string ⟨#[]⟩,.string ⟨#[]⟩,.bool false,.slice none 0 0,.map none],.bool false]) w:=by
 have hlk:=h.map.getOk (t:=95) okN Tryz.underlying95 (qJV w) (i:=k) (by omega)
 have hs:qA3 d.l nd fm k=none:=by unfold qA3;rw [he];rfl
 rw [hs] at hlk
 simpa only [Option.getD_none,Option.isSome_none,mkN] using hlk
theorem DirsIn.ent (h:DirsIn w c b d bt bm nd fm) {k:Nat} {e:Ent} (he:qAh d.l k=some e) :
  ∃ (k' d':List UInt8) (e':Bool) (ks:List (List UInt8×Nd)) (A:Option Addr) (cap:Nat),e.n=.mk k' d' e' ks∧nd k=[.string ⟨k'.toArray⟩,.string ⟨d'.toArray⟩,.bool e',.slice A ks.length cap]∧NodeP (fun b=>c b=.ro) w (.mk k' d' e' ks) [.string ⟨k'.toArray⟩,.string ⟨d'.toArray⟩,.bool e',.slice A ks.length cap]:=by
 have hn:=h.node k e he
 cases hm:e.n with
 | mk k' d' e' ks =>
 unfold RoNode at hn
 rw [hm] at hn
 obtain ⟨A,cap,hv⟩:=hn.open
 rw [hv] at hn
 exact ⟨k',d',e',ks,A,cap,rfl,hv,hn⟩
theorem qCx (h:DirsIn w c b d bt bm nd fm) :
  Calls Tryz.prog 81 #[.pointer (some ⟨b,0,none⟩)] w fun e w'=>e=.returned (.pointer (some ⟨bt,0,none⟩))∧w'=w:=by
 have c0:w.cell? ⟨b,0,none⟩=some (.pointer (some ⟨bt,0,none⟩)):=zK1 w b 0 _ _ _ h.own
 clear h
 go_enter Tryz.func81,Tryz.ntmps81
 go_wp2
 go_ret
 exact ⟨rfl,rfl⟩
theorem Get_no {p:Nat→Addr} (h:DirsAt w c b d) (k:Nat) (hk:k≤1000000) (hE:Errs w p) (he:qAh d.l k=none) :
  Calls Tryz.prog 56 #[.pointer (some ⟨b,0,none⟩),.int .i64 k] w fun ev w'=>Below w.heap.size w w'∧qEd p (fun b=>c b=.ro) w (d.get k) ev w':=by
 obtain ⟨bt,bm,nd,fm,h⟩:=h
 have hb1:Below w.heap.size w (w.alloc (.cells #[.string ⟨#[]⟩,.string ⟨#[]⟩,.bool false,.slice none 0 0] 45)):=(zC _ w).alloc (zr _) _
 have hlk:=(h.below hb1).lookNo hk he
 have c1:(w.alloc (.cells #[.string ⟨#[]⟩,.string ⟨#[]⟩,.bool false,.slice none 0 0] 45)).cell? ⟨b,1,none⟩=some (.map (some bm)):=zK1 _ b 1 _ _ _ (h.below hb1).own
 have HG:=Hh (show d.get k=.error 6 by unfold Dirs.get;rw [he])
 have hg:=((hE.later hb1).cell 6 (by omega) (by omega))
 have HGL:=Hh (lt_of_cell (hE.cell 6 (by omega) (by omega)))
 have HE6:=Hh (qAc p (c:=6) (by omega))
 rw [HE6.out] at hg
 have HBX:=Hh (zL1 w (.cells #[.string ⟨#[]⟩,.string ⟨#[]⟩,.bool false,.slice none 0 0] 45))
 have HB1:=Hh hb1
 clear h he hb1 hE
 go_enter Tryz.func56,Tryz.ntmps56
 go_upto_region 3 with fail
 have hb2:Below (w.alloc (.cells #[.string ⟨#[]⟩,.string ⟨#[]⟩,.bool false,.slice none 0 0] 45)).heap.size (w.alloc (.cells #[.string ⟨#[]⟩,.string ⟨#[]⟩,.bool false,.slice none 0 0] 45)) ((w.alloc (.cells #[.string ⟨#[]⟩,.string ⟨#[]⟩,.bool false,.slice none 0 0] 45)).alloc (.cells #[.string ⟨#[]⟩,.string ⟨#[]⟩,.bool false,.slice none 0 0,.map none] 138)):=(zC _ _).alloc (zr _) _
 have hg2:=(hb2.cell (p:=⟨qCz 6,0,none⟩) (lt_of_cell hg)).trans hg
 have HBX2:=Hh ((hb2.block _ (qAa HBX.out)).trans HBX.out)
 have HB2:=Hh (HB1.out.trans (hb2.mono HB1.out.size))
 have hgne:w.heap.size≠4:=by have:=HGL.out;simp [qCz] at this;omega
 have hgne':4≠w.heap.size:=hgne.symm
 clear hb2 hg hlk c1
 generalize (w.alloc (.cells #[.string ⟨#[]⟩,.string ⟨#[]⟩,.bool false,.slice none 0 0] 45)).alloc (.cells #[.string ⟨#[]⟩,.string ⟨#[]⟩,.bool false,.slice none 0 0,.map none] 138)=w2 at *
 have hg3:w2.cell? ⟨4,0,none⟩=some (.iface 371 (.pointer (some (p 6)))):=hg2
 have z0:w2.cell? ⟨w.heap.size,0,none⟩=some (.string ⟨#[]⟩):=zK1 w2 _ 0 _ _ _ HBX2.out
 have z1:w2.cell? ⟨w.heap.size,1,none⟩=some (.string ⟨#[]⟩):=zK1 w2 _ 1 _ _ _ HBX2.out
 have z2:w2.cell? ⟨w.heap.size,2,none⟩=some (.bool false):=zK1 w2 _ 2 _ _ _ HBX2.out
 have z3:w2.cell? ⟨w.heap.size,3,none⟩=some (.slice none 0 0):=zK1 w2 _ 3 _ _ _ HBX2.out
 have f0:w2.frozen? ⟨w.heap.size,0,none⟩=false:=qAb HBX2.out 0
 have f1:w2.frozen? ⟨w.heap.size,1,none⟩=false:=qAb HBX2.out 1
 have f2:w2.frozen? ⟨w.heap.size,2,none⟩=false:=qAb HBX2.out 2
 have f3:w2.frozen? ⟨w.heap.size,3,none⟩=false:=qAb HBX2.out 3
 go_region
 have HF:=Hh (show ((((w2.setCell ⟨w.heap.size,0,none⟩ (.string ⟨#[]⟩)).setCell ⟨w.heap.size,1,none⟩ (.string ⟨#[]⟩)).setCell ⟨w.heap.size,2,none⟩ (.bool false)).setCell ⟨w.heap.size,3,none⟩ (.slice none 0 0)).drew.heap[w.heap.size]?=some (.cells #[.string ⟨#[]⟩,.string ⟨#[]⟩,.bool false,.slice none 0 0] 45 (0,0)) from qAd (qAd (qAd (qAd HBX2.out 0 (.string ⟨#[]⟩)) 1 (.string ⟨#[]⟩)) 2 (.bool false)) 3 (.slice none 0 0))
 have HBF:=Hh (((((HB2.out.setCell (p:=⟨w.heap.size,0,none⟩) (zr _) (.string ⟨#[]⟩)).setCell (p:=⟨w.heap.size,1,none⟩) (zr _) (.string ⟨#[]⟩)).setCell (p:=⟨w.heap.size,2,none⟩) (zr _) (.bool false)).setCell (p:=⟨w.heap.size,3,none⟩) (zr _) (.slice none 0 0)).drew)
 clear z0 z1 z2 z3 f0 f1 f2 f3 hgne hgne' hg3 hg2
 go_wp2_with fail
 generalize ((((w2.setCell ⟨w.heap.size,0,none⟩ (.string ⟨#[]⟩)).setCell ⟨w.heap.size,1,none⟩ (.string ⟨#[]⟩)).setCell ⟨w.heap.size,2,none⟩ (.bool false)).setCell ⟨w.heap.size,3,none⟩ (.slice none 0 0)).drew=w9 at *
 have r0:w9.cell? ⟨w.heap.size,0,none⟩=some (.string ⟨#[]⟩):=zK1 w9 _ 0 _ _ _ HF.out
 have r1:w9.cell? ⟨w.heap.size,1,none⟩=some (.string ⟨#[]⟩):=zK1 w9 _ 1 _ _ _ HF.out
 have r2:w9.cell? ⟨w.heap.size,2,none⟩=some (.bool false):=zK1 w9 _ 2 _ _ _ HF.out
 have r3:w9.cell? ⟨w.heap.size,3,none⟩=some (.slice none 0 0):=zK1 w9 _ 3 _ _ _ HF.out
 refine zI1 (v:=.tuple #[.agg #[.string ⟨#[]⟩,.string ⟨#[]⟩,.bool false,.slice none 0 0],.iface 371 (.pointer (some (p 6)))]) ?_ rfl ⟨HBF.out,?_⟩
 ·simp [results,Tryz.results56,go_sem,r0,r1,r2,r3]
 ·rw [HG.out]
  exact ⟨_,_,_,_,_,_,_,rfl,HE6.out.symm,by decide⟩
theorem qQH {p:Nat→Addr} (h:DirsAt w c b d) (hd:DirsGood d) (k:Nat) (hk:k≤1000000) (hE:Errs w p) {e:Ent} (he:qAh d.l k=some e) :
  Calls Tryz.prog 56 #[.pointer (some ⟨b,0,none⟩),.int .i64 k] w fun ev w'=>Below w.heap.size w w'∧qEd p (fun b=>c b=.ro) w (d.get k) ev w':=by
 obtain ⟨bt,bm,nd,fm,h⟩:=h
 obtain ⟨k',d',e',ks,A,cap,hn,hnd,hnp⟩:=h.ent he
 have hb1:Below w.heap.size w (w.alloc (.cells #[.string ⟨#[]⟩,.string ⟨#[]⟩,.bool false,.slice none 0 0] 45)):=(zC _ w).alloc (zr _) _
 have hlk:=(h.below hb1).lookOk hk he
 rw [hnd] at hlk
 simp only [zF,zj] at hlk
 have c1:(w.alloc (.cells #[.string ⟨#[]⟩,.string ⟨#[]⟩,.bool false,.slice none 0 0] 45)).cell? ⟨b,1,none⟩=some (.map (some bm)):=zK1 _ b 1 _ _ _ (h.below hb1).own
 have HG:=Hh (show d.get k=qA6 d.t e.f (.mk k' d' e' ks) [] by unfold Dirs.get;rw [he];simp only;rw [hn])
 have HBX:=Hh (zL1 w (.cells #[.string ⟨#[]⟩,.string ⟨#[]⟩,.bool false,.slice none 0 0] 45))
 have hb2:Below w.heap.size w ((w.alloc (.cells #[.string ⟨#[]⟩,.string ⟨#[]⟩,.bool false,.slice none 0 0] 45)).alloc (.cells #[.string ⟨k'.toArray⟩,.string ⟨d'.toArray⟩,.bool e',.slice A ks.length cap,.map (some (fm k))] 138)):=hb1.alloc (by simp) _
 have HBX2:=Hh (qAm (w.alloc (.cells #[.string ⟨#[]⟩,.string ⟨#[]⟩,.bool false,.slice none 0 0] 45)) (.cells #[.string ⟨k'.toArray⟩,.string ⟨d'.toArray⟩,.bool e',.slice A ks.length cap,.map (some (fm k))] 138) HBX.out)
 have HEX2:=Hh (show ((w.alloc (.cells #[.string ⟨#[]⟩,.string ⟨#[]⟩,.bool false,.slice none 0 0] 45)).alloc (.cells #[.string ⟨k'.toArray⟩,.string ⟨d'.toArray⟩,.bool e',.slice A ks.length cap,.map (some (fm k))] 138)).heap[w.heap.size+1]?=some (.cells #[.string ⟨k'.toArray⟩,.string ⟨d'.toArray⟩,.bool e',.slice A ks.length cap,.map (some (fm k))] 138 (0,0)) from by
  have:=zL1 (w.alloc (.cells #[.string ⟨#[]⟩,.string ⟨#[]⟩,.bool false,.slice none 0 0] 45)) (.cells #[.string ⟨k'.toArray⟩,.string ⟨d'.toArray⟩,.bool e',.slice A ks.length cap,.map (some (fm k))] 138)
  simpa using this)
 have HB2:=Hh hb2
 have HPA:=Hh (hn▸hd.paths he)
 have HFL:=Hh (show FillEnv w c b bt (fm k) d.t e.f p from ⟨zK1 w b 0 _ _ _ h.own,h.tab,hd.ok.tab,hd.disk,h.files k e he,hd.small he,hE⟩)
 have HNP:=Hh hnp
 clear h he hb1 hE hnd hn hnp hd hb2
 generalize d.get k=res at HG ⊢
 go_enter Tryz.func56,Tryz.ntmps56
 go_upto_region 4 with fail
 clear hlk c1
 generalize (w.alloc (.cells #[.string ⟨#[]⟩,.string ⟨#[]⟩,.bool false,.slice none 0 0] 45)).alloc (.cells #[.string ⟨k'.toArray⟩,.string ⟨d'.toArray⟩,.bool e',.slice A ks.length cap,.map (some (fm k))] 138)=w2 at *
 have q0:w2.cell? ⟨w.heap.size+1,0,none⟩=some (.string ⟨k'.toArray⟩):=zK1 w2 _ 0 _ _ _ HEX2.out
 have q1:w2.cell? ⟨w.heap.size+1,1,none⟩=some (.string ⟨d'.toArray⟩):=zK1 w2 _ 1 _ _ _ HEX2.out
 have q2:w2.cell? ⟨w.heap.size+1,2,none⟩=some (.bool e'):=zK1 w2 _ 2 _ _ _ HEX2.out
 have q3:w2.cell? ⟨w.heap.size+1,3,none⟩=some (.slice A ks.length cap):=zK1 w2 _ 3 _ _ _ HEX2.out
 have q4:w2.cell? ⟨w.heap.size+1,4,none⟩=some (.map (some (fm k))):=zK1 w2 _ 4 _ _ _ HEX2.out
 have HNP2:=Hh (NodeP.go HB2.out.size (fun b hb hp=>⟨HB2.out.block b hb,(⟨hp,hb⟩:c b=.ro∧b<w.heap.size)⟩) _ _ HNP.out)
 have HFI:=Hh (qGG c b bt (fm k) d.t e.f p ⟨k'.toArray⟩ ⟨d'.toArray⟩ e' A ks.length cap (Stl.wt (.mk k' d' e' ks)) (.mk k' d' e' ks) _ _ [] 0 w2 (zr _) HNP2.out HPA.out (.inl rfl) (HFL.out.below HB2.out))
 go_upto_region 5 with (go_at_call 100;refine HFI.out.mono ?_;rintro ev w3 ⟨hb3,a0,a1,a2,A5,m5,cp5,er,rfl,hpost⟩;have HPO:=Hh hpost;have HB3:=Hh hb3;clear hpost hb3)
 have HB6:=Hh ((HB2.out.trans (HB3.out.mono HB2.out.size)).alloc (HB2.out.trans (HB3.out.mono HB2.out.size)).size (.cells #[.string a0,.string a1,.bool a2,.slice A5 m5 cp5] 45))
 have hb6:=(zC w3.heap.size w3).alloc (zr _) (.cells #[.string a0,.string a1,.bool a2,.slice A5 m5 cp5] 45)
 have HNX6:=Hh (zL1 w3 (.cells #[.string a0,.string a1,.bool a2,.slice A5 m5 cp5] 45))
 have HBX6:=Hh ((hb6.block _ (zv (qAa HBX2.out) HB3.out.size)).trans ((HB3.out.block _ (qAa HBX2.out)).trans HBX2.out))
 have HL3:=Hh (show w.heap.size<w3.heap.size from zv (qAa HBX2.out) HB3.out.size)
 have HB36:=Hh hb6
 clear q0 q1 q2 q3 q4 hb6
 generalize w3.alloc (.cells #[.string a0,.string a1,.bool a2,.slice A5 m5 cp5] 45)=w6 at *
 have z0:w6.cell? ⟨w.heap.size,0,none⟩=some (.string ⟨#[]⟩):=zK1 w6 _ 0 _ _ _ HBX6.out
 have z1:w6.cell? ⟨w.heap.size,1,none⟩=some (.string ⟨#[]⟩):=zK1 w6 _ 1 _ _ _ HBX6.out
 have z2:w6.cell? ⟨w.heap.size,2,none⟩=some (.bool false):=zK1 w6 _ 2 _ _ _ HBX6.out
 have z3:w6.cell? ⟨w.heap.size,3,none⟩=some (.slice none 0 0):=zK1 w6 _ 3 _ _ _ HBX6.out
 have f0:w6.frozen? ⟨w.heap.size,0,none⟩=false:=qAb HBX6.out 0
 have f1:w6.frozen? ⟨w.heap.size,1,none⟩=false:=qAb HBX6.out 1
 have f2:w6.frozen? ⟨w.heap.size,2,none⟩=false:=qAb HBX6.out 2
 have f3:w6.frozen? ⟨w.heap.size,3,none⟩=false:=qAb HBX6.out 3
 cases hfr:qA6 d.t e.f (.mk k' d' e' ks) [] with
 | error cd =>
  rw [hfr] at HPO HG
  obtain ⟨rfl,hcd⟩:=HPO.out
  rw [qAc p hcd]
  have HEO:=Hh (qAc p hcd)
  have HCD:=Hh hcd
  clear hfr hcd HPO
  go_wp2_with fail
  have HF:=Hh (show ((((w6.setCell ⟨w.heap.size,0,none⟩ (.string ⟨#[]⟩)).setCell ⟨w.heap.size,1,none⟩ (.string ⟨#[]⟩)).setCell ⟨w.heap.size,2,none⟩ (.bool false)).setCell ⟨w.heap.size,3,none⟩ (.slice none 0 0)).heap[w.heap.size]?=some (.cells #[(.string ⟨#[]⟩),(.string ⟨#[]⟩),(.bool false),(.slice none 0 0)] 45 (0,0)) from qAd (qAd (qAd (qAd HBX6.out 0 (.string ⟨#[]⟩)) 1 (.string ⟨#[]⟩)) 2 (.bool false)) 3 (.slice none 0 0))
  have HBF:=Hh ((((HB6.out.setCell (p:=⟨w.heap.size,0,none⟩) (zr _) (.string ⟨#[]⟩)).setCell (p:=⟨w.heap.size,1,none⟩) (zr _) (.string ⟨#[]⟩)).setCell (p:=⟨w.heap.size,2,none⟩) (zr _) (.bool false)).setCell (p:=⟨w.heap.size,3,none⟩) (zr _) (.slice none 0 0))
  clear z0 z1 z2 z3 f0 f1 f2 f3
  generalize (((w6.setCell ⟨w.heap.size,0,none⟩ (.string ⟨#[]⟩)).setCell ⟨w.heap.size,1,none⟩ (.string ⟨#[]⟩)).setCell ⟨w.heap.size,2,none⟩ (.bool false)).setCell ⟨w.heap.size,3,none⟩ (.slice none 0 0)=wz at *
  have r0:wz.cell? ⟨w.heap.size,0,none⟩=some (.string ⟨#[]⟩):=zK1 wz _ 0 _ _ _ HF.out
  have r1:wz.cell? ⟨w.heap.size,1,none⟩=some (.string ⟨#[]⟩):=zK1 wz _ 1 _ _ _ HF.out
  have r2:wz.cell? ⟨w.heap.size,2,none⟩=some (.bool false):=zK1 wz _ 2 _ _ _ HF.out
  have r3:wz.cell? ⟨w.heap.size,3,none⟩=some (.slice none 0 0):=zK1 wz _ 3 _ _ _ HF.out
  refine zI1 (v:=.tuple #[.agg #[(.string ⟨#[]⟩),(.string ⟨#[]⟩),(.bool false),(.slice none 0 0)],(.iface 371 (.pointer (some (p cd))))]) ?_ rfl ⟨HBF.out,?_⟩
  ·simp [results,Tryz.results56,go_sem,r0,r1,r2,r3]
  ·rw [HG.out]
   exact ⟨_,_,_,_,_,_,_,rfl,HEO.out.symm,HCD.out⟩
 | ok y =>
  rw [hfr] at HPO HG
  obtain ⟨rfl,hy⟩:=HPO.out
  have HY:=Hh (NodeP.go HB36.out.size (fun b hb hp=>⟨HB36.out.block b hb,(⟨by
   rcases hp with ⟨h1,h2⟩ | h2
   ·exact ⟨.inl h1,by omega⟩
   ·refine ⟨.inr (zt HB2.out.size h2),?_⟩
    have:=qAa HBX2.out
    omega,hb⟩:((c b=.ro∨w.heap.size≤b)∧b≠w.heap.size)∧b<w3.heap.size)⟩) _ _ hy)
  have n0:w6.cell? ⟨w3.heap.size,0,none⟩=some (.string a0):=zK1 w6 _ 0 _ _ _ HNX6.out
  have n1:w6.cell? ⟨w3.heap.size,1,none⟩=some (.string a1):=zK1 w6 _ 1 _ _ _ HNX6.out
  have n2:w6.cell? ⟨w3.heap.size,2,none⟩=some (.bool a2):=zK1 w6 _ 2 _ _ _ HNX6.out
  have n3:w6.cell? ⟨w3.heap.size,3,none⟩=some (.slice A5 m5 cp5):=zK1 w6 _ 3 _ _ _ HNX6.out
  clear hfr hy HPO
  go_wp2_with fail
  have HF:=Hh (show ((((w6.setCell ⟨w.heap.size,0,none⟩ (.string a0)).setCell ⟨w.heap.size,1,none⟩ (.string a1)).setCell ⟨w.heap.size,2,none⟩ (.bool a2)).setCell ⟨w.heap.size,3,none⟩ (.slice A5 m5 cp5)).heap[w.heap.size]?=some (.cells #[(.string a0),(.string a1),(.bool a2),(.slice A5 m5 cp5)] 45 (0,0)) from qAd (qAd (qAd (qAd HBX6.out 0 (.string a0)) 1 (.string a1)) 2 (.bool a2)) 3 (.slice A5 m5 cp5))
  have HBF:=Hh ((((HB6.out.setCell (p:=⟨w.heap.size,0,none⟩) (zr _) (.string a0)).setCell (p:=⟨w.heap.size,1,none⟩) (zr _) (.string a1)).setCell (p:=⟨w.heap.size,2,none⟩) (zr _) (.bool a2)).setCell (p:=⟨w.heap.size,3,none⟩) (zr _) (.slice A5 m5 cp5))
  have HY2:=Hh (NodeP.set4 (x:=w.heap.size) (u0:=(.string a0)) (u1:=(.string a1)) (u2:=(.bool a2)) (u3:=(.slice A5 m5 cp5)) HY.out (fun b hb=>hb.1.2))
  clear n0 n1 n2 n3
  clear z0 z1 z2 z3 f0 f1 f2 f3
  generalize (((w6.setCell ⟨w.heap.size,0,none⟩ (.string a0)).setCell ⟨w.heap.size,1,none⟩ (.string a1)).setCell ⟨w.heap.size,2,none⟩ (.bool a2)).setCell ⟨w.heap.size,3,none⟩ (.slice A5 m5 cp5)=wz at *
  have r0:wz.cell? ⟨w.heap.size,0,none⟩=some (.string a0):=zK1 wz _ 0 _ _ _ HF.out
  have r1:wz.cell? ⟨w.heap.size,1,none⟩=some (.string a1):=zK1 wz _ 1 _ _ _ HF.out
  have r2:wz.cell? ⟨w.heap.size,2,none⟩=some (.bool a2):=zK1 wz _ 2 _ _ _ HF.out
  have r3:wz.cell? ⟨w.heap.size,3,none⟩=some (.slice A5 m5 cp5):=zK1 wz _ 3 _ _ _ HF.out
  refine zI1 (v:=.tuple #[.agg #[(.string a0),(.string a1),(.bool a2),(.slice A5 m5 cp5)],.nilIface]) ?_ rfl ⟨HBF.out,?_⟩
  ·simp [results,Tryz.results56,go_sem,r0,r1,r2,r3]
  ·rw [HG.out]
   exact ⟨_,_,_,_,_,_,_,rfl,rfl,NodeP.go (zr _) (fun b _ hp=>⟨rfl,hp.1.1⟩) _ _ HY2.out⟩
end
end Go.Proofs.YthogfjmnnaoldaaGreatDoor
