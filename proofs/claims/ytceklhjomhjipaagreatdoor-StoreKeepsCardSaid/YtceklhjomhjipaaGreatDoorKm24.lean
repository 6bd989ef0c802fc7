/- Texts of this claim, merged: DirsGet, DirsCopy. -/
import Derived.Test.YtceklhjomhjipaaGreatDoorKm19
import Derived.Test.YtceklhjomhjipaaGreatDoorKm23
set_option maxHeartbeats 16000000
set_option maxRecDepth 1000000
set_option linter.all false
namespace Go.Proofs.YtceklhjomhjipaaGreatDoor
open Go.RowKit Go.Sort Go.Shelf Stl
structure DirsGood (d:Stl.Dirs):Prop where
 ok:qAN d
 disk:d.t.disk.length≤1000000
 inos:d.t.l.length≤1000000
 next:d.next≤1000000
 ents:d.l.length≤1000000
theorem DirsGood.small {d:Stl.Dirs} (h:DirsGood d) {k:Nat} {e:Ent} (he:qAi d.l k=some e):∀ q∈e.f,q.2≤1000000:=fun q hq=>by
 have hm:=zg he
 have h1:=h.ok.there q.2 (by unfold nums;exact zb.2 ⟨e,hm,ze.2 ⟨q,hq,rfl⟩⟩)
 obtain ⟨x,hx⟩:=zz.1 h1
 have:=qDR hx
 have:=h.inos
 omega
theorem DirsGood.paths {d:Stl.Dirs} (h:DirsGood d) {k:Nat} {e:Ent} (he:qAi d.l k=some e):∀ x∈Stl.flat e.n [] 0,x.path.length≤1000000:=fun x hx=>by
 have:=((items_well (h.ok.well e (zg he))).2 x hx).2
 omega
theorem NodeP.set4 {P:Nat→Prop} {w:World} {n:Nd} {vs:List Value} {x:Nat} {u0 u1 u2 u3:Value} (h:NodeP P w n vs) (hP:∀ b,P b→b≠x):NodeP P ((((w.setCell ⟨x,0,none⟩ u0).setCell ⟨x,1,none⟩ u1).setCell ⟨x,2,none⟩ u2).setCell ⟨x,3,none⟩ u3) n vs :=
 NodeP.go (by simp [World.setCell]) (fun b _ hp=>⟨by
  rw [zA _ ⟨x,3,none⟩ _ b (hP b hp),zA _ ⟨x,2,none⟩ _ b (hP b hp),zA _ ⟨x,1,none⟩ _ b (hP b hp),zA _ ⟨x,0,none⟩ _ b (hP b hp)],hp⟩) n vs h
theorem qJH (w:World):(zeroValue 134).run Tryz.prog w=.ok (.agg #[.string ⟨#[]⟩,.string ⟨#[]⟩,.bool false,.slice none 0 0,.map none]) w:=by kernel_rfl
section
variable {w:World} {c:Nat→Col} {b:Nat} {d:Stl.Dirs} {bt bm:Nat} {nd:Nat→List Value} {fm:Nat→Nat}
theorem DirsIn.below {w2:World} (h:DirsIn w c b d bt bm nd fm) (hb:Below w.heap.size w w2):DirsIn w2 c b d bt bm nd fm:=h.ext (Ext.of_below hb c S0) rfl (fun _ _=>rfl)
theorem DirsAt.below {w2:World} (h:DirsAt w c b d) (hb:Below w.heap.size w w2):DirsAt w2 c b d:=h.ext (Ext.of_below hb c S0) rfl (fun _ _=>rfl)
theorem DirsIn.lookOk (h:DirsIn w c b d bt bm nd fm) {k:Nat} (hk:k≤1000000) {e:Ent} (he:qAi d.l k=some e) :
  (Instr.lookup 87 (.map (some bm)) (.int .i64 k) true).run Tryz.prog w=.ok (.tuple #[.agg (nd k++[Value.map (some (fm k))]).toArray,.bool true]) w:=by
 have hlk:=h.map.getOk (t:=87) okN Tryz.underlying87 (qJH w) (i:=k) (by omega)
 have hs:qA3 d.l nd fm k=some (.agg (nd k++[Value.map (some (fm k))]).toArray):=by unfold qA3;rw [he];rfl
 rw [hs] at hlk
 simpa only [zy,Option.isSome_some,mkN] using hlk
theorem DirsIn.lookNo (h:DirsIn w c b d bt bm nd fm) {k:Nat} (hk:k≤1000000) (he:qAi d.l k=none) :
  (Instr.lookup 87 (.map (some bm)) (.int .i64 k) true).run Tryz.prog w=.ok (.tuple #[.agg #[.string ⟨#[]⟩,.string ⟨#[]⟩,.bool false,.slice none 0 0,.map none],.bool false]) w:=by
 have hlk:=h.map.getOk (t:=87) okN Tryz.underlying87 (qJH w) (i:=k) (by omega)
 have hs:qA3 d.l nd fm k=none:=by unfold qA3;rw [he];rfl
 rw [hs] at hlk
 simpa only [Option.getD_none,Option.isSome_none,mkN] using hlk
theorem DirsIn.ent (h:DirsIn w c b d bt bm nd fm) {k:Nat} {e:Ent} (he:qAi d.l k=some e) :
  ∃ (k' d':List UInt8) (e':Bool) (ks:List (List UInt8×Nd)) (A:Option Addr) (cap:Nat),e.n=.mk k' d' e' ks∧nd k=[.string ⟨k'.toArray⟩,.string ⟨d'.toArray⟩,.bool e',.slice A ks.length cap]∧NodeP (fun b=>c b=.ro) w (.mk k' d' e' ks) [.string ⟨k'.toArray⟩,.string ⟨d'.toArray⟩,.bool e',.slice A ks.length cap]:=by
 have hn:=h.node k e he
 cases hm:e.n with
 | mk k' d' e' ks =>
 unfold RoNode at hn
 rw [hm] at hn
 obtain ⟨A,cap,hv⟩:=hn.open
 rw [hv] at hn
 exact ⟨k',d',e',ks,A,cap,rfl,hv,hn⟩
theorem qB3 (h:DirsIn w c b d bt bm nd fm) :
  Calls Tryz.prog 52 #[.pointer (some ⟨b,0,none⟩)] w fun e w'=>e=.returned (.pointer (some ⟨bt,0,none⟩))∧w'=w:=by
 have c0:=ce0 h.own
 clear h
 go_enter Tryz.func52,Tryz.ntmps52
 go_wp2
 go_ret
 exact ⟨rfl,rfl⟩
theorem Get_no {p:Nat→Addr} (h:DirsAt w c b d) (k:Nat) (hk:k≤1000000) (hE:Errs w p) (he:qAi d.l k=none) :
  Calls Tryz.prog 56 #[.pointer (some ⟨b,0,none⟩),.int .i64 k] w fun ev w'=>Below w.heap.size w w'∧qDu p (fun b=>c b=.ro) w (d.get k) ev w':=by
 obtain ⟨bt,bm,nd,fm,h⟩:=h
 have hb1:Below w.heap.size w (w.alloc (.cells #[.string ⟨#[]⟩,.string ⟨#[]⟩,.bool false,.slice none 0 0] 114)):=(zB _ w).alloc (zq _) _
 have hlk:=(h.below hb1).lookNo hk he
 have c1:=ce1 (h.below hb1).own
 have HG:=Hh (show d.get k=.error 6 by unfold Dirs.get;rw [he])
 have hg:=((hE.later hb1).cell 6 (by omega) (by omega))
 have HGL:=Hh (lt_of_cell (hE.cell 6 (by omega) (by omega)))
 have HE6:=Hh (qAc p (c:=6) (by omega))
 rw [HE6.out] at hg
 have HBX:=Hh (zK1 w (.cells #[.string ⟨#[]⟩,.string ⟨#[]⟩,.bool false,.slice none 0 0] 114))
 have HB1:=Hh hb1
 clear h he hb1 hE
 go_enter Tryz.func56,Tryz.ntmps56
 go_upto_region 3 with fail
 have hb2:Below (w.alloc (.cells #[.string ⟨#[]⟩,.string ⟨#[]⟩,.bool false,.slice none 0 0] 114)).heap.size (w.alloc (.cells #[.string ⟨#[]⟩,.string ⟨#[]⟩,.bool false,.slice none 0 0] 114)) ((w.alloc (.cells #[.string ⟨#[]⟩,.string ⟨#[]⟩,.bool false,.slice none 0 0] 114)).alloc (.cells #[.string ⟨#[]⟩,.string ⟨#[]⟩,.bool false,.slice none 0 0,.map none] 134)):=(zB _ _).alloc (zq _) _
 have hg2:=(hb2.cell (p:=⟨qCq 6,0,none⟩) (lt_of_cell hg)).trans hg
 have HBX2:=Hh ((hb2.block _ (qAa HBX.out)).trans HBX.out)
 have HB2:=Hh (HB1.out.trans (hb2.mono HB1.out.size))
 have hgne:w.heap.size≠7:=by have:=HGL.out;simp [qCq] at this;omega
 have hgne':7≠w.heap.size:=hgne.symm
 clear hb2 hg hlk c1
 generalize (w.alloc (.cells #[.string ⟨#[]⟩,.string ⟨#[]⟩,.bool false,.slice none 0 0] 114)).alloc (.cells #[.string ⟨#[]⟩,.string ⟨#[]⟩,.bool false,.slice none 0 0,.map none] 134)=w2 at *
 have hg3:w2.cell? ⟨7,0,none⟩=some (.iface 377 (.pointer (some (p 6)))):=hg2
 have z0:=ce0 HBX2.out
 have z1:=ce1 HBX2.out
 have z2:=ce2 HBX2.out
 have z3:=ce3 HBX2.out
 have f0:w2.frozen? ⟨w.heap.size,0,none⟩=false:=qAb HBX2.out 0
 have f1:w2.frozen? ⟨w.heap.size,1,none⟩=false:=qAb HBX2.out 1
 have f2:w2.frozen? ⟨w.heap.size,2,none⟩=false:=qAb HBX2.out 2
 have f3:w2.frozen? ⟨w.heap.size,3,none⟩=false:=qAb HBX2.out 3
 go_region
 have HF:=Hh (show ((((w2.setCell ⟨w.heap.size,0,none⟩ (.string ⟨#[]⟩)).setCell ⟨w.heap.size,1,none⟩ (.string ⟨#[]⟩)).setCell ⟨w.heap.size,2,none⟩ (.bool false)).setCell ⟨w.heap.size,3,none⟩ (.slice none 0 0)).drew.heap[w.heap.size]?=some (.cells #[.string ⟨#[]⟩,.string ⟨#[]⟩,.bool false,.slice none 0 0] 114 (0,0)) from qAd (qAd (qAd (qAd HBX2.out 0 (.string ⟨#[]⟩)) 1 (.string ⟨#[]⟩)) 2 (.bool false)) 3 (.slice none 0 0))
 have HBF:=Hh (((((HB2.out.setCell (p:=⟨w.heap.size,0,none⟩) (zq _) (.string ⟨#[]⟩)).setCell (p:=⟨w.heap.size,1,none⟩) (zq _) (.string ⟨#[]⟩)).setCell (p:=⟨w.heap.size,2,none⟩) (zq _) (.bool false)).setCell (p:=⟨w.heap.size,3,none⟩) (zq _) (.slice none 0 0)).drew)
 clear z0 z1 z2 z3 f0 f1 f2 f3 hgne hgne' hg3 hg2
 go_wp2_with fail
 generalize ((((w2.setCell ⟨w.heap.size,0,none⟩ (.string ⟨#[]⟩)).setCell ⟨w.heap.size,1,none⟩ (.string ⟨#[]⟩)).setCell ⟨w.heap.size,2,none⟩ (.bool false)).setCell ⟨w.heap.size,3,none⟩ (.slice none 0 0)).drew=w9 at *
 have r0:=ce0 HF.out
 have r1:=ce1 HF.out
 have r2:=ce2 HF.out
 have r3:=ce3 HF.out
 refine zH1 (v:=.tuple #[.agg #[.string ⟨#[]⟩,.string ⟨#[]⟩,.bool false,.slice none 0 0],.iface 377 (.pointer (some (p 6)))]) ?_ rfl ⟨HBF.out,?_⟩
 ·simp [results,Tryz.results56,go_sem,r0,r1,r2,r3]
 ·rw [HG.out]
  exact ⟨_,_,_,_,_,_,_,rfl,HE6.out.symm,by decide⟩
def qQD (r:Except Nat Nd) (ev:Ending):Prop:=∀ cd,r=.error cd→∃ er,ev=.returned (.tuple #[.agg #[.string ⟨#[]⟩,.string ⟨#[]⟩,.bool false,.slice none 0 0],er])
theorem qKu {p:Nat→Addr} (h:DirsAt w c b d) (hd:DirsGood d) (k:Nat) (hk:k≤1000000) (hE:Errs w p) {e:Ent} (he:qAi d.l k=some e) :
  Calls Tryz.prog 56 #[.pointer (some ⟨b,0,none⟩),.int .i64 k] w fun ev w'=>Below w.heap.size w w'∧qDu p (fun b=>c b=.ro) w (d.get k) ev w'∧qQD (d.get k) ev:=by
 obtain ⟨bt,bm,nd,fm,h⟩:=h
 obtain ⟨k',d',e',ks,A,cap,hn,hnd,hnp⟩:=h.ent he
 have hb1:Below w.heap.size w (w.alloc (.cells #[.string ⟨#[]⟩,.string ⟨#[]⟩,.bool false,.slice none 0 0] 114)):=(zB _ w).alloc (zq _) _
 have hlk:=(h.below hb1).lookOk hk he
 rw [hnd] at hlk
 simp only [zE,zi] at hlk
 have c1:=ce1 (h.below hb1).own
 have HG:=Hh (show d.get k=qBo d.t e.f (.mk k' d' e' ks) [] by unfold Dirs.get;rw [he];simp only;rw [hn])
 have HBX:=Hh (zK1 w (.cells #[.string ⟨#[]⟩,.string ⟨#[]⟩,.bool false,.slice none 0 0] 114))
 have hb2:Below w.heap.size w ((w.alloc (.cells #[.string ⟨#[]⟩,.string ⟨#[]⟩,.bool false,.slice none 0 0] 114)).alloc (.cells #[.string ⟨k'.toArray⟩,.string ⟨d'.toArray⟩,.bool e',.slice A ks.length cap,.map (some (fm k))] 134)):=hb1.alloc (by simp) _
 have HBX2:=Hh (qAj (w.alloc (.cells #[.string ⟨#[]⟩,.string ⟨#[]⟩,.bool false,.slice none 0 0] 114)) (.cells #[.string ⟨k'.toArray⟩,.string ⟨d'.toArray⟩,.bool e',.slice A ks.length cap,.map (some (fm k))] 134) HBX.out)
 have HEX2:=Hh (show ((w.alloc (.cells #[.string ⟨#[]⟩,.string ⟨#[]⟩,.bool false,.slice none 0 0] 114)).alloc (.cells #[.string ⟨k'.toArray⟩,.string ⟨d'.toArray⟩,.bool e',.slice A ks.length cap,.map (some (fm k))] 134)).heap[w.heap.size+1]?=some (.cells #[.string ⟨k'.toArray⟩,.string ⟨d'.toArray⟩,.bool e',.slice A ks.length cap,.map (some (fm k))] 134 (0,0)) from by
  have:=zK1 (w.alloc (.cells #[.string ⟨#[]⟩,.string ⟨#[]⟩,.bool false,.slice none 0 0] 114)) (.cells #[.string ⟨k'.toArray⟩,.string ⟨d'.toArray⟩,.bool e',.slice A ks.length cap,.map (some (fm k))] 134)
  simpa using this)
 have HB2:=Hh hb2
 have HPA:=Hh (hn▸hd.paths he)
 have HFL:=Hh (show FillEnv w c b bt (fm k) d.t e.f p from ⟨zJ1 w b 0 _ _ _ h.own,h.tab,hd.ok.tab,hd.disk,h.files k e he,hd.small he,hE⟩)
 have HNP:=Hh hnp
 clear h he hb1 hE hnd hn hnp hd hb2
 generalize d.get k=res at HG ⊢
 go_enter Tryz.func56,Tryz.ntmps56
 go_upto_region 4 with fail
 clear hlk c1
 generalize (w.alloc (.cells #[.string ⟨#[]⟩,.string ⟨#[]⟩,.bool false,.slice none 0 0] 114)).alloc (.cells #[.string ⟨k'.toArray⟩,.string ⟨d'.toArray⟩,.bool e',.slice A ks.length cap,.map (some (fm k))] 134)=w2 at *
 have q0:=ce0 HEX2.out
 have q1:=ce1 HEX2.out
 have q2:=ce2 HEX2.out
 have q3:=ce3 HEX2.out
 have q4:=ce4 HEX2.out
 have HNP2:=Hh (NodeP.go HB2.out.size (fun b hb hp=>⟨HB2.out.block b hb,(⟨hp,hb⟩:c b=.ro∧b<w.heap.size)⟩) _ _ HNP.out)
 have HFI:=Hh (qGR c b bt (fm k) d.t e.f p ⟨k'.toArray⟩ ⟨d'.toArray⟩ e' A ks.length cap (Stl.wt (.mk k' d' e' ks)) (.mk k' d' e' ks) _ _ [] 0 w2 (zq _) HNP2.out HPA.out (.inl rfl) (HFL.out.below HB2.out))
 go_upto_region 5 with (go_at_call 104;refine HFI.out.mono ?_;rintro ev w3 ⟨hb3,a0,a1,a2,A5,m5,cp5,er,rfl,hpost⟩;have HPO:=Hh hpost;have HB3:=Hh hb3;clear hpost hb3)
 have HB6:=Hh ((HB2.out.trans (HB3.out.mono HB2.out.size)).alloc (HB2.out.trans (HB3.out.mono HB2.out.size)).size (.cells #[.string a0,.string a1,.bool a2,.slice A5 m5 cp5] 114))
 have hb6:=(zB w3.heap.size w3).alloc (zq _) (.cells #[.string a0,.string a1,.bool a2,.slice A5 m5 cp5] 114)
 have HNX6:=Hh (zK1 w3 (.cells #[.string a0,.string a1,.bool a2,.slice A5 m5 cp5] 114))
 have HBX6:=Hh ((hb6.block _ (zu (qAa HBX2.out) HB3.out.size)).trans ((HB3.out.block _ (qAa HBX2.out)).trans HBX2.out))
 have HL3:=Hh (show w.heap.size<w3.heap.size from zu (qAa HBX2.out) HB3.out.size)
 have HB36:=Hh hb6
 clear q0 q1 q2 q3 q4 hb6
 generalize w3.alloc (.cells #[.string a0,.string a1,.bool a2,.slice A5 m5 cp5] 114)=w6 at *
 have z0:=ce0 HBX6.out
 have z1:=ce1 HBX6.out
 have z2:=ce2 HBX6.out
 have z3:=ce3 HBX6.out
 have f0:w6.frozen? ⟨w.heap.size,0,none⟩=false:=qAb HBX6.out 0
 have f1:w6.frozen? ⟨w.heap.size,1,none⟩=false:=qAb HBX6.out 1
 have f2:w6.frozen? ⟨w.heap.size,2,none⟩=false:=qAb HBX6.out 2
 have f3:w6.frozen? ⟨w.heap.size,3,none⟩=false:=qAb HBX6.out 3
 cases hfr:qBo d.t e.f (.mk k' d' e' ks) [] with
 | error cd =>
  rw [hfr] at HPO HG
  obtain ⟨rfl,hcd⟩:=HPO.out
  rw [qAc p hcd]
  have HEO:=Hh (qAc p hcd)
  have HCD:=Hh hcd
  clear hfr hcd HPO
  go_wp2_with fail
  have HF:=Hh (show ((((w6.setCell ⟨w.heap.size,0,none⟩ (.string ⟨#[]⟩)).setCell ⟨w.heap.size,1,none⟩ (.string ⟨#[]⟩)).setCell ⟨w.heap.size,2,none⟩ (.bool false)).setCell ⟨w.heap.size,3,none⟩ (.slice none 0 0)).heap[w.heap.size]?=some (.cells #[(.string ⟨#[]⟩),(.string ⟨#[]⟩),(.bool false),(.slice none 0 0)] 114 (0,0)) from qAd (qAd (qAd (qAd HBX6.out 0 (.string ⟨#[]⟩)) 1 (.string ⟨#[]⟩)) 2 (.bool false)) 3 (.slice none 0 0))
  have HBF:=Hh ((((HB6.out.setCell (p:=⟨w.heap.size,0,none⟩) (zq _) (.string ⟨#[]⟩)).setCell (p:=⟨w.heap.size,1,none⟩) (zq _) (.string ⟨#[]⟩)).setCell (p:=⟨w.heap.size,2,none⟩) (zq _) (.bool false)).setCell (p:=⟨w.heap.size,3,none⟩) (zq _) (.slice none 0 0))
  clear z0 z1 z2 z3 f0 f1 f2 f3
  generalize (((w6.setCell ⟨w.heap.size,0,none⟩ (.string ⟨#[]⟩)).setCell ⟨w.heap.size,1,none⟩ (.string ⟨#[]⟩)).setCell ⟨w.heap.size,2,none⟩ (.bool false)).setCell ⟨w.heap.size,3,none⟩ (.slice none 0 0)=wz at *
  have r0:=ce0 HF.out
  have r1:=ce1 HF.out
  have r2:=ce2 HF.out
  have r3:=ce3 HF.out
  refine zH1 (v:=.tuple #[.agg #[(.string ⟨#[]⟩),(.string ⟨#[]⟩),(.bool false),(.slice none 0 0)],(.iface 377 (.pointer (some (p cd))))]) ?_ rfl ⟨HBF.out,?_⟩
  ·simp [results,Tryz.results56,go_sem,r0,r1,r2,r3]
  ·rw [HG.out]
   exact ⟨⟨_,_,_,_,_,_,_,rfl,HEO.out.symm,HCD.out⟩,fun _ _=>⟨_,rfl⟩⟩
 | ok y =>
  rw [hfr] at HPO HG
  obtain ⟨rfl,hy⟩:=HPO.out
  have HY:=Hh (NodeP.go HB36.out.size (fun b hb hp=>⟨HB36.out.block b hb,(⟨by
   rcases hp with ⟨h1,h2⟩ | h2
   ·exact ⟨.inl h1,by omega⟩
   ·refine ⟨.inr (zr HB2.out.size h2),?_⟩
    have:=qAa HBX2.out
    omega,hb⟩:((c b=.ro∨w.heap.size≤b)∧b≠w.heap.size)∧b<w3.heap.size)⟩) _ _ hy)
  have n0:=ce0 HNX6.out
  have n1:=ce1 HNX6.out
  have n2:=ce2 HNX6.out
  have n3:=ce3 HNX6.out
  clear hfr hy HPO
  go_wp2_with fail
  have HF:=Hh (show ((((w6.setCell ⟨w.heap.size,0,none⟩ (.string a0)).setCell ⟨w.heap.size,1,none⟩ (.string a1)).setCell ⟨w.heap.size,2,none⟩ (.bool a2)).setCell ⟨w.heap.size,3,none⟩ (.slice A5 m5 cp5)).heap[w.heap.size]?=some (.cells #[(.string a0),(.string a1),(.bool a2),(.slice A5 m5 cp5)] 114 (0,0)) from qAd (qAd (qAd (qAd HBX6.out 0 (.string a0)) 1 (.string a1)) 2 (.bool a2)) 3 (.slice A5 m5 cp5))
  have HBF:=Hh ((((HB6.out.setCell (p:=⟨w.heap.size,0,none⟩) (zq _) (.string a0)).setCell (p:=⟨w.heap.size,1,none⟩) (zq _) (.string a1)).setCell (p:=⟨w.heap.size,2,none⟩) (zq _) (.bool a2)).setCell (p:=⟨w.heap.size,3,none⟩) (zq _) (.slice A5 m5 cp5))
  have HY2:=Hh (NodeP.set4 (x:=w.heap.size) (u0:=(.string a0)) (u1:=(.string a1)) (u2:=(.bool a2)) (u3:=(.slice A5 m5 cp5)) HY.out (fun b hb=>hb.1.2))
  clear n0 n1 n2 n3
  clear z0 z1 z2 z3 f0 f1 f2 f3
  generalize (((w6.setCell ⟨w.heap.size,0,none⟩ (.string a0)).setCell ⟨w.heap.size,1,none⟩ (.string a1)).setCell ⟨w.heap.size,2,none⟩ (.bool a2)).setCell ⟨w.heap.size,3,none⟩ (.slice A5 m5 cp5)=wz at *
  have r0:=ce0 HF.out
  have r1:=ce1 HF.out
  have r2:=ce2 HF.out
  have r3:=ce3 HF.out
  refine zH1 (v:=.tuple #[.agg #[(.string a0),(.string a1),(.bool a2),(.slice A5 m5 cp5)],.nilIface]) ?_ rfl ⟨HBF.out,?_⟩
  ·simp [results,Tryz.results56,go_sem,r0,r1,r2,r3]
  ·rw [HG.out]
   exact ⟨⟨_,_,_,_,_,_,_,rfl,rfl,NodeP.go (zq _) (fun b _ hp=>⟨rfl,hp.1.1⟩) _ _ HY2.out⟩,fun _ h=>by cases h⟩
theorem qRf {p:Nat→Addr} (h:DirsAt w c b d) (hd:DirsGood d) (k:Nat) (hk:k≤1000000) (hE:Errs w p) {e:Ent} (he:qAi d.l k=some e) :
  Calls Tryz.prog 56 #[.pointer (some ⟨b,0,none⟩),.int .i64 k] w fun ev w'=>Below w.heap.size w w'∧qDu p (fun b=>c b=.ro) w (d.get k) ev w' :=
 (qKu h hd k hk hE he).mono fun _ _ h=>⟨h.1,h.2.1⟩
end
end Go.Proofs.YtceklhjomhjipaaGreatDoor
namespace Go.Proofs.YtceklhjomhjipaaGreatDoor
open Go.RowKit Go.Maps Go.Sort Go.Shelf Stl
def DcIn (w:World) (k0:Nat→Col) (d:Stl.Dirs) (wx:World) (b' bt' bm':Nat) (c3:Nat→Col):Prop :=
 Below w.heap.size w wx∧(∀ k,k<w.heap.size→c3 k=k0 k)∧w.heap.size≤b'∧w.heap.size≤bm'∧wx.heap[b']?=some (.cells #[.pointer (some ⟨bt',0,none⟩),.map (some bm'),.int .i64 d.next] 89 (0,0))∧c3 b'=.dirs∧TabAt wx c3 bt' d.t∧wx.heap[bm']?=some (.map #[] 0)∧c3 bm'=.dirsMap
theorem qPO {w:World} {d:Stl.Dirs} {w3:World} {c3 k0:Nat→Col} {bt' bm':Nat} (hB:Below w.heap.size w w3) (hcc:∀ k,k<w.heap.size→c3 k=k0 k) (ht:TabAt w3 c3 bt' d.t) (hm:w3.heap[bm']?=some (.map #[] 0)) (hmc:c3 bm'=.dirsMap) (hbm:w.heap.size≤bm') :
  DcIn w k0 d (w3.alloc (.cells #[.pointer (some ⟨bt',0,none⟩),.map (some bm'),.int .i64 d.next] 89)) w3.heap.size bt' bm' (qAs c3 w3.heap.size .dirs):=by
 have e:=Ext.made w3 c3 S0 (.cells #[.pointer (some ⟨bt',0,none⟩),.map (some bm'),.int .i64 d.next] 89) .dirs
 refine ⟨hB.alloc hB.size _,fun k hk=>?_,hB.size,hbm,zK1 w3 _,qAm _ _ _,ht.ext e rfl (fun _ _=>rfl),(e.kept hm hmc rfl).1,(e.kept hm hmc rfl).2⟩
 rw [qAf hk hB.size]
 exact hcc k hk
theorem qLx {α:Type} {P:Program} {k:TypeId} {key:α→Lit} {w:World} {b n:Nat} {f:α→Option Value} (h:Stl.zzMapAt P k key w b n f):∃ es clock,w.heap[b]?=some (.map es clock)∧∀ w2 b2,w2.heap[b2]?=some (.map es clock)→Stl.zzMapAt P k key w2 b2 n f:=by
 obtain ⟨D,⟨es,clock,h1,h2⟩,h3⟩:=h
 exact ⟨es,clock,h1,fun w2 b2 hb=>⟨D,⟨es,clock,hb,h2⟩,h3⟩⟩
structure DcSt (w w4 wr:World) (k0 c4 cr:Nat→Col) (d:Stl.Dirs) (nd:Nat→List Value) (fm:Nat→Nat) (bm bm' r:Nat) (left:Nat→Bool) (cnt:Nat) (fm':Nat→Nat):Prop where
 below:Below w.heap.size w wr
 ext:Ext w4 wr c4 cr (fun y=>decide (y=.dirsMap)||decide (y=.free))
 range:RangeAt Tryz.prog 3 qKE wr bm r d.l.length (qA3 d.l nd fm) left cnt
 map:qDf wr bm' d.l.length (fun k=>if left k=false then qA3 d.l nd fm' k else none)
 fcol:∀ k e,qAi d.l k=some e→left k=false→cr (fm' k)=.files k
 files:∀ k e,qAi d.l k=some e→left k=false→qBj wr (fm' k) e.f.length (fileAt e.f)
 mcol:cr bm'=.dirsMap
 rcol:cr r=.free
 old:∀ k,k<w.heap.size→cr k=k0 k
theorem qCW {l:List Ent} {nd:Nat→List Value} {fm:Nat→Nat} {k:Nat} (h:(qA3 l nd fm k).isSome=true):∃ e,qAi l k=some e:=by
 unfold qA3 at h
 cases hx:qAi l k with
 | none=>rw [hx] at h;cases h
 | some e=>exact ⟨e,rfl⟩
section
variable {w:World} {c:Nat→Col} {b:Nat} {d:Stl.Dirs}
theorem qJj (k0:Nat→Col) (hro:∀ k,c k=.ro→k0 k=.ro) (h:DirsAt w c b d) (hd:DirsGood d) :
  Calls Tryz.prog 32 #[.pointer (some ⟨b,0,none⟩)] w fun e w'=>∃ b2 c2,e=.returned (.pointer (some ⟨b2,0,none⟩))∧Below w.heap.size w w'∧(∀ k,k<w.heap.size→c2 k=k0 k)∧w.heap.size≤b2∧DirsAt w' c2 b2 d:=by
 obtain ⟨bt,bm,nd,fm,h⟩:=h
 have H:=Hh h
 have HD:=Hh hd
 have c0:=ce0 h.own
 have c2:=ce2 h.own
 have hbl:=lt_of_cell c0
 have hmm:=@run_makeMap Tryz.prog
 have HRO:=Hh hro
 have hx:Ext w w c (fun k=>if k<w.heap.size then c k else .free) S0:=(Ext.refl w c S0).recolor (fun k hk _=>zM1 hk)
 have HT:=Hh (h.tab.ext hx rfl (fun _ _=>rfl))
 have hro2:∀ k,(if k<w.heap.size then c k else Col.free)=.ro→(if k<w.heap.size then k0 k else Col.dirsMap)=.ro:=fun k hk=>by
  by_cases h1:k<w.heap.size
  ·rw [zM1 h1] at hk ⊢
   exact HRO.out k hk
  ·rw [zL1 h1] at hk
   cases hk
 have HRO2:=Hh hro2
 clear h hro hd hx hro2
 go_enter Tryz.func32,Tryz.ntmps32
 go_upto_region 1 with fail
 go_cut [3] (fun s wx=>∃ (b' bt' bm':Nat) (c3:Nat→Col),s=.pointer (some ⟨b',0,none⟩)∧Hid (DcIn w k0 d wx b' bt' bm' c3))
 case first =>
  go_region_held3 (fun w'=>w'.cell? ⟨b,0,none⟩=some (.pointer (some ⟨bt,0,none⟩))∧w'.cell? ⟨b,2,none⟩=some (.int .i64 d.next))
   (first
    | exact ⟨c0,c2⟩
    | exact ⟨c0',c2'⟩
    | go_keep)
   (first
    | (go_at_call 64;refine (qJV (fun k=>if k<w.heap.size then k0 k else .dirsMap) HRO2.out (HT.out.ext (Ext.of_below (by go_grown) _ S0) rfl (fun _ _=>rfl)) HD.out.disk HD.out.inos).mono ?_;rintro ev w2 ⟨bt2,c3,rfl,hb2,hc3,hbt2,ht2⟩;have hb2':Below w.heap.size w w2:=(by refine Below.trans ?_ (hb2.mono ?_)<;>first | go_grown | (simp;done) | (simp;omega));have c0':=(hb2'.cell (p:=⟨b,0,none⟩) hbl).trans c0;have c2':=(hb2'.cell (p:=⟨b,2,none⟩) hbl).trans c2)
    | fail)
  ·have hs2:=hb2'.size
   have hz:w.drew.heap.size=w.heap.size:=rfl
   have e3:=Ext.made w2 c3 S0 (.map #[] 0) .dirsMap
   have hf:=qPO (w:=w) (d:=d) (k0:=k0) (hb2'.alloc hs2 (.map #[] 0)) (fun k hk=>by rw [qAf hk hs2,hc3 k (by omega),zM1 hk]) (ht2.ext e3 rfl (fun _ _=>rfl)) (zK1 w2 _) (qAm _ _ _) hs2
   clear c0 c2 c0' c2'
   go_wp2
   go_meet
   case rel=>exact ⟨_,_,_,_,by simp,Hh hf⟩
  ·have hs2:=hb2'.size
   have hz:(w.alloc (.map #[] 0)).drew.heap.size=w.heap.size+1:=by simp
   have hf:=qPO (w:=w) (d:=d) (k0:=k0) (bm':=w.heap.size) hb2' (fun k hk=>by rw [hc3 k (by omega),zM1 hk]) ht2 ((hb2.block _ (by omega)).trans (zK1 w _)) (by rw [hc3 _ (by omega),zL1 (by omega)]) (zq _)
   clear c0 c2 c0' c2'
   go_wp2
   go_meet
   case rel=>exact ⟨_,_,_,_,rfl,Hh hf⟩
 case rest =>
  obtain ⟨b',bt',bm',c3,rfl,HC⟩:=hcut
  obtain ⟨hB,hcc,hb',hbm',hown,hcb,ht3,hm3,hmc⟩:=HC.out
  have c1:wc.cell? ⟨b,1,none⟩=some (.map (some bm)):=(hB.cell (p:=⟨b,1,none⟩) hbl).trans (zJ1 w b 1 _ _ _ H.out.own)
  have HM:=Hh (H.out.map.of_block (hB.block _ H.out.map.lt))
  have HB:=Hh hB
  have HNM:=Hh (show qDf wc bm' 0 (fun _=>none) from ⟨.map [],⟨#[],0,hm3,⟨by simp,MapKept.stamped_empty 0,by simp⟩,zq _,rfl⟩,MapIs.empty⟩)
  have hblt:=H.out.map.lt
  clear c0 c2 hB hcc hown hcb ht3 hm3
  go_wp2_with (at_range;refine qB2 rfl _ 87 134 rfl okN Tryz.underlying87 rfl HM.out ?_;intro w4 cnt hrg hgr hsz)
  have HR:=Hh hrg
  have hB4:=Hh (HB.out.grown hgr HB.out.size (fun k hk=>by cases hk))
  have he4:=((Ext.refl wc c3 S0).grown hgr (fun k hk=>by cases hk)).recolor (c3:=qAs c3 wc.heap.size .free) (fun k hk _=>qAf hk (zq _))
  have HE4:=Hh he4
  have hr0:=HB.out.size
  have hbmlt:bm'<wc.heap.size:=HNM.out.lt
  have HL0:=Hh (show ∀ k,(qA3 d.l nd fm k).isSome=false→qA3 d.l nd fm k=none from fun k h=>by simpa using h)
  have H0:=Hh (show DcSt w w4 w4 k0 (qAs c3 wc.heap.size .free) (qAs c3 wc.heap.size .free) d nd fm bm bm' wc.heap.size (fun x=>(qA3 d.l nd fm x).isSome) cnt fm from
   ⟨hB4.out,Ext.refl _ _ _,HR.out,(((HNM.out.ext he4 hmc rfl).mono (zx _)).congr (fun k=>by
    by_cases h:(qA3 d.l nd fm k).isSome=false
    ·rw [zM1 h];exact HL0.out k h
    ·rw [zL1 h])),fun k x hx hl=>(by unfold qA3 at hl;rw [hx] at hl;cases hl),fun k x hx hl=>(by unfold qA3 at hl;rw [hx] at hl;cases hl),by rw [qAf hbmlt (zq _)];exact hmc,qAm _ _ _,fun k hk=>(by rw [qAf hk hr0];exact HC.out.2.1 k hk)⟩)
  have HOK:=Hh (show ∀ x:Nat,(qA3 d.l nd fm x).isSome=true→x≤4611686018427387904 from fun x hx=>by
   obtain ⟨e,he⟩:=qCW hx
   have h1:=HD.out.ok.next e (qA5 he).1
   have h3:=(qA5 he).2
   have h2:=HD.out.next
   omega)
  clear hrg hgr he4 c1
  generalize hr:wc.heap.size=r at *
  go_simp
  go_loopw [23] (fun _ wr=>∃ (left:Nat→Bool) (cn:Nat) (cr:Nat→Col) (fm':Nat→Nat),Hid (DcSt w w4 wr k0 (qAs c3 r .free) cr d nd fm bm bm' r left cn fm')) (fun _ wr=>wr.rangeLeft bm r)
  case atStart=>exact ⟨_,_,_,_,H0⟩
  case round =>
   obtain ⟨left,cn,cr,fm',HS⟩:=hrel
   have hm0:=HS.out.range.left_eq
   go_wp2_with (at_next;refine qCe rfl _ rfl okN HOK.out rfl HS.out.range ?_ ?_)
   case _ =>
    intro hdone
    have HDN:=Hh hdone
    clear hdone
    go_wp2
    go_ret
    obtain ⟨_,hcc,hb',_,hown,hcb,ht3,_,hmc⟩:=HC.out
    have e:=(HE4.out.mono (S':=fun y=>decide (y=.dirsMap)||decide (y=.free)) (fun _ _=>rfl)).trans HS.out.ext
    refine ⟨b',cr,rfl,HS.out.below,HS.out.old,hb',bt',bm',nd,fm',(e.kept hown hcb rfl).1,(e.kept hown hcb rfl).2,ht3.ext e rfl (fun x hx=>by cases x<;>first | rfl | (cases hx)),HS.out.mcol,HS.out.map.congr (fun k=>by rw [zM1 (HDN.out k)]),fun k e he=>?_,fun k e he=>HS.out.fcol k e he (HDN.out k),fun k e he=>HS.out.files k e he (HDN.out k)⟩
    exact NodeP.go HS.out.below.size (fun b hb hc=>⟨HS.out.below.block b hb,by rw [HS.out.old b hb];exact HRO.out b hc⟩) _ _ (H.out.node k e he)
   case _ =>
    intro x v w5 cnt' hlx hfx hrg5 hlt hgr5 hsz5 hen
    obtain ⟨e,he⟩:=qCW (by rw [hfx];rfl)
    obtain ⟨k',d',e',ks,A,cap,hn,hnd,hnp⟩:=H.out.ent he
    have hv:v=.agg #[.string ⟨k'.toArray⟩,.string ⟨d'.toArray⟩,.bool e',.slice A ks.length cap,.map (some (fm x))]:=by
     unfold qA3 at hfx
     rw [he,hnd] at hfx
     exact (Option.some.inj hfx).symm
    subst hv
    have HLX:=Hh hlx
    have HR5:=Hh hrg5
    have HG5:=Hh hgr5
    have HLT:=Hh hlt
    have HEN:=Hh he
    have HND:=Hh hnd
    have HFX:=Hh hfx
    simp only [mkN] at hen
    clear hlx hrg5 hgr5 hlt hfx he hn hnd hnp
    go_upto_region 5 with fail
    have hw0:=HS.out.below.size
    have hsz0:=HS.out.ext.size
    have hfl:fm x<w.heap.size:=(H.out.files x e HEN.out).lt
    have hbl6:bm'<wr.heap.size:=HS.out.map.lt
    have hrlt:r<wr.heap.size:=HS.out.range.lt
    have hown6:=((HE4.out.mono (S':=fun y=>decide (y=.dirsMap)||decide (y=.free)) (fun _ _=>rfl)).trans HS.out.ext).kept HC.out.2.2.2.2.1 HC.out.2.2.2.2.2.1 rfl
    obtain ⟨es,clock,hes,htw⟩:=qLx (H.out.files x e HEN.out)
    have HTW:=Hh htw
    have HB5:=Hh (HS.out.below.grown HG5.out HS.out.below.size (fun k hk=>by injection hk with hk;omega))
    obtain ⟨W6,hW6⟩:∃ W6,W6=w5.alloc (.cells #[.string ⟨k'.toArray⟩,.string ⟨d'.toArray⟩,.bool e',.slice A ks.length cap,.map (some (fm x))] 134):=⟨_,rfl⟩
    have hb6:Below w5.heap.size w5 W6:=by rw [hW6];exact (zB _ w5).alloc (zq _) _
    have hs6:W6.heap.size=wr.heap.size+1:=by rw [hW6];simp;omega
    have HX6:=Hh (show W6.heap[wr.heap.size]?=some (.cells #[.string ⟨k'.toArray⟩,.string ⟨d'.toArray⟩,.bool e',.slice A ks.length cap,.map (some (fm x))] 134 (0,0)) from by rw [hW6,← hsz5];exact zK1 w5 _)
    have HES:=Hh (show W6.drew.heap[fm x]?=some (.map es clock) from (hb6.block _ (by omega)).trans ((HB5.out.block _ hfl).trans hes))
    obtain ⟨W7,hW7⟩:∃ W7,W7=(W6.alloc (.map es clock)).drew:=⟨_,rfl⟩
    have hb7:Below W6.heap.size W6 W7:=by rw [hW7];exact ((zB _ W6).alloc (zq _) _).drew
    have hs7:W7.heap.size=wr.heap.size+2:=by rw [hW7];simp;omega
    have HX7:=Hh (show W7.heap[wr.heap.size+1]?=some (.map es clock) from by rw [hW7,← hs6];exact zK1 W6 _)
    have HB57:=Hh (hb6.trans (hb7.mono hb6.size))
    have F7:Ext wr W7 cr (qAs (qAs cr wr.heap.size .free) (wr.heap.size+1) (.files x)) (S1 .free):=(((Ext.refl wr cr (S1 .free)).grown HG5.out (fun k hk _=>by injection hk with hk;subst hk;rw [HS.out.rcol];rfl)).trans (Ext.of_below HB57.out cr (S1 .free))).recolor (fun k hk _=>by rw [qAf hk (by omega),qAf hk (zq _)])
    obtain ⟨c7,hc7⟩:∃ c7,c7=qAs (qAs cr wr.heap.size .free) (wr.heap.size+1) (.files x):=⟨_,rfl⟩
    have hc7o:∀ k,k<wr.heap.size→c7 k=cr k:=fun k hk=>by rw [hc7,qAf hk (by omega),qAf hk (zq _)]
    have hc7n:c7 (wr.heap.size+1)=.files x:=by rw [hc7,qAm]
    rw [← hc7] at F7
    have HM7:=HS.out.map.ext F7 HS.out.mcol rfl
    obtain ⟨W8,hput,hmap,hturn⟩:=HM7.put okN Tryz.underlying87 (by have:=HD.out.ents;unfold maxLen;omega) (i:=x) (HOK.out x (by rw [HFX.out];rfl)) (.agg #[.string ⟨k'.toArray⟩,.string ⟨d'.toArray⟩,.bool e',.slice A ks.length cap,.map (some (wr.heap.size+1))])
    have HMP:=Hh hmap
    have HTN:=Hh hturn
    have hmc7:c7 bm'=.dirsMap:=by rw [hc7o bm' hbl6];exact HS.out.mcol
    have T8:=Ext.turned hturn hmc7
    have HT8:=Hh T8
    have HF7:=Hh F7
    have HO6:=Hh ((hb6.block _ (by rw [hsz5];exact qAa hown6.1)).trans (((HG5.out).block _ (qAa hown6.1) (fun h=>by
     injection h with h
     have h2:=HS.out.rcol
     rw [← h,hown6.2] at h2
     cases h2)).trans hown6.1))
    have HO7:=Hh (F7.kept hown6.1 hown6.2 rfl).1
    have HO8:=Hh (T8.kept (F7.kept hown6.1 hown6.2 rfl).1 (F7.kept hown6.1 hown6.2 rfl).2 rfl).1
    have HX67:=Hh ((hb7.block _ (by omega)).trans HX6.out)
    have HX68:=Hh (((hturn.grown.block _ (by omega) (fun h=>by injection h with h;omega))).trans HX67.out)
    simp only [mkN] at hput
    clear hes htw hb6 hb7 F7 HM7 hmap hturn T8 hown6 hmc7
    have c1:=ce1 HO6.out
    have q0:=ce0 HX6.out
    have q1:=ce1 HX6.out
    have q2:=ce2 HX6.out
    have q3:=ce3 HX6.out
    have q4:=ce4 HX6.out
    have c1':=ce1 HO7.out
    have q0':=ce0 HX67.out
    have q1':=ce1 HX67.out
    have q2':=ce2 HX67.out
    have q3':=ce3 HX67.out
    have q4':=ce4 HX67.out
    have c1'':=ce1 HO8.out
    have q0'':=ce0 HX68.out
    have q1'':=ce1 HX68.out
    have q2'':=ce2 HX68.out
    have q3'':=ce3 HX68.out
    have q4'':=ce4 HX68.out
    rw [hW7] at hput c1' q0' q1' q2' q3' q4'
    have HW7:=Hh hW7
    rw [← hW6]
    clear hW6 hW7
    have HCL:=Hh (show Calls Tryz.prog 65 #[.map (some (fm x))] W6.drew fun e w'=>e=.returned (.map (some W6.drew.heap.size))∧w'=W6.drew.alloc (.map es clock) from AnyW.maps_Clone Tryz.mclone (fm x) es clock W6.drew HES.out)
    go_region_held3 (fun w'=>w'.cell? ⟨b',1,none⟩=some (.map (some bm'))∧w'.cell? ⟨wr.heap.size,0,none⟩=some (.string ⟨k'.toArray⟩)∧w'.cell? ⟨wr.heap.size,1,none⟩=some (.string ⟨d'.toArray⟩)∧w'.cell? ⟨wr.heap.size,2,none⟩=some (.bool e')∧w'.cell? ⟨wr.heap.size,3,none⟩=some (.slice A ks.length cap)∧w'.cell? ⟨wr.heap.size,4,none⟩=some (.map (some (fm x))))
     (first
      | exact ⟨c1,q0,q1,q2,q3,q4⟩
      | exact ⟨c1',q0',q1',q2',q3',q4'⟩
      | exact ⟨c1'',q0'',q1'',q2'',q3'',q4''⟩
      | go_keep)
     (first
      | (go_at_call 65;refine HCL.out.mono ?_;rintro ev w7 ⟨rfl,rfl⟩)
      | fail)
    have HHC:=Hh hc7o
    have HHN:=Hh hc7n
    clear hput c1 c1' c1'' q0 q1 q2 q3 q4 q0' q1' q2' q3' q4' q0'' q1'' q2'' q3'' q4'' hen hc7
    go_wp2
    have hR8:RangeAt Tryz.prog 3 qKE W8 bm r d.l.length (qA3 d.l nd fm) (fun y=>left y&&!decide (y=x)) cnt' :=
     HR5.out.of_blocks ((HTN.out.grown.block bm (by omega) (fun h=>by injection h with h;omega)).trans (HB57.out.block bm (by omega))) ((HTN.out.grown.block r (by omega) (fun h=>by injection h with h;omega)).trans (HB57.out.block r (by omega)))
    refine ⟨⟨fun y=>left y&&!decide (y=x),cnt',c7,fun k=>if k=x then wr.heap.size+1 else fm' k,Hh ⟨?_,?_,hR8,?_,?_,?_,?_,?_,?_⟩⟩,?_⟩
    ·exact (HB5.out.trans (HB57.out.mono HB5.out.size)).grown HTN.out.grown (by omega) (fun k hk=>by injection hk with hk;omega)
    ·exact (HS.out.ext.then HF7.out (qAE (by simp))).then HT8.out (qAE (by simp))
    ·have h1:=(HMP.out.congr (g:=fun k=>if (left k&&!decide (k=x))=false then qA3 d.l nd (fun k=>if k=x then wr.heap.size+1 else fm' k) k else none) (fun k=>by
      by_cases hk:k=x
      ·subst hk
       simp only [decide_true,Bool.not_true,Bool.and_false,if_true]
       unfold qA3
       rw [HEN.out,HND.out]
       simp
      ·have e1:(left k&&!decide (k=x))=left k:=by simp [hk]
       have e2:qA3 d.l nd (fun k=>if k=x then wr.heap.size+1 else fm' k) k=qA3 d.l nd fm' k:=by unfold qA3;simp [hk]
       rw [e1,e2,zL1 hk])).tight okN.keyed (d.l.map (·.k)) (fun k hk=>by
       by_cases hl:(left k&&!decide (k=x))=false
       ·rw [zM1 hl] at hk
        obtain ⟨y,hy⟩:=qCW hk
        exact ze.2 ⟨y,(qA5 hy).1,(qA5 hy).2⟩
       ·rw [zL1 hl] at hk;cases hk)
     simpa using h1
    ·intro k y hy hl
     by_cases hk:k=x
     ·subst hk
      simp only [if_true]
      exact HHN.out
     ·simp only [zL1 hk]
      have hlk:left k=false:=by simpa [hk] using hl
      rw [HHC.out _ (HS.out.files k y hy hlk).lt]
      exact HS.out.fcol k y hy hlk
    ·intro k y hy hl
     by_cases hk:k=x
     ·subst hk
      have:e=y:=by have:=HEN.out.symm.trans hy;injection this
      subst this
      simp only [if_true]
      exact HTW.out W8 _ (HT8.out.kept HX7.out HHN.out rfl).1
     ·simp only [zL1 hk]
      have hlk:left k=false:=by simpa [hk] using hl
      have h7:c7 (fm' k)=.files k:=by rw [HHC.out _ (HS.out.files k y hy hlk).lt];exact HS.out.fcol k y hy hlk
      exact ((HS.out.files k y hy hlk).ext HF7.out (HS.out.fcol k y hy hlk) rfl).ext HT8.out h7 rfl
    ·rw [HHC.out _ hbl6];exact HS.out.mcol
    ·rw [HHC.out _ hrlt];exact HS.out.rcol
    ·intro k hk
     rw [HHC.out k (by omega)]
     exact HS.out.old k hk
    ·rw [hR8.left_eq,hm0];exact HLT.out
end
end Go.Proofs.YtceklhjomhjipaaGreatDoor
