/- Lemmas. -/
import Derived.Test.YtbmkaekimccdgaaGreatDoorBm05
import Derived.Test.YtbmkaekimccdgaaGreatDoorBm20
set_option maxHeartbeats 16000000
set_option maxRecDepth 1000000
set_option linter.all false
namespace Go.Proofs.YtbmkaekimccdgaaGreatDoor
open Go.RowKit Go.Sort Go.Shelf Stl
structure DirsGood (d:Stl.Dirs):Prop where
 ok:vC d
 disk:d.t.disk.length≤1000000
 inos:d.t.l.length≤1000000
 next:d.next≤1000000
 ents:d.l.length≤1000000
theorem DirsGood.small {d:Stl.Dirs}(h:DirsGood d){k:Nat}{e:Ent}(he:qN d.l k=some e):∀ q∈e.f,q.2≤1000000:=fun q hq=>by
 have hm:=zf he;have h1:=h.ok.there q.2 (by unfold nums;exact za.2 ⟨e,hm,zb.2 ⟨q,hq,rfl⟩⟩);obtain⟨x,hx⟩:=zy.1 h1;have:=nH hx;have:=h.inos;omega
theorem DirsGood.paths {d:Stl.Dirs}(h:DirsGood d){k:Nat}{e:Ent}(he:qN d.l k=some e):∀ x∈Stl.flat e.n [] 0,x.path.length≤1000000:=fun x hx=>by
 have:=((items_well (h.ok.well e (zf he))).2 x hx).2;omega
theorem NodeP.set4 {P:Nat→Prop}{w:World}{n:Nd}{vs:List Value}{x:Nat}{u0 u1 u2 u3:Value}(h:NodeP P w n vs)(hP:∀ b,P b→b≠x):NodeP P ((((w.setCell ⟨x,0,none⟩ u0).setCell ⟨x,1,none⟩ u1).setCell ⟨x,2,none⟩ u2).setCell ⟨x,3,none⟩ u3) n vs :=
 NodeP.go (by simp[World.setCell]) (fun b _ hp=>⟨by
  rw[zA _ ⟨x,3,none⟩ _ b (hP b hp),zA _ ⟨x,2,none⟩ _ b (hP b hp),zA _ ⟨x,1,none⟩ _ b (hP b hp),zA _ ⟨x,0,none⟩ _ b (hP b hp)],hp⟩) n vs h
theorem qGe (w:World):(zeroValue 203).run Tryz.prog w=.ok (.agg #[.string ⟨#[]⟩,.string ⟨#[]⟩,.bool false,.slice none 0 0,.map none]) w:=by kernel_rfl
section
variable {w:World}{c:Nat→Col}{b:Nat}{d:Stl.Dirs}{bt bm:Nat}{nd:Nat→List Value}{fm:Nat→Nat}
theorem DirsIn.below {w2:World}(h:DirsIn w c b d bt bm nd fm)(hb:Below w.heap.size w w2):DirsIn w2 c b d bt bm nd fm:=h.ext (Ext.of_below hb c S0) rfl (fun _ _=>rfl)
theorem DirsAt.below {w2:World}(h:DirsAt w c b d)(hb:Below w.heap.size w w2):DirsAt w2 c b d:=h.ext (Ext.of_below hb c S0) rfl (fun _ _=>rfl)
theorem DirsIn.lookOk (h:DirsIn w c b d bt bm nd fm){k:Nat}(hk:k≤1000000){e:Ent}(he:qN d.l k=some e) :
  (Instr.lookup 86 (.map (some bm)) (.int .i64 k) true).run Tryz.prog w=.ok (.tuple #[.agg (nd k++[Value.map (some (fm k))]).toArray,.bool true]) w:=by
 have hlk:=h.map.getOk (t:=86) okN Tryz.underlying86 (qGe w) (i:=k) (by omega);have hs:yC d.l nd fm k=some (.agg (nd k++[Value.map (some (fm k))]).toArray):=by unfold yC;rw[he];rfl
 rw[hs] at hlk;simpa only [zx,Option.isSome_some,mkN] using hlk
theorem DirsIn.lookNo (h:DirsIn w c b d bt bm nd fm){k:Nat}(hk:k≤1000000)(he:qN d.l k=none) :
  (Instr.lookup 86 (.map (some bm)) (.int .i64 k) true).run Tryz.prog w=.ok (.tuple #[.agg #[.string ⟨#[]⟩,.string ⟨#[]⟩,.bool false,.slice none 0 0,.map none],.bool false]) w:=by
 have hlk:=h.map.getOk (t:=86) okN Tryz.underlying86 (qGe w) (i:=k) (by omega);have hs:yC d.l nd fm k=none:=by unfold yC;rw[he];rfl
 rw[hs] at hlk;simpa only [Option.getD_none,Option.isSome_none,mkN] using hlk
theorem DirsIn.ent (h:DirsIn w c b d bt bm nd fm){k:Nat}{e:Ent}(he:qN d.l k=some e) :
  ∃ (k' d':List UInt8) (e':Bool) (ks:List (List UInt8×Nd)) (A:Option Addr) (cap:Nat),e.n=.mk k' d' e' ks∧nd k=[.string ⟨k'.toArray⟩,.string ⟨d'.toArray⟩,.bool e',.slice A ks.length cap]∧NodeP (fun b=>c b=.ro) w (.mk k' d' e' ks) [.string ⟨k'.toArray⟩,.string ⟨d'.toArray⟩,.bool e',.slice A ks.length cap]:=by
 have hn:=h.node k e he
 cases hm:e.n with
 | mk k' d' e' ks =>
 unfold RoNode at hn;rw[hm] at hn;obtain⟨A,cap,hv⟩:=hn.open;rw[hv] at hn;exact⟨k',d',e',ks,A,cap,rfl,hv,hn⟩
theorem wS (h:DirsIn w c b d bt bm nd fm) :
  Calls Tryz.prog 126 #[.pointer (some ⟨b,0,none⟩)] w fun e w'=>e=.returned (.pointer (some ⟨bt,0,none⟩))∧w'=w:=by
 have c0:=ce0 h.own;clear h;go_enter Tryz.func126,Tryz.ntmps126;go_wp2;go_ret;exact⟨rfl,rfl⟩
theorem Get_no {p:Nat→Addr}(h:DirsAt w c b d)(k:Nat)(hk:k≤1000000)(hE:Errs w p)(he:qN d.l k=none) :
  Calls Tryz.prog 98 #[.pointer (some ⟨b,0,none⟩),.int .i64 k] w fun ev w'=>Below w.heap.size w w'∧nV p (fun b=>c b=.ro) w (d.get k) ev w':=by
 obtain⟨bt,bm,nd,fm,h⟩:=h;have hb1:Below w.heap.size w (w.alloc (.cells #[.string ⟨#[]⟩,.string ⟨#[]⟩,.bool false,.slice none 0 0] 134)):=(zB _ w).alloc (zo _) _;have hlk:=(h.below hb1).lookNo hk he;have c1:=ce1 (h.below hb1).own;have HG:=Hh (show d.get k=.error 6 by unfold Dirs.get;rw[he]);have hg:=((hE.later hb1).cell 6 (by omega) (by omega));have HGL:=Hh (lt_of_cell (hE.cell 6 (by omega) (by omega)));have HE6:=Hh (qD p (c:=6) (by omega));rw[HE6.o] at hg;have HBX:=Hh (zK1 w (.cells #[.string ⟨#[]⟩,.string ⟨#[]⟩,.bool false,.slice none 0 0] 134));have HB1:=Hh hb1;clear h he hb1 hE;go_enter Tryz.func98,Tryz.ntmps98;go_upto_region 3 with fail;have hb2:Below (w.alloc (.cells #[.string ⟨#[]⟩,.string ⟨#[]⟩,.bool false,.slice none 0 0] 134)).heap.size (w.alloc (.cells #[.string ⟨#[]⟩,.string ⟨#[]⟩,.bool false,.slice none 0 0] 134)) ((w.alloc (.cells #[.string ⟨#[]⟩,.string ⟨#[]⟩,.bool false,.slice none 0 0] 134)).alloc (.cells #[.string ⟨#[]⟩,.string ⟨#[]⟩,.bool false,.slice none 0 0,.map none] 203)):=(zB _ _).alloc (zo _) _;have hg2:=(hb2.cell (p:=⟨wA 6,0,none⟩) (lt_of_cell hg)).trans hg;have HBX2:=Hh ((hb2.block _ (qA HBX.o)).trans HBX.o);have HB2:=Hh (HB1.o.trans (hb2.mono HB1.o.size));have hgne:w.heap.size≠5:=by have:=HGL.o;simp[wA] at this;omega
 have hgne':5≠w.heap.size:=hgne.symm;clear hb2 hg hlk c1;generalize (w.alloc (.cells #[.string ⟨#[]⟩,.string ⟨#[]⟩,.bool false,.slice none 0 0] 134)).alloc (.cells #[.string ⟨#[]⟩,.string ⟨#[]⟩,.bool false,.slice none 0 0,.map none] 203)=w2 at *;have hg3:w2.cell? ⟨5,0,none⟩=some (.iface 376 (.pointer (some (p 6)))):=hg2;obtain⟨z0,z1,z2,z3⟩:=cq HBX2.o;have f0:w2.frozen? ⟨w.heap.size,0,none⟩=false:=qC HBX2.o 0;have f1:w2.frozen? ⟨w.heap.size,1,none⟩=false:=qC HBX2.o 1;have f2:w2.frozen? ⟨w.heap.size,2,none⟩=false:=qC HBX2.o 2;have f3:w2.frozen? ⟨w.heap.size,3,none⟩=false:=qC HBX2.o 3
 go_region
 obtain⟨w9,E9,HF,HBF⟩:=qGI HBX2.o HB2.o (zo _) (.string ⟨#[]⟩) (.string ⟨#[]⟩) (.bool false) (.slice none 0 0);clear z0 z1 z2 z3 f0 f1 f2 f3 hgne hgne' hg3 hg2;go_wp2_with fail;rw[E9.o];obtain⟨r0,r1,r2,r3⟩:=cq HF.o;refine zH1 (v:=.tuple #[.agg #[.string ⟨#[]⟩,.string ⟨#[]⟩,.bool false,.slice none 0 0],.iface 376 (.pointer (some (p 6)))]) ?_ rfl ⟨HBF.o,?_⟩
 ·simp[results,Tryz.results98,go_sem,r0,r1,r2,r3]
 ·rw[HG.o];exact⟨_,_,_,_,_,_,_,rfl,HE6.o.symm,by decide⟩
def qKn (r:Except Nat Nd)(ev:Ending):Prop:=∀ cd,r=.error cd→∃ er,ev=.returned (.tuple #[.agg #[.string ⟨#[]⟩,.string ⟨#[]⟩,.bool false,.slice none 0 0],er])
theorem qLI {p:Nat→Addr}(h:DirsAt w c b d)(hd:DirsGood d)(k:Nat)(hk:k≤1000000)(hE:Errs w p){e:Ent}(he:qN d.l k=some e) :
  Calls Tryz.prog 98 #[.pointer (some ⟨b,0,none⟩),.int .i64 k] w fun ev w'=>Below w.heap.size w w'∧nV p (fun b=>c b=.ro) w (d.get k) ev w'∧qKn (d.get k) ev:=by
 obtain⟨bt,bm,nd,fm,h⟩:=h;obtain⟨k',d',e',ks,A,cap,hn,hnd,hnp⟩:=h.ent he;have hb1:Below w.heap.size w (w.alloc (.cells #[.string ⟨#[]⟩,.string ⟨#[]⟩,.bool false,.slice none 0 0] 134)):=(zB _ w).alloc (zo _) _;have hlk:=(h.below hb1).lookOk hk he;rw[hnd] at hlk;simp only[zE,zh] at hlk;have c1:=ce1 (h.below hb1).own;have HG:=Hh (show d.get k=vU d.t e.f (.mk k' d' e' ks) [] by unfold Dirs.get;rw[he];simp only;rw[hn]);have HBX:=Hh (zK1 w (.cells #[.string ⟨#[]⟩,.string ⟨#[]⟩,.bool false,.slice none 0 0] 134));have hb2:Below w.heap.size w ((w.alloc (.cells #[.string ⟨#[]⟩,.string ⟨#[]⟩,.bool false,.slice none 0 0] 134)).alloc (.cells #[.string ⟨k'.toArray⟩,.string ⟨d'.toArray⟩,.bool e',.slice A ks.length cap,.map (some (fm k))] 203)):=hb1.alloc (by simp) _;have HBX2:=Hh (qS (w.alloc (.cells #[.string ⟨#[]⟩,.string ⟨#[]⟩,.bool false,.slice none 0 0] 134)) (.cells #[.string ⟨k'.toArray⟩,.string ⟨d'.toArray⟩,.bool e',.slice A ks.length cap,.map (some (fm k))] 203) HBX.o);have HEX2:=Hh (show ((w.alloc (.cells #[.string ⟨#[]⟩,.string ⟨#[]⟩,.bool false,.slice none 0 0] 134)).alloc (.cells #[.string ⟨k'.toArray⟩,.string ⟨d'.toArray⟩,.bool e',.slice A ks.length cap,.map (some (fm k))] 203)).heap[w.heap.size+1]?=some (.cells #[.string ⟨k'.toArray⟩,.string ⟨d'.toArray⟩,.bool e',.slice A ks.length cap,.map (some (fm k))] 203 (0,0)) from by
  have:=zK1 (w.alloc (.cells #[.string ⟨#[]⟩,.string ⟨#[]⟩,.bool false,.slice none 0 0] 134)) (.cells #[.string ⟨k'.toArray⟩,.string ⟨d'.toArray⟩,.bool e',.slice A ks.length cap,.map (some (fm k))] 203)
  simpa using this)
 have HB2:=Hh hb2;have HPA:=Hh (hn▸hd.paths he);have HFL:=Hh (show FillEnv w c b bt (fm k) d.t e.f p from ⟨zJ1 w b 0 _ _ _ h.own,h.tab,hd.ok.tab,hd.disk,h.files k e he,hd.small he,hE⟩);have HNP:=Hh hnp;clear h he hb1 hE hnd hn hnp hd hb2;generalize d.get k=res at HG ⊢;go_enter Tryz.func98,Tryz.ntmps98;go_upto_region 4 with fail;clear hlk c1;generalize (w.alloc (.cells #[.string ⟨#[]⟩,.string ⟨#[]⟩,.bool false,.slice none 0 0] 134)).alloc (.cells #[.string ⟨k'.toArray⟩,.string ⟨d'.toArray⟩,.bool e',.slice A ks.length cap,.map (some (fm k))] 203)=w2 at *;obtain⟨q0,q1,q2,q3⟩:=cq HEX2.o;have q4:=ce4 HEX2.o;have HNP2:=Hh (NodeP.go HB2.o.size (fun b hb hp=>⟨HB2.o.block b hb,(⟨hp,hb⟩:c b=.ro∧b<w.heap.size)⟩) _ _ HNP.o);have HFI:=Hh (qDu c b bt (fm k) d.t e.f p ⟨k'.toArray⟩ ⟨d'.toArray⟩ e' A ks.length cap (Stl.wt (.mk k' d' e' ks)) (.mk k' d' e' ks) _ _ [] 0 w2 (zo _) HNP2.o HPA.o (.inl rfl) (HFL.o.below HB2.o));go_upto_region 5 with (go_at_call 151;refine HFI.o.mono ?_;rintro ev w3 ⟨hb3,a0,a1,a2,A5,m5,cp5,er,rfl,hpost⟩;have HPO:=Hh hpost;have HB3:=Hh hb3;clear hpost hb3);have HB6:=Hh ((HB2.o.trans (HB3.o.mono HB2.o.size)).alloc (HB2.o.trans (HB3.o.mono HB2.o.size)).size (.cells #[.string a0,.string a1,.bool a2,.slice A5 m5 cp5] 134));have hb6:=(zB w3.heap.size w3).alloc (zo _) (.cells #[.string a0,.string a1,.bool a2,.slice A5 m5 cp5] 134);have HNX6:=Hh (zK1 w3 (.cells #[.string a0,.string a1,.bool a2,.slice A5 m5 cp5] 134));have HBX6:=Hh ((hb6.block _ (zt (qA HBX2.o) HB3.o.size)).trans ((HB3.o.block _ (qA HBX2.o)).trans HBX2.o));have HL3:=Hh (show w.heap.size<w3.heap.size from zt (qA HBX2.o) HB3.o.size);have HB36:=Hh hb6;clear q0 q1 q2 q3 q4 hb6;generalize w3.alloc (.cells #[.string a0,.string a1,.bool a2,.slice A5 m5 cp5] 134)=w6 at *;obtain⟨z0,z1,z2,z3⟩:=cq HBX6.o;have f0:w6.frozen? ⟨w.heap.size,0,none⟩=false:=qC HBX6.o 0;have f1:w6.frozen? ⟨w.heap.size,1,none⟩=false:=qC HBX6.o 1;have f2:w6.frozen? ⟨w.heap.size,2,none⟩=false:=qC HBX6.o 2;have f3:w6.frozen? ⟨w.heap.size,3,none⟩=false:=qC HBX6.o 3
 cases hfr:vU d.t e.f (.mk k' d' e' ks) [] with
 | error cd =>
  rw[hfr] at HPO HG;obtain⟨rfl,hcd⟩:=HPO.o;rw[qD p hcd];have HEO:=Hh (qD p hcd);have HCD:=Hh hcd;clear hfr hcd HPO;go_wp2_with fail;obtain⟨wz,E9,HF,HBF⟩:=nJ HBX6.o HB6.o (zo _) (.string ⟨#[]⟩) (.string ⟨#[]⟩) (.bool false) (.slice none 0 0);clear z0 z1 z2 z3 f0 f1 f2 f3;rw[E9.o];obtain⟨r0,r1,r2,r3⟩:=cq HF.o;refine zH1 (v:=.tuple #[.agg #[(.string ⟨#[]⟩),(.string ⟨#[]⟩),(.bool false),(.slice none 0 0)],(.iface 376 (.pointer (some (p cd))))]) ?_ rfl ⟨HBF.o,?_⟩
  ·simp[results,Tryz.results98,go_sem,r0,r1,r2,r3]
  ·rw[HG.o];exact⟨⟨_,_,_,_,_,_,_,rfl,HEO.o.symm,HCD.o⟩,fun _ _=>⟨_,rfl⟩⟩
 | ok y =>
  rw[hfr] at HPO HG;obtain⟨rfl,hy⟩:=HPO.o;have HY:=Hh (NodeP.go HB36.o.size (fun b hb hp=>⟨HB36.o.block b hb,(⟨by
   rcases hp with ⟨h1,h2⟩ | h2
   ·exact⟨.inl h1,by omega⟩
   ·refine⟨.inr (zq HB2.o.size h2),?_⟩
    have:=qA HBX2.o
    omega,hb⟩:((c b=.ro∨w.heap.size≤b)∧b≠w.heap.size)∧b<w3.heap.size)⟩) _ _ hy)
  obtain⟨n0,n1,n2,n3⟩:=cq HNX6.o;clear hfr hy HPO;go_wp2_with fail;obtain⟨wz,E9,HF,HBF⟩:=nJ HBX6.o HB6.o (zo _) (.string a0) (.string a1) (.bool a2) (.slice A5 m5 cp5);have HY2:=Hh (NodeP.set4 (x:=w.heap.size) (u0:=(.string a0)) (u1:=(.string a1)) (u2:=(.bool a2)) (u3:=(.slice A5 m5 cp5)) HY.o (fun b hb=>hb.1.2));clear n0 n1 n2 n3;clear z0 z1 z2 z3 f0 f1 f2 f3;rw[E9.o];rw[E9.o] at HY2;obtain⟨r0,r1,r2,r3⟩:=cq HF.o;refine zH1 (v:=.tuple #[.agg #[(.string a0),(.string a1),(.bool a2),(.slice A5 m5 cp5)],.nilIface]) ?_ rfl ⟨HBF.o,?_⟩
  ·simp[results,Tryz.results98,go_sem,r0,r1,r2,r3]
  ·rw[HG.o];exact⟨⟨_,_,_,_,_,_,_,rfl,rfl,NodeP.go (zo _) (fun b _ hp=>⟨rfl,hp.1.1⟩) _ _ HY2.o⟩,fun _ h=>by cases h⟩
end
structure PkX where
 p:Pk
 a:Option Addr
 cap:Nat
instance:Inhabited PkX:=⟨⟨⟨[],[],0⟩,none,0⟩⟩
def yF (x:PkX):List Value:=[.string ⟨x.p.name.toArray⟩,.slice x.a x.p.refs.length x.cap,.int .i64 x.p.k]
theorem yY:∀ zs:List PkX,(zs.flatMap yF).length=zs.length*3
 | []=>rfl
 | x::r=>by
  have:=yY r;simp only[List.flatMap_cons,zP,zQ,this];show 3+_=_;omega
theorem pZ:∀ (zs:List PkX) (j:Nat) (h:j<zs.length) (i:Nat),i<3→(zs.flatMap yF)[j*3+i]?=(yF zs[j])[i]?
 | [],_,h,_,_=>by simp at h
 | x::r,0,_,i,hi=>by
  rw[List.flatMap_cons,List.getElem?_append_left (show 0*3+i<(yF x).length by show _<3;omega)];simp
 | x::r,j+1,h,i,hi=>by
  have:=pZ r j (by simpa using h) i hi;rw[List.flatMap_cons,List.getElem?_append_right (show (yF x).length≤(j+1)*3+i by show 3≤_;omega)];rw[show (j+1)*3+i-(yF x).length=j*3+i by show (j+1)*3+i-3=_;omega,this];simp
section
variable {w w2:World}{c c2:Nat→Col}{S:Col→Bool}
theorem PksCells.opened:∀ {l:List Pk} {vs:List Value},PksCells w c l vs→∃ zs:List PkX,zs.map (·.p)=l∧vs=zs.flatMap yF∧∀ x∈zs,x.p.refs.length≤x.cap∧RoStrs w c x.a x.p.refs
 | [],vs,h=>⟨[],rfl,h,by simp⟩
 | p::r,vs,h=>by
  obtain⟨A,cap,rest,h1,h2,h3,h4⟩:=h;obtain⟨zs,e1,e2,e3⟩:=PksCells.opened h4;refine⟨⟨p,A,cap⟩::zs,by simp[e1],by rw[h1,e2];rfl,?_⟩;intro x hx
  rcases zY.1 hx with rfl | hx
  ·exact⟨h2,h3⟩
  ·exact e3 x hx
theorem PksCells.shut:∀ {zs:List PkX},(∀ x∈zs,x.p.refs.length≤x.cap∧RoStrs w c x.a x.p.refs)→PksCells w c (zs.map (·.p)) (zs.flatMap yF)
 | [],_=>rfl
 | x::r,h=>⟨x.a,x.cap,r.flatMap yF,rfl,(h x (by simp)).1,(h x (by simp)).2,PksCells.shut fun y hy=>h y (by simp[hy])⟩
theorem StoIn.kept {b:Nat}{s:Sto}{bd:Nat}{vl vr:Value}{tp:Nat}{cs:List Value}(h:StoIn w c b s bd vl vr tp cs):∃ (A:Option Addr) (cap:Nat) (zs:List PkX),vl=.slice A zs.length cap∧zs.map (·.p)=s.l∧zs.length=s.l.length∧cs=zs.flatMap yF∧(∀ x∈zs,x.p.refs.length≤x.cap∧RoStrs w c x.a x.p.refs):=by
 obtain⟨zs,e1,e2,e3⟩:=h.pcells.opened;obtain⟨A,cap,e4⟩:=h.packs.slice;have e5:zs.length=s.l.length:=by rw[← e1,zT]
 exact⟨A,cap,zs,by rw[e4,e5],e1,e5,e2,e3⟩
end
structure PX where
 p:Pk
 a:Option Addr
 cap:Nat
 t0:ByteArray
 t1:ByteArray
 t2:Bool
 t3:Option Addr
 t4:Nat
 t5:Nat
instance:Inhabited PX:=⟨⟨⟨[],[],0⟩,none,0,⟨#[]⟩,⟨#[]⟩,false,none,0,0⟩⟩
def uC (x:PX):List Value:=[.string ⟨x.p.name.toArray⟩,.slice x.a x.p.refs.length x.cap,.string x.t0,.string x.t1,.bool x.t2,.slice x.t3 x.t4 x.t5]
theorem qBO:∀ zs:List PX,(zs.flatMap uC).length=zs.length*6
 | []=>rfl
 | x::r=>by
  have:=qBO r;simp only[List.flatMap_cons,zP,zQ,this];show 6+_=_;omega
theorem gJ:∀ (zs:List PX) (j:Nat) (h:j<zs.length) (i:Nat),i<6→(zs.flatMap uC)[j*6+i]?=(uC zs[j])[i]?
 | [],_,h,_,_=>by simp at h
 | x::r,0,_,i,hi=>by
  rw[List.flatMap_cons,List.getElem?_append_left (show 0*6+i<(uC x).length by show _<6;omega)];simp
 | x::r,j+1,h,i,hi=>by
  have:=gJ r j (by simpa using h) i hi;rw[List.flatMap_cons,List.getElem?_append_right (show (uC x).length≤(j+1)*6+i by show 6≤_;omega)];rw[show (j+1)*6+i-(uC x).length=j*6+i by show (j+1)*6+i-6=_;omega,this];simp
structure PacksAt (w:World)(A:Option Addr)(zs:List PX):Prop where
 row:zs≠[]→∃ b off,A=some ⟨b,off,none⟩∧b<w.heap.size∧∀ (j:Nat) u,(zs.flatMap uC)[j]?=some u→w.cell? ⟨b,off+j,none⟩=some u
 refs:∀ x∈zs,x.p.refs.length≤x.cap∧Strs w (.slice x.a x.p.refs.length x.cap) x.p.refs
section
variable {w w2:World}{A:Option Addr}{zs:List PX}
theorem PacksAt.later (h:PacksAt w A zs)(hb:Below w.heap.size w w2):PacksAt w2 A zs :=
 ⟨fun hn=>by
  obtain⟨b,off,h1,h2,h3⟩:=h.row hn
  exact⟨b,off,h1,zt h2 hb.size,fun j u hu=>(hb.cell (p:=⟨b,off+j,none⟩) h2).trans (h3 j u hu)⟩,
  fun x hx=>⟨(h.refs x hx).1,(h.refs x hx).2.later hb⟩⟩
theorem PacksAt.at (h:PacksAt w A zs){j:Nat}(hj:j<zs.length):∃ b off,A=some ⟨b,off,none⟩∧b<w.heap.size ∧
  w.cell? ⟨b,off+j*6,none⟩=some (.string ⟨zs[j].p.name.toArray⟩)∧w.cell? ⟨b,off+j*6+1,none⟩=some (.slice zs[j].a zs[j].p.refs.length zs[j].cap)∧w.cell? ⟨b,off+j*6+2,none⟩=some (.string zs[j].t0)∧w.cell? ⟨b,off+j*6+3,none⟩=some (.string zs[j].t1)∧w.cell? ⟨b,off+j*6+4,none⟩=some (.bool zs[j].t2)∧w.cell? ⟨b,off+j*6+5,none⟩=some (.slice zs[j].t3 zs[j].t4 zs[j].t5):=by
 obtain⟨b,off,h1,h2,h3⟩:=h.row (fun e=>by rw[e] at hj;simp at hj);refine⟨b,off,h1,h2,?_,?_,?_,?_,?_,?_⟩
 ·have:=h3 (j*6+0) _ (gJ zs j hj 0 (by omega));simpa using this
 ·have:=h3 (j*6+1) _ (gJ zs j hj 1 (by omega));rw[Nat.add_assoc];exact this
 ·have:=h3 (j*6+2) _ (gJ zs j hj 2 (by omega));rw[Nat.add_assoc];exact this
 ·have:=h3 (j*6+3) _ (gJ zs j hj 3 (by omega));rw[Nat.add_assoc];exact this
 ·have:=h3 (j*6+4) _ (gJ zs j hj 4 (by omega));rw[Nat.add_assoc];exact this
 ·have:=h3 (j*6+5) _ (gJ zs j hj 5 (by omega));rw[Nat.add_assoc];exact this
end
theorem qEi (w:World):(zeroValue 4).run Tryz.prog w=.ok (.bool false) w:=by kernel_rfl
def kV (l:List (List UInt8))(x:List UInt8):Option Value:=if x∈l then some (.bool true) else none
theorem qIn (l:List (List UInt8))(n bm bx:Nat)(s:List UInt8)(hs:s.length≤1000000)(w:World)(hm:vM w bm n (kV l))(hbx:w.heap[bx]?=some (.cells #[.map (some bm)] 284 (0,0))) :
  Calls Tryz.prog 293 #[.string ⟨s.toArray⟩,.pointer (some ⟨bx,0,none⟩)] w fun e w'=>e=.returned (.bool (!(decide (s∈l))))∧w'=w:=by
 have d0:w.cell? ⟨bx,0,none⟩=some (.map (some bm)):=zJ1 w bx 0 _ _ _ hbx;have hlk:=hm.get (t:=284) okS Tryz.underlying284 (qEi w) (i:=s) (by unfold maxLen;omega);simp only[mkS] at hlk;by_cases h:s∈l
 ·have hq:kV l s=some (.bool true):=by unfold kV;rw[zM1 h]
  rw[hq] at hlk;simp only[zx] at hlk;clear hm hbx hq;have hd:decide (s∈l)=true:=by simpa using h
  rw[hd];go_enter Tryz.func293,Tryz.ntmps293;go_wp2;go_ret;exact⟨rfl,rfl⟩
 ·have hq:kV l s=none:=by unfold kV;rw[zL1 h]
  rw[hq] at hlk;simp only[Option.getD_none] at hlk;clear hm hbx hq;have hd:decide (s∈l)=false:=by simpa using h
  rw[hd];go_enter Tryz.func293,Tryz.ntmps293;go_wp2;go_ret;exact⟨rfl,rfl⟩
abbrev qHD:={ s:List UInt8 // s.length≤1000000 }
instance:Inhabited qHD:=⟨⟨[],by simp⟩⟩
theorem qEf:∀ args w,(callFunc 293 args).run Tryz.prog w=.ok (.enter 293 args) w:=enters_of Tryz.func293 (by kernel_rfl) rfl
theorem qMr (l:List (List UInt8))(n bm bx:Nat)(w:World)(hm:vM w bm n (kV l))(hbx:w.heap[bx]?=some (.cells #[.map (some bm)] 284 (0,0))){A:Option Addr}{cap:Nat}{rs:List (List UInt8)}(hr:Strs w (.slice A rs.length cap) rs)(hlen:∀ x∈rs,x.length≤1000000)(hrl:rs.length≤1000000)(hin:∀ x∈rs,x∈l) :
  Calls Tryz.prog 207 #[.slice A rs.length cap,.func (.func 293) #[] #[.pointer (some ⟨bx,0,none⟩)]] w fun e w'=>e=.returned (.bool false)∧Below w.heap.size w w':=by
 rcases Nat.eq_zero_or_pos rs.length with h0 | h0
 ·rw[h0];refine(AnyE.slices_ContainsFunc_empty Tryz.cfStr A cap _ w).mono ?_;rintro e w' ⟨rfl,rfl⟩;exact⟨rfl,zB _ _⟩
 ·obtain⟨A',c',e1,h1⟩:=hr;injection e1 with e1 e2 e3
  subst e1 e3;obtain⟨g,off,rfl,hg,hcells⟩:=h1 (by intro e;rw[e] at h0;simp at h0);obtain⟨L,hL⟩:∃ L:List qHD,L.map (fun s=>s.1)=rs:=⟨rs.attach.map fun s=>⟨s.1,hlen s.1 s.2⟩,by rw[zW];exact List.attach_map_subtype_val rs⟩;subst hL;rw[zT] at hrl ⊢;refine(AnyE.slices_ContainsFunc Tryz.cfStr (fun s:qHD=>Value.string ⟨s.1.toArray⟩) (fun s:qHD=>!(decide (s.1∈l))) _ _ qEf g off L.length cap L w (fun W x hb=>?_) (zo _) (by omega) (fun j hj=>by
   rw[hcells j L[j].1 (by simp[hj])]
   rw[getElem!_pos L j hj])).mono ?_
  ·refine(qIn l n bm bx x.1 x.2 W (hm.of_block (hb.block _ hm.lt)) ((hb.block _ (qA hbx)).trans hbx)).mono ?_;rintro e w' ⟨rfl,rfl⟩;exact⟨rfl,0,rfl⟩
  ·rintro e w' ⟨rfl,q,rfl⟩;refine⟨?_,Below.drewN (zB _ _) q⟩;congr 2;rw[List.any_eq_false];intro x hx;have:=hin x.1 (zb.2 ⟨x,List.mem_of_mem_take hx,rfl⟩);simp[this]
theorem qJY {l:List Pk}(h:nY l){p:Pk}(hp:p∈l):∀ x∈p.refs,isName x=true:=by
 have:∀ (l:List Pk) (ahead:List (List UInt8)),(∀ a∈ahead,isName a=true)→(∀ p∈l,isName p.name=true)→wI ahead l→∀ p∈l,∀ x∈p.refs,isName x=true:=by
  intro l
  induction l with
  | nil=>intro _ _ _ _ p hp;cases hp
  | cons q r ih =>
   intro ahead h1 h2 h3 p hp x hx
   rcases zY.1 hp with rfl | hp
   ·rcases h3.1 x hx with rfl | h
    ·exact h2 _ (by simp)
    ·exact h1 _ h
   ·exact ih (q.name::ahead) (fun a ha=>by
     rcases zY.1 ha with rfl | ha
     ·exact h2 _ (by simp)
     ·exact h1 a ha) (fun p hp=>h2 p (by simp[hp])) h3.2 p hp x hx
 exact this l [] (by simp) h.well h.refs p hp
theorem qIl {l:List Pk}(h:nY l){i:Nat}(hi:i<l.length):∀ x∈l[i].refs,x∈l[i].name::(l.map (·.name)).take i:=by
 intro x hx;have h1:=h.refs;rw[← List.take_append_drop i l,kL] at h1;have h2:=h1.2;rw[zF hi] at h2
 rcases h2.1 x hx with h3 | h3
 ·simp[h3]
 ·simp only[List.append_nil,List.mem_reverse] at h3;rw[List.map_take] at h3;exact List.mem_cons_of_mem _ h3
structure qOD (w wr:World)(bp bm bc:Nat)(cp:Array Value)(l:List (List UInt8))(j:Nat):Prop where
 below:Below w.heap.size w wr
 own:wr.heap[bp]?=some (.cells cp 260 (0,0))
 cell:wr.heap[bc]?=some (.cells #[.map (some bm)] 284 (0,0))
 map:vM wr bm (j+1) (kV l)
theorem qLP {w:World}{A:Option Addr}{zs:List PX}(h:PacksAt w A zs)(hP:nY (zs.map (·.p)))(cap:Nat)(hcap:zs.length≤cap){i:Nat}(hi:i<zs.length) :
  Calls Tryz.prog 248 #[.slice A zs.length cap,.int .i64 i] w fun ev w'=>ev=.returned .nilIface∧Below w.heap.size w w':=by
 obtain⟨b,off,rfl,hb,q0,q1,q2,q3,q4,q5⟩:=h.at hi;have hmm:=@run_makeMap Tryz.prog;have HP:=Hh hP;have H:=Hh h;have i0:(0:Int)≤(i:Int):=by omega
 have i1:(i:Int)<(zs.length:Int):=by omega
 have i2:(i:Int)≤(cap:Int):=by omega
 obtain⟨x,hx⟩:∃ x,x=zs[i]:=⟨_,rfl⟩;rw[← hx] at q0 q1 q2 q3 q4 q5;have hxm:x.p∈zs.map (·.p):=by rw[hx];exact zb.2 ⟨_,zO hi,rfl⟩
 have HX:=Hh hx;have hnl:x.p.name.length≤1000000:=zq (mX (hP.well _ hxm)) (by decide);have HXM:=Hh hxm;have HXR:=Hh (hx▸h.refs _ (zO hi));clear hP h hx hxm;have hb1:=(zB w.heap.size w).alloc (zo _) (.cells #[.string ⟨x.p.name.toArray⟩,.slice x.a x.p.refs.length x.cap,.string x.t0,.string x.t1,.bool x.t2,.slice x.t3 x.t4 x.t5] 260);have HB1:=Hh hb1;have HP1:=Hh (zK1 w (.cells #[.string ⟨x.p.name.toArray⟩,.slice x.a x.p.refs.length x.cap,.string x.t0,.string x.t1,.bool x.t2,.slice x.t3 x.t4 x.t5] 260));have HS1:=Hh (show (w.alloc (.cells #[.string ⟨x.p.name.toArray⟩,.slice x.a x.p.refs.length x.cap,.string x.t0,.string x.t1,.bool x.t2,.slice x.t3 x.t4 x.t5] 260)).heap.size=w.heap.size+1 by simp);clear hb1;go_enter Tryz.func248,Tryz.ntmps248;go_upto_region 2 with fail;clear q0 q1 q2 q3 q4 q5;generalize w.alloc (.cells #[.string ⟨x.p.name.toArray⟩,.slice x.a x.p.refs.length x.cap,.string x.t0,.string x.t1,.bool x.t2,.slice x.t3 x.t4 x.t5] 260)=w1 at *;obtain⟨W3,hput,hmap,hturn⟩:=(zzMapAt.made w1 Tryz.prog 9 oB).put okS Tryz.underlying284 (by unfold maxLen;omega) (i:=x.p.name) (by unfold maxLen;omega) (.bool true);simp only[mkS] at hput;have y0:(w1.alloc (.map #[] 0)).cell? ⟨w.heap.size,0,none⟩=some (.string ⟨x.p.name.toArray⟩):=zJ1 _ _ 0 _ _ _ (qS w1 _ HP1.o);have HW2:=Hh (show (w1.alloc (.map #[] 0)).heap.size=w1.heap.size+1 by simp);have HB2:=Hh (HB1.o.alloc HB1.o.size (.map #[] 0));have HMP:=Hh hmap;have HTN:=Hh hturn;have HP2:=Hh (qS w1 (.map #[] 0) HP1.o);clear hmap hturn;have hbm:w.heap.size<w1.heap.size:=by have:=HS1.o;omega
 have hbc:w1.heap.size<W3.heap.size:=by have:=HTN.o.grown.size;have:=HW2.o;omega
 have HB4:=Hh ((HB2.o.grown HTN.o.grown HB2.o.size (fun k hk=>by injection hk with hk;omega)).alloc (by omega) (.cells #[.map (some w1.heap.size)] 284));have HP4:=Hh (qS W3 (.cells #[.map (some w1.heap.size)] 284) ((HTN.o.grown.block _ (qA HP2.o) (fun h=>by injection h with h;omega)).trans HP2.o));have HC4:=Hh (zK1 W3 (.cells #[.map (some w1.heap.size)] 284));have HM4:=Hh ((HMP.o.kept (Below.toGrown ((zB _ W3).alloc (zo _) (.cells #[.map (some w1.heap.size)] 284)) none) (by simp)).congr (g:=kV (x.p.name::(zs.map (·.p.name)).take 0)) (fun z=>by simp[kV]));go_upto_region 3 with fail;clear hput y0;generalize W3.alloc (.cells #[.map (some w1.heap.size)] 284)=w4 at *;generalize hq1:W3.heap.size=bc at *;generalize hq2:w1.heap.size=bm at *;clear hq1 hq2;have hmany:zs.length≤40:=by have:=HP.o.many;simpa using this
 have H0:=Hh (show qOD w w4 w.heap.size bm bc #[.string ⟨x.p.name.toArray⟩,.slice x.a x.p.refs.length x.cap,.string x.t0,.string x.t1,.bool x.t2,.slice x.t3 x.t4 x.t5] (x.p.name::(zs.map (·.p.name)).take 0) 0 from ⟨HB4.o,HP4.o,HC4.o,HM4.o⟩);go_wp2_with fail
 go_loopw [22] (fun a wr=>∃ j:Nat,j≤i∧a=.int .i64 j∧Hg (qOD w wr w.heap.size bm bc #[.string ⟨x.p.name.toArray⟩,.slice x.a x.p.refs.length x.cap,.string x.t0,.string x.t1,.bool x.t2,.slice x.t3 x.t4 x.t5] (x.p.name::(zs.map (·.p.name)).take j) j)) (fun a _=>i-(intOf a).toNat)
 case atStart=>exact⟨0,zw _,rfl,H0⟩
 case round =>
  obtain⟨j,hji,rfl,HS⟩:=hrel;by_cases hj:j<i
  ·have hjz:j<zs.length:=by omega
   have k1:(j:Int)<(i:Int):=by omega
   have k0:(0:Int)≤(j:Int):=by omega
   obtain⟨b',off',e1,hb',s0,s1,s2,s3,s4,s5⟩:=(H.o.later HS.o.below).at hjz;injection e1 with e1
   injection e1 with e1 e2
   subst e1 e2;have hym:zs[j].p∈zs.map (·.p):=zb.2 ⟨_,zO hjz,rfl⟩;have hyl:zs[j].p.name.length≤1000000:=zq (mX (HP.o.well _ hym)) (by decide);have hne:(zs[j].p.name==x.p.name)=false:=by
    rw[zG1,HX.o];intro h;have hnd:=HP.o.names;rw[zW] at hnd;have:=(List.pairwise_iff_getElem.1 hnd) j i (by simpa using hjz) (by simpa using hi) hj;simp at this;exact this h
   have HTK:=Hh (show (zs.map (·.p.name)).take (j+1)=(zs.map (·.p.name)).take j++[zs[j].p.name] by
    rw[zn (by simpa using hjz)]
    simp)
   generalize zs[j]=y at *;have hb5:=(zB wr.heap.size wr).alloc (zo _) (.cells #[.string ⟨y.p.name.toArray⟩,.slice y.a y.p.refs.length y.cap,.string y.t0,.string y.t1,.bool y.t2,.slice y.t3 y.t4 y.t5] 260);have HY5:=Hh (zK1 wr (.cells #[.string ⟨y.p.name.toArray⟩,.slice y.a y.p.refs.length y.cap,.string y.t0,.string y.t1,.bool y.t2,.slice y.t3 y.t4 y.t5] 260));have HB5:=Hh (HS.o.below.alloc HS.o.below.size (.cells #[.string ⟨y.p.name.toArray⟩,.slice y.a y.p.refs.length y.cap,.string y.t0,.string y.t1,.bool y.t2,.slice y.t3 y.t4 y.t5] 260));have HP5:=Hh ((hb5.block _ (qA HS.o.own)).trans HS.o.own);have HC5:=Hh ((hb5.block _ (qA HS.o.cell)).trans HS.o.cell);have HM5:=Hh (HS.o.map.of_block (hb5.block _ HS.o.map.lt));have hlo:bc<wr.heap.size:=qA HS.o.cell;clear hb5 hym;go_upto_region 6 with fail;clear s0 s1 s2 s3 s4 s5;generalize wr.alloc (.cells #[.string ⟨y.p.name.toArray⟩,.slice y.a y.p.refs.length y.cap,.string y.t0,.string y.t1,.bool y.t2,.slice y.t3 y.t4 y.t5] 260)=w5 at *;have r0:w5.cell? ⟨wr.heap.size,0,none⟩=some (.string ⟨y.p.name.toArray⟩):=zJ1 w5 _ 0 _ _ _ HY5.o;have z0:w5.cell? ⟨w.heap.size,0,none⟩=some (.string ⟨x.p.name.toArray⟩):=zJ1 w5 _ 0 _ _ _ HP5.o;have cc:w5.cell? ⟨bc,0,none⟩=some (.map (some bm)):=zJ1 w5 _ 0 _ _ _ HC5.o;have hi6:=hi;go_wp2_with (at_mapUpdate;refine yR rfl _ _ _ 284 4 rfl okS Tryz.underlying284 rfl HM5.o (by have:=HP.o.many;simp at this;unfold maxLen;omega) y.p.name (by unfold maxLen;omega) rfl (.bool true) rfl ?_;intro W6 hmap6 hturn6);refine⟨⟨j+1,hj,by go_num,Hh ⟨?_,?_,?_,?_⟩⟩,by simp[intOf];omega⟩
   ·exact HB5.o.grown hturn6.grown HB5.o.size (fun k hk=>by injection hk with hk;omega)
   ·exact(hturn6.grown.block _ (qA HP5.o) (fun h=>by injection h with h;omega)).trans HP5.o
   ·exact(hturn6.grown.block _ (qA HC5.o) (fun h=>by injection h with h;omega)).trans HC5.o
   ·refine hmap6.congr fun z=>?_
    rw[HTK.o];unfold kV;by_cases hz:z=y.p.name
    ·subst hz;simp
    ·rw[zL1 hz];simp[hz]
  ·have k1:¬ (j:Int)<(i:Int):=by omega
   obtain rfl:j=i:=by omega
   have y1:wr.cell? ⟨w.heap.size,1,none⟩=some (.slice x.a x.p.refs.length x.cap):=zJ1 wr _ 1 _ _ _ HS.o.own;have hfew:(x.p.refs.length:Int)≤20:=by have:=HP.o.few _ HXM.o;omega
   obtain⟨wo,rfl⟩:∃ wo:World,wo=wr:=⟨_,rfl⟩;have hS0:=HXR.o.2.later HS.o.below;go_wp2_with fail
   go_loopw [9] (fun a wr=>Below wo.heap.size wo wr∧∃ k:Nat,k≤x.p.refs.length∧a=.int .i64 ((k+1:Nat):Int)) (fun a _=>x.p.refs.length+2-(intOf a).toNat)
   case atStart=>exact⟨zB _ _,0,zw _,rfl⟩
   case round =>
    obtain⟨hbo,k,hk,rfl⟩:=hrel;have HBO:=Hh hbo;have y1:wr.cell? ⟨w.heap.size,1,none⟩=some (.slice x.a x.p.refs.length x.cap):=zJ1 wr _ 1 _ _ _ ((hbo.block _ (qA HS.o.own)).trans HS.o.own);have hS1:=hS0.later hbo;by_cases hlt:k+1<x.p.refs.length
    ·have i3:((k+1:Nat):Int)<(x.p.refs.length:Int):=by omega
     have i4:(k:Int)+1<(x.p.refs.length:Int):=by omega
     have i5:(0:Int)≤(k:Int):=by omega
     obtain⟨A',c',e1,h1⟩:=hS1;injection e1 with e1 e2 e3
     obtain⟨g,o,e4,hg,hcell⟩:=h1 (by intro e;rw[e] at hlt;simp at hlt);rw[e1,e4] at y1;have hk0:k<x.p.refs.length:=by omega
     have m1:=hcell (k+1) _ (zL hlt);have m0:=hcell k _ (zL hk0);have hr:=(List.pairwise_iff_getElem.1 (HP.o.rise _ HXM.o)) k (k+1) hk0 hlt (Nat.lt_succ_self _);obtain⟨q1,q2⟩:=dN hr;generalize x.p.refs[k]=ra at *;generalize x.p.refs[k+1]=rb at *;clear e1 e2 e3 e4 h1 hcell hr hbo;go_wp2_with fail;go_quiet (fail);go_wp2;go_roundw
     case rel=>exact⟨Below.drewN HBO.o _,k+1,by omega,by go_num⟩
     case measure=>simp[intOf];omega
    ·have i3:¬ ((k+1:Nat):Int)<(x.p.refs.length:Int):=by omega
     have i4:¬ (k:Int)+1<(x.p.refs.length:Int):=by omega
     have HAA:=Hh (qMr _ _ bm bc wr (HS.o.map.of_block (hbo.block _ HS.o.map.lt)) ((hbo.block _ (qA HS.o.cell)).trans HS.o.cell) hS1 (fun z hz=>zq (mX (qJY HP.o HXM.o z hz)) (by decide)) (by have:=HP.o.few _ HXM.o;omega) (fun z hz=>by
      have:=qIl HP.o (i:=j) (by simpa using hi) z (by simpa[HX.o] using hz)
      rw[show (zs.map (·.p)).map (·.name)=zs.map (·.p.name) by rw[zW];rfl] at this
      rw[HX.o]
      simpa using this))
     clear hbo hS1;go_wp2_with (go_at_call 207;refine HAA.o.mono ?_;rintro ev w7 ⟨rfl,hb7⟩);go_ret;exact⟨rfl,HS.o.below.trans ((HBO.o.trans (hb7.mono HBO.o.size)).mono HS.o.below.size)⟩
theorem qEQ {w:World}{A:Option Addr}{zs:List PX}(h:PacksAt w A zs)(hP:nY (zs.map (·.p)))(cap:Nat)(hcap:zs.length≤cap) :
  Calls Tryz.prog 190 #[.slice A zs.length cap] w fun ev w'=>ev=.returned .nilIface∧Below w.heap.size w w':=by
 have HP:=Hh hP;have H:=Hh h;have hmany:zs.length≤40:=by have:=hP.many;simpa using this
 have i40:(zs.length:Int)≤40:=by omega
 clear hP h;go_enter Tryz.func190,Tryz.ntmps190;go_wp2_with fail
 go_loopw [12] (fun a wr=>Below w.heap.size w wr∧∃ j:Nat,j≤zs.length∧a=.int .i64 j) (fun a _=>zs.length-(intOf a).toNat)
 case atStart=>exact⟨zB _ _,0,zw _,rfl⟩
 case round =>
  obtain⟨hbr,j,hj0,rfl⟩:=hrel;have HBR:=Hh hbr;by_cases hj:j<zs.length
  ·have k1:(j:Int)<(zs.length:Int):=by omega
   have k0:(0:Int)≤(j:Int):=by omega
   obtain⟨b,off,hA,hb',s0,s1,s2,s3,s4,s5⟩:=(H.o.later hbr).at hj;subst hA;have hym:zs[j].p∈zs.map (·.p):=zb.2 ⟨_,zO hj,rfl⟩;have hyn:=HP.o.well _ hym;have hyl:zs[j].p.name.length≤1000000:=zq (mX hyn) (by decide);have HCK:=Hh (fun (w5:World) (hb:Below w.heap.size w w5)=>qLP (H.o.later hb) HP.o cap hcap hj);have HYN:=Hh hyn;generalize zs[j]=y at s0 s1 s2 s3 s4 s5 hyl HYN;have hb5:=(zB wr.heap.size wr).alloc (zo _) (.cells #[.string ⟨y.p.name.toArray⟩,.slice y.a y.p.refs.length y.cap,.string y.t0,.string y.t1,.bool y.t2,.slice y.t3 y.t4 y.t5] 260);have HY5:=Hh (zK1 wr (.cells #[.string ⟨y.p.name.toArray⟩,.slice y.a y.p.refs.length y.cap,.string y.t0,.string y.t1,.bool y.t2,.slice y.t3 y.t4 y.t5] 260));have HB5:=Hh (hbr.alloc hbr.size (.cells #[.string ⟨y.p.name.toArray⟩,.slice y.a y.p.refs.length y.cap,.string y.t0,.string y.t1,.bool y.t2,.slice y.t3 y.t4 y.t5] 260));clear hb5 hym hyn hbr;go_upto_region 6 with fail;clear s0 s1 s2 s3 s4 s5;generalize wr.alloc (.cells #[.string ⟨y.p.name.toArray⟩,.slice y.a y.p.refs.length y.cap,.string y.t0,.string y.t1,.bool y.t2,.slice y.t3 y.t4 y.t5] 260)=w5 at *;go_upto_region 7 with (go_at_call 248;refine(HCK.o w5 HB5.o).mono ?_;rintro ev w6 ⟨rfl,hb6⟩;have HB6:=Hh hb6;clear hb6);have HY6:=Hh ((HB6.o.block _ (qA HY5.o)).trans HY5.o);have z0:w6.cell? ⟨wr.heap.size,0,none⟩=some (.string ⟨y.p.name.toArray⟩):=zJ1 w6 _ 0 _ _ _ HY6.o;have HNM:=Hh (gD y.p.name w6 (by omega));rw[HYN.o] at HNM;go_wp2_with (go_at_call 103;refine HNM.o.mono ?_;rintro ev w7 ⟨rfl,hb7⟩;have HB7:=Hh hb7;clear hb7);go_roundw
   case rel=>exact⟨HB5.o.trans ((HB6.o.trans (HB7.o.mono HB6.o.size)).mono HB5.o.size),j+1,hj,by go_num⟩
   case measure=>simp[intOf];omega
  ·have k1:¬ (j:Int)<(zs.length:Int):=by omega
   go_wp2;go_ret;exact⟨rfl,HBR.o⟩
end Go.Proofs.YtbmkaekimccdgaaGreatDoor
