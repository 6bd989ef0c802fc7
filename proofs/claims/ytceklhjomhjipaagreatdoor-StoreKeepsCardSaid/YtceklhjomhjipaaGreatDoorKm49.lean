/- Texts of this claim, merged: SameKept, SameSto, DoGen. -/
import Derived.Deep.RegionWith
import Derived.Test.YtceklhjomhjipaaGreatDoorKm48
set_option maxHeartbeats 16000000
set_option maxRecDepth 1000000
set_option linter.all false
namespace Go.Proofs.YtceklhjomhjipaaGreatDoor
open Go.RowKit Go.Sort Go.Shelf Stl
theorem qCy (w:World) (o1 o2:Obj):((w.alloc o1).alloc o2).drew.heap[w.heap.size]?=some o1∧((w.alloc o1).alloc o2).drew.heap[w.heap.size+1]?=some o2∧Below w.heap.size w ((w.alloc o1).alloc o2).drew:=by
 refine ⟨qAj (w.alloc o1) o2 (zK1 w o1),?_,(((zB _ w).alloc (zq _) _).alloc (by simp) _).drew⟩
 have h:=zK1 (w.alloc o1) o2
 rw [show (w.alloc o1).heap.size=w.heap.size+1 by simp] at h
 exact h
theorem qQC {w:World} {g off:Nat} {s0 s1:ByteArray} {e:Bool} {A:Option Addr} {m c:Nat} {T:TypeId} {fr:Nat×Nat} {x y z:ByteArray} (h:w.heap[g]?=some (.cells #[.string s0,.string s1,.bool e,.slice A m c] T fr))
  (h0:w.cell? ⟨g,off,none⟩=some (.string x)) (h1:w.cell? ⟨g,off+1,none⟩=some (.string y)) (h2:w.cell? ⟨g,off+2,none⟩=some (.string z)):False:=by
 match off with
 | 0=>rw [zJ1 w _ 2 _ _ _ h] at h2;simp at h2
 | 1=>rw [zJ1 w _ 2 _ _ _ h] at h1;simp at h1
 | k+2=>rw [zJ1 w _ (k+4) _ _ _ h] at h2;simp at h2
mutual
theorem NodeAt.box {w:World} {g:Nat} {s0 s1:ByteArray} {e0:Bool} {A0:Option Addr} {m0 c0:Nat} {T:TypeId} {fr:Nat×Nat} (hg:w.heap[g]?=some (.cells #[.string s0,.string s1,.bool e0,.slice A0 m0 c0] T fr)):∀ (n:Nd) (vs:List Value),NodeAt w n vs→NodeP (fun b=>b≠g) w n vs
 | .mk k d e ks,vs,h=>by
  unfold NodeAt at h
  unfold NodeP
  obtain ⟨A,c,h1,h2,h3⟩:=h
  refine ⟨A,c,h1,h2,fun hn=>?_⟩
  obtain ⟨b,off,h4,h5,h6⟩:=h3 hn
  refine ⟨b,off,h4,⟨h5,fun hb=>?_⟩,KidsAt.box hg ks off h6⟩
  subst hb
  match ks,hn,h6 with
  | (nm,.mk k2 d2 e2 ks2)::r,_,h6 =>
   unfold KidsAt at h6
   obtain ⟨p1,⟨v0,v1,v2,v3,c0,c1,c2,c3,p2⟩,_⟩:=h6
   obtain ⟨A2,c2',he,_⟩:=NodeAt.open p2
   simp only [zD,and_true] at he
   obtain ⟨rfl,rfl,rfl,rfl⟩:=he
   exact qQC hg p1.1 c0 c1
theorem KidsAt.box {w:World} {g:Nat} {s0 s1:ByteArray} {e0:Bool} {A0:Option Addr} {m0 c0:Nat} {T:TypeId} {fr:Nat×Nat} (hg:w.heap[g]?=some (.cells #[.string s0,.string s1,.bool e0,.slice A0 m0 c0] T fr)) {b:Nat}:∀ (ks:List (List UInt8×Nd)) (off:Nat),KidsAt w b off ks→KidsP (fun b=>b≠g) w b off ks
 | [],_,_=>by unfold KidsP;trivial
 | (name,x)::r,off,h=>by
  unfold KidsAt at h
  unfold KidsP
  obtain ⟨h1,⟨v0,v1,v2,v3,c0,c1,c2,c3,h2⟩,h3⟩:=h
  exact ⟨h1,⟨v0,v1,v2,v3,c0,c1,c2,c3,NodeAt.box hg x _ h2⟩,KidsAt.box hg r (off+5) h3⟩
end
structure GotAt (p:Nat→Addr) (res:Except Nat Nd) (w0 wx:World) (g:Nat) (er:Value):Prop where
 er:er=qRj p res
 box:∃ (a0 a1:ByteArray) (a2:Bool) (A:Option Addr) (m cp:Nat),wx.heap[g]?=some (.cells #[.string a0,.string a1,.bool a2,.slice A m cp] 114 (0,0))∧NodeAt wx (qJX res) [.string a0,.string a1,.bool a2,.slice A m cp]
 below:Below w0.heap.size w0 wx
section
variable {p:Nat→Addr} {res:Except Nat Nd} {w0 w2:World} {g:Nat} {er:Value} {a0 a1:ByteArray} {a2:Bool} {A:Option Addr} {m cp:Nat}
theorem qIH (hb:Below w0.heap.size w0 w2) (he:er=qRj p res) (hn:NodeAt w2 (qJX res) [.string a0,.string a1,.bool a2,.slice A m cp]):GotAt p res w0 (w2.alloc (.cells #[.string a0,.string a1,.bool a2,.slice A m cp] 114)) w2.heap.size er :=
 ⟨he,⟨_,_,_,_,_,_,zK1 _ _,NodeAt.later ((zB _ _).alloc (zq _) _) _ _ hn⟩,hb.alloc hb.size _⟩
theorem qGT (hg:w0.heap.size≤g) (hb:Below w0.heap.size w0 w2) (hx:w2.heap[g]?=some (.cells #[.string ⟨#[]⟩,.string ⟨#[]⟩,.bool false,.slice none 0 0] 114 (0,0))) (he:er=qRj p res) (hn:NodeAt w2 (qJX res) [.string a0,.string a1,.bool a2,.slice A m cp]) :
  GotAt p res w0 ((((w2.setCell ⟨g,0,none⟩ (.string a0)).setCell ⟨g,1,none⟩ (.string a1)).setCell ⟨g,2,none⟩ (.bool a2)).setCell ⟨g,3,none⟩ (.slice A m cp)) g er :=
 ⟨he,⟨_,_,_,_,_,_,qAd (qAd (qAd (qAd hx 0 (.string a0)) 1 (.string a1)) 2 (.bool a2)) 3 (.slice A m cp),NodeP.at _ _ (NodeP.set4 (NodeAt.box hx _ _ hn) (fun _ h=>h))⟩,
  (((hb.setCell (p:=⟨g,0,none⟩) hg _).setCell (p:=⟨g,1,none⟩) hg _).setCell (p:=⟨g,2,none⟩) hg _).setCell (p:=⟨g,3,none⟩) hg _⟩
theorem GotAt.up {w3:World} (h:GotAt p res w0 w2 g er) (hb:Below w2.heap.size w2 w3):GotAt p res w0 w3 g er:=by
 obtain ⟨b0,b1,b2,B,n,c,h1,h2⟩:=h.box
 exact ⟨h.er,⟨b0,b1,b2,B,n,c,(hb.block _ (qAa h1)).trans h1,NodeAt.later hb _ _ h2⟩,h.below.trans (hb.mono h.below.size)⟩
end
theorem qIX {w:World} {c d:Nat→Col} {b b2 tp tp2:Nat} {p:Nat→Addr} {s:Sto} (h:StoAt w c b s tp) (k:StoAt w d b2 s tp2) (hg:qAS s) (hE:Env w c p) (i:Nat) (hi:i<s.l.length) :
  Calls Tryz.prog 27 #[.pointer (some ⟨b,0,none⟩),.pointer (some ⟨b2,0,none⟩),.int .i64 i] w fun e w'=>e=.returned (.bool true)∧Below w.heap.size w w':=by
 obtain ⟨bd,A,cap,zs,R,rc,hx⟩:=h.open
 obtain ⟨bd2,A2,cap2,zs2,R2,rc2,hy⟩:=k.open
 have hz1:i<zs.length:=by rw [hx.len];exact hi
 have hz2:i<zs2.length:=by rw [hy.len];exact hi
 have e1:zs[i].p=s.l[i]:=by
  have h:=congrArg (fun l:List Pk=>l[i]?) hx.eq
  simp only [zN,zL hz1,zL hi,zA1,zB1] at h
  exact h
 have e2:zs2[i].p=s.l[i]:=by
  have h:=congrArg (fun l:List Pk=>l[i]?) hy.eq
  simp only [zN,zL hz2,zL hi,zA1,zB1] at h
  exact h
 have hr1:=hx.ro _ (zO hz1)
 have hr2:=hy.ro _ (zO hz2)
 obtain ⟨g1,hA1,hg1,p0,p1,p2⟩:=hx.kept.at hz1
 obtain ⟨g2,hA2,hg2,r0,r1,r2⟩:=hy.kept.at hz2
 subst hA1 hA2
 obtain ⟨en,hen⟩:=qNO hg (zO hi)
 have hfw:=hg.ok.pks.few _ (zO hi)
 have hkq:=qMK hg.good hen
 rw [e1] at p0 p1 p2 hr1
 rw [e2] at r0 r1 r2 hr2
 have HG1:=Hh (fun (W:World) (hb:Below w.heap.size w W)=>qKT (p:=p) (hx.below hb).dirs hg.good s.l[i].k hkq (hE.errs.later hb) hen)
 have HG2:=Hh (fun (W:World) (hb:Below w.heap.size w W)=>qKT (p:=p) (hy.below hb).dirs hg.good s.l[i].k hkq (hE.errs.later hb) hen)
 have HEQ:=Hh (fun (W:World) (hb:Below w.heap.size w W)=>qGg zs[i].a zs2[i].a zs[i].cap zs2[i].cap s.l[i].refs (by omega) W ((hr1.2.strs zs[i].cap).later hb) ((hr2.2.strs zs2[i].cap).later hb))
 have c0:=ce0 hx.own
 have c1:=ce1 hx.own
 have d0:=ce0 hy.own
 have d1:=ce1 hy.own
 have hlb:=qAa hx.own
 have hlb2:=qAa hy.own
 have n1l:(i:Int)<(zs.length:Int):=by omega
 have n2l:(i:Int)<(zs2.length:Int):=by omega
 have n0l:(0:Int)≤(i:Int):=by omega
 generalize s.d.get s.l[i].k=res at *
 generalize s.l[i]=q at *
 generalize zs[i]=y at *
 generalize zs2[i]=z at *
 generalize zs.length=n1 at *
 generalize zs2.length=n2 at *
 generalize s.roots.length=n3 at *
 clear e1 e2 hr1 hr2 hen hx hy h k hE
 go_enter Tryz.func27,Tryz.ntmps27
 go_upto_region 1 with fail
 have hW:Below w.heap.size w ((w.alloc (.cells #[.string ⟨#[]⟩,.slice none 0 0,.int .i64 0] 93)).alloc (.cells #[.string ⟨#[]⟩,.slice none 0 0,.int .i64 0] 93)).drew:=(((zB _ w).alloc (zq _) _).alloc (by simp) _).drew
 have HB1:=Hh (qAj (w.alloc (.cells #[.string ⟨#[]⟩,.slice none 0 0,.int .i64 0] 93)) (.cells #[.string ⟨#[]⟩,.slice none 0 0,.int .i64 0] 93) (zK1 w (.cells #[.string ⟨#[]⟩,.slice none 0 0,.int .i64 0] 93)))
 have hx2:=zK1 (w.alloc (.cells #[.string ⟨#[]⟩,.slice none 0 0,.int .i64 0] 93)) (.cells #[.string ⟨#[]⟩,.slice none 0 0,.int .i64 0] 93)
 rw [show (w.alloc (.cells #[.string ⟨#[]⟩,.slice none 0 0,.int .i64 0] 93)).heap.size=w.heap.size+1 by simp] at hx2
 have HB2:=Hh hx2
 clear hx2
 have c1':=(hW.cell (p:=⟨b,1,none⟩) hlb).trans c1
 have d1':=(hW.cell (p:=⟨b2,1,none⟩) hlb2).trans d1
 have p0':=(hW.cell (p:=⟨g1,i*3,none⟩) hg1).trans p0
 have p1':=(hW.cell (p:=⟨g1,i*3+1,none⟩) hg1).trans p1
 have p2':=(hW.cell (p:=⟨g1,i*3+2,none⟩) hg1).trans p2
 have r0':=(hW.cell (p:=⟨g2,i*3,none⟩) hg2).trans r0
 have r1':=(hW.cell (p:=⟨g2,i*3+1,none⟩) hg2).trans r1
 have r2':=(hW.cell (p:=⟨g2,i*3+2,none⟩) hg2).trans r2
 simp only [World.cell?_drew] at c1' d1' p0' p1' p2' r0' r1' r2'
 clear hW
 go_cut [7,8] (fun a bx wx=>∃ g7 g8:Nat,a=.pointer (some ⟨g7,0,none⟩)∧bx=.pointer (some ⟨g8,0,none⟩)∧Hid (wx.heap[g7]?=some (.cells #[.string ⟨q.name.toArray⟩,.slice y.a q.refs.length y.cap,.int .i64 q.k] 93 (0,0))∧wx.heap[g8]?=some (.cells #[.string ⟨q.name.toArray⟩,.slice z.a q.refs.length z.cap,.int .i64 q.k] 93 (0,0))∧Below w.heap.size w wx))
 case first =>
  go_region
  all_goals
   go_wp2
   go_meet
   case rel=>first | exact ⟨_,_,rfl,rfl,Hh ⟨(qCy _ _ _).1,(qCy _ _ _).2.1,(qCy _ _ _).2.2⟩⟩ | exact ⟨_,_,rfl,rfl,Hh ⟨(qCy _ _ _).2.1,(qCy _ _ _).1,(qCy _ _ _).2.2⟩⟩
 case rest =>
  obtain ⟨g7,g8,rfl,rfl,HC⟩:=hcut
  clear c1' d1' p0' p1' p2' r0' r1' r2' HB1 HB2
  have HBC:=Hh HC.out.2.2
  have HZ7:=Hh HC.out.1
  have HZ8:=Hh HC.out.2.1
  have HLB:=Hh hlb
  have HLB2:=Hh hlb2
  clear c1 d1 p0 p1 p2 r0 r1 r2 hg1 hg2 n0l n1l n2l hz1 hz2 hlb hlb2 HC
  have HSS:=Hh (fun (w':World) (hb:Below wc.heap.size wc w')=>show w'.cell? ⟨g7,2,none⟩=some (.int .i64 q.k)∧w'.cell? ⟨b,0,none⟩=some (.pointer (some ⟨bd,0,none⟩)) from ⟨ce2 ((hb.block _ (qAa HZ7.out)).trans HZ7.out),(hb.cell (p:=⟨b,0,none⟩) (zu HLB.out HBC.out.size)).trans ((HBC.out.cell (p:=⟨b,0,none⟩) HLB.out).trans c0)⟩)
  have hs0:(fun w':World=>w'.cell? ⟨g7,2,none⟩=some (.int .i64 q.k)∧w'.cell? ⟨b,0,none⟩=some (.pointer (some ⟨bd,0,none⟩))) wc:=HSS.out _ (zB _ _)
  have HBN:=Hh ((zB wc.heap.size wc).alloc (zq _) (.cells #[.string ⟨#[]⟩,.string ⟨#[]⟩,.bool false,.slice none 0 0] 114))
  have HBD:=Hh (zB wc.heap.size wc).drew
  have HS1:=Hh (HSS.out _ HBN.out)
  have HWA:=Hh HBC.out.drew
  have HWB:=Hh (HBC.out.trans (HBN.out.mono HBC.out.size)).drew
  have HXB:Hid ((wc.alloc (.cells #[.string ⟨#[]⟩,.string ⟨#[]⟩,.bool false,.slice none 0 0] 114)).drew.heap[wc.heap.size]?=some (.cells #[.string ⟨#[]⟩,.string ⟨#[]⟩,.bool false,.slice none 0 0] 114 (0,0))):=Hh (zK1 _ _)
  have HN1:=Hh (show wc.heap.size≠g7∧wc.heap.size≠b from ⟨by have:=qAa HZ7.out;omega,by have:=HLB.out;have:=HBC.out.size;omega⟩)
  go_upto_region 2 with fail
  go_cut [9,10] (fun x e wx=>∃ (g:Nat) (er:Value),x=.pointer (some ⟨g,0,none⟩)∧e=er∧(er=.nilIface∨∃ u v,er=.iface u v)∧Hid (GotAt p res wc wx g er))
  case first =>
   go_region_held3 (fun w'=>w'.cell? ⟨g7,2,none⟩=some (.int .i64 q.k)∧w'.cell? ⟨b,0,none⟩=some (.pointer (some ⟨bd,0,none⟩)))
    (first
     | exact hs0
     | exact HS1.out
     | exact HS2.out
     | exact HSA.out _
     | exact ⟨qAP HS2.out.1 HN1.out.1,qAP HS2.out.2 HN1.out.2⟩
     | go_keep)
    (first
     | (go_at_call 56;((with_reducible refine (HG1.out _ HWA.out).mono ?_);rintro ev w2 ⟨hb2,a0,a1,a2,A2,m,cp,er,rfl,he,hcs,hn⟩;have HCA:=Hh hcs;have hb3:=HBD.out.trans hb2;have HGA:=Hh (qIH hb3 he hn);have HS2:=Hh (HSS.out _ hb3);have HSA:=Hh (fun o:Obj=>HSS.out _ (hb3.alloc hb3.size o));clear hb2 hb3 he hcs hn))
     | (go_at_call 56;((with_reducible refine (HG1.out _ HWB.out).mono ?_);rintro ev w2 ⟨hb2,a0,a1,a2,A2,m,cp,er,rfl,he,hcs,hn⟩;have HCA:=Hh hcs;have hb3:=HBN.out.drew.trans (hb2.mono HBN.out.size);have hy2:=(hb2.block _ (qAa HXB.out)).trans HXB.out;have HGA:=Hh (qGT (zq _) hb3 hy2 he hn);have HS2:=Hh (HSS.out _ hb3);have z0:=ce0 hy2;have z1:=ce1 hy2;have z2:=ce2 hy2;have z3:=ce3 hy2;have f0:=qAb hy2 0;have f1:=qAb hy2 1;have f2:=qAb hy2 2;have f3:=qAb hy2 3;clear hb2 he hcs hn hy2 hb3))
     | fail)
   all_goals
    go_wp2
    go_meet
    case rel=>exact ⟨_,_,rfl,rfl,HCA.out,HGA⟩
  case rest =>
   obtain ⟨g9,er,rfl,rfl,hcs,HGA⟩:=hcut
   have HCA:=Hh hcs
   clear hs0 HSS HBN HBD HS1 HWA HWB HXB HN1 hcs
   have HBC2:=Hh (HBC.out.trans (HGA.out.below.mono HBC.out.size))
   have HZ7':=Hh ((HGA.out.below.block _ (qAa HZ7.out)).trans HZ7.out)
   have HZ8':=Hh ((HGA.out.below.block _ (qAa HZ8.out)).trans HZ8.out)
   clear HZ7 HZ8
   have HSS:=Hh (fun (w':World) (hb:Below wc.heap.size wc w')=>show w'.cell? ⟨g8,2,none⟩=some (.int .i64 q.k)∧w'.cell? ⟨b2,0,none⟩=some (.pointer (some ⟨bd2,0,none⟩)) from ⟨ce2 ((hb.block _ (qAa HZ8'.out)).trans HZ8'.out),(hb.cell (p:=⟨b2,0,none⟩) (zu HLB2.out HBC2.out.size)).trans ((HBC2.out.cell (p:=⟨b2,0,none⟩) HLB2.out).trans d0)⟩)
   have hs0:(fun w':World=>w'.cell? ⟨g8,2,none⟩=some (.int .i64 q.k)∧w'.cell? ⟨b2,0,none⟩=some (.pointer (some ⟨bd2,0,none⟩))) wc:=HSS.out _ (zB _ _)
   have HBN:=Hh ((zB wc.heap.size wc).alloc (zq _) (.cells #[.string ⟨#[]⟩,.string ⟨#[]⟩,.bool false,.slice none 0 0] 114))
   have HBD:=Hh (zB wc.heap.size wc).drew
   have HS1:=Hh (HSS.out _ HBN.out)
   have HWA:=Hh HBC2.out.drew
   have HWB:=Hh (HBC2.out.trans (HBN.out.mono HBC2.out.size)).drew
   have HXB:Hid ((wc.alloc (.cells #[.string ⟨#[]⟩,.string ⟨#[]⟩,.bool false,.slice none 0 0] 114)).drew.heap[wc.heap.size]?=some (.cells #[.string ⟨#[]⟩,.string ⟨#[]⟩,.bool false,.slice none 0 0] 114 (0,0))):=Hh (zK1 _ _)
   have HN1:=Hh (show wc.heap.size≠g8∧wc.heap.size≠b2 from ⟨by have:=qAa HZ8'.out;omega,by have:=HLB2.out;have:=HBC2.out.size;omega⟩)
   go_upto_region 3 with fail
   go_cut [11,12] (fun x e wx=>∃ (g:Nat) (er:Value),x=.pointer (some ⟨g,0,none⟩)∧e=er∧(er=.nilIface∨∃ u v,er=.iface u v)∧Hid (GotAt p res wc wx g er))
   case first =>
    go_region_held3 (fun w'=>w'.cell? ⟨g8,2,none⟩=some (.int .i64 q.k)∧w'.cell? ⟨b2,0,none⟩=some (.pointer (some ⟨bd2,0,none⟩)))
     (first
      | exact hs0
      | exact HS1.out
      | exact HS2.out
      | exact HSA.out _
      | exact ⟨qAP HS2.out.1 HN1.out.1,qAP HS2.out.2 HN1.out.2⟩
      | go_keep)
     (first
      | (go_at_call 56;((with_reducible refine (HG2.out _ HWA.out).mono ?_);rintro ev w2 ⟨hb2,a0,a1,a2,A2,m,cp,er,rfl,he,hcs,hn⟩;have HCA:=Hh hcs;have hb3:=HBD.out.trans hb2;have HGA:=Hh (qIH hb3 he hn);have HS2:=Hh (HSS.out _ hb3);have HSA:=Hh (fun o:Obj=>HSS.out _ (hb3.alloc hb3.size o));clear hb2 hb3 he hcs hn))
      | (go_at_call 56;((with_reducible refine (HG2.out _ HWB.out).mono ?_);rintro ev w2 ⟨hb2,a0,a1,a2,A2,m,cp,er,rfl,he,hcs,hn⟩;have HCA:=Hh hcs;have hb3:=HBN.out.drew.trans (hb2.mono HBN.out.size);have hy2:=(hb2.block _ (qAa HXB.out)).trans HXB.out;have HGA:=Hh (qGT (zq _) hb3 hy2 he hn);have HS2:=Hh (HSS.out _ hb3);have z0:=ce0 hy2;have z1:=ce1 hy2;have z2:=ce2 hy2;have z3:=ce3 hy2;have f0:=qAb hy2 0;have f1:=qAb hy2 1;have f2:=qAb hy2 2;have f3:=qAb hy2 3;clear hb2 he hcs hn hy2 hb3))
      | fail)
    all_goals
     go_wp2
     go_meet
     case rel=>exact ⟨_,_,rfl,rfl,HCA.out,HGA⟩
   case rest =>
    obtain ⟨g11,er2,rfl,rfl,hcs2,HGB⟩:=hcut
    clear hs0 HSS HBN HBD HS1 HWA HWB HXB HN1 hcs2
    have HBC3:=Hh (HBC2.out.trans (HGB.out.below.mono HBC2.out.size))
    have HZ7:=Hh ((HGB.out.below.block _ (qAa HZ7'.out)).trans HZ7'.out)
    have HZ8:=Hh ((HGB.out.below.block _ (qAa HZ8'.out)).trans HZ8'.out)
    have HGA':=Hh (HGA.out.up HGB.out.below)
    have hee:=HGB.out.er.trans HGA.out.er.symm
    subst hee
    clear HZ7' HZ8'
    have hsm:qCO (qJX res) (qJX res)=true:=(qJh _ _).2 rfl
    have HSM:=Hh hsm
    obtain ⟨a0,a1,a2,A9,m9,c9,hxA,hnA⟩:=HGA'.out.box
    obtain ⟨b0,b1,b2',A11,m11,c11,hxB,hnB⟩:=HGB.out.box
    have HXA:=Hh hxA
    have HNA:=Hh hnA
    have HXB:=Hh hxB
    have HNB:=Hh hnB
    have HWA:=Hh HBC3.out.drew
    have HBD:=Hh (zB wc.heap.size wc).drew
    clear hsm hxA hnA hxB hnB HGA' HGB HGA
    generalize qJX res=nd at *
    go_upto_region 4 with fail
    have HSS:=Hh (fun (w':World) (hb:Below wc.heap.size wc w')=>show w'.cell? ⟨g7,0,none⟩=some (.string ⟨q.name.toArray⟩)∧w'.cell? ⟨g7,1,none⟩=some (.slice y.a q.refs.length y.cap)∧w'.cell? ⟨g8,0,none⟩=some (.string ⟨q.name.toArray⟩)∧w'.cell? ⟨g8,1,none⟩=some (.slice z.a q.refs.length z.cap)∧w'.cell? ⟨g9,0,none⟩=some (.string a0)∧w'.cell? ⟨g9,1,none⟩=some (.string a1)∧w'.cell? ⟨g9,2,none⟩=some (.bool a2)∧w'.cell? ⟨g9,3,none⟩=some (.slice A9 m9 c9)∧w'.cell? ⟨g11,0,none⟩=some (.string b0)∧w'.cell? ⟨g11,1,none⟩=some (.string b1)∧w'.cell? ⟨g11,2,none⟩=some (.bool b2')∧w'.cell? ⟨g11,3,none⟩=some (.slice A11 m11 c11) from ⟨ce0 ((hb.block _ (qAa HZ7.out)).trans HZ7.out),ce1 ((hb.block _ (qAa HZ7.out)).trans HZ7.out),ce0 ((hb.block _ (qAa HZ8.out)).trans HZ8.out),ce1 ((hb.block _ (qAa HZ8.out)).trans HZ8.out),ce0 ((hb.block _ (qAa HXA.out)).trans HXA.out),ce1 ((hb.block _ (qAa HXA.out)).trans HXA.out),ce2 ((hb.block _ (qAa HXA.out)).trans HXA.out),ce3 ((hb.block _ (qAa HXA.out)).trans HXA.out),ce0 ((hb.block _ (qAa HXB.out)).trans HXB.out),ce1 ((hb.block _ (qAa HXB.out)).trans HXB.out),ce2 ((hb.block _ (qAa HXB.out)).trans HXB.out),ce3 ((hb.block _ (qAa HXB.out)).trans HXB.out)⟩)
    have hs0:(fun w':World=>w'.cell? ⟨g7,0,none⟩=some (.string ⟨q.name.toArray⟩)∧w'.cell? ⟨g7,1,none⟩=some (.slice y.a q.refs.length y.cap)∧w'.cell? ⟨g8,0,none⟩=some (.string ⟨q.name.toArray⟩)∧w'.cell? ⟨g8,1,none⟩=some (.slice z.a q.refs.length z.cap)∧w'.cell? ⟨g9,0,none⟩=some (.string a0)∧w'.cell? ⟨g9,1,none⟩=some (.string a1)∧w'.cell? ⟨g9,2,none⟩=some (.bool a2)∧w'.cell? ⟨g9,3,none⟩=some (.slice A9 m9 c9)∧w'.cell? ⟨g11,0,none⟩=some (.string b0)∧w'.cell? ⟨g11,1,none⟩=some (.string b1)∧w'.cell? ⟨g11,2,none⟩=some (.bool b2')∧w'.cell? ⟨g11,3,none⟩=some (.slice A11 m11 c11)) wc:=HSS.out _ (zB _ _)
    rcases HCA.out with rfl | ⟨u,v,rfl⟩
    all_goals
     clear HCA
     go_region_held3 (fun w'=>w'.cell? ⟨g7,0,none⟩=some (.string ⟨q.name.toArray⟩)∧w'.cell? ⟨g7,1,none⟩=some (.slice y.a q.refs.length y.cap)∧w'.cell? ⟨g8,0,none⟩=some (.string ⟨q.name.toArray⟩)∧w'.cell? ⟨g8,1,none⟩=some (.slice z.a q.refs.length z.cap)∧w'.cell? ⟨g9,0,none⟩=some (.string a0)∧w'.cell? ⟨g9,1,none⟩=some (.string a1)∧w'.cell? ⟨g9,2,none⟩=some (.bool a2)∧w'.cell? ⟨g9,3,none⟩=some (.slice A9 m9 c9)∧w'.cell? ⟨g11,0,none⟩=some (.string b0)∧w'.cell? ⟨g11,1,none⟩=some (.string b1)∧w'.cell? ⟨g11,2,none⟩=some (.bool b2')∧w'.cell? ⟨g11,3,none⟩=some (.slice A11 m11 c11))
      (first
       | exact hs0
       | exact HS3.out
       | exact HS4.out
       | go_keep)
      (first
       | (go_at_call 23;((with_reducible refine (HEQ.out _ HWA.out).mono ?_);rintro ev w3 ⟨rfl,hb3⟩;have hb4:=HBD.out.trans hb3;have HS3:=Hh (HSS.out _ hb4);have HB3:=Hh (HBC3.out.trans (hb4.mono HBC3.out.size));have HB43:=Hh hb4;have hsa:=qKM w3 (Stl.wt nd) nd nd (zq _) _ _ w3 (zB _ _) (NodeAt.later hb4 _ _ HNA.out) (NodeAt.later hb4 _ _ HNB.out);rw [HSM.out] at hsa;have HSA:=Hh hsa;clear hb3 hb4 hsa))
       | (go_at_call 57;((with_reducible refine HSA.out.mono ?_);rintro ev w4 ⟨rfl,hb5⟩;have HB4:=Hh (HB3.out.trans (hb5.mono HB3.out.size));have HS4:=Hh (HSS.out _ (HB43.out.trans (hb5.mono HB43.out.size)));clear hb5))
       | fail)
     go_wp2
     go_ret
     exact ⟨rfl,HB4.out⟩
theorem qDX {w:World} {c d:Nat→Col} {b b2 tp tp2:Nat} {p:Nat→Addr} {s:Sto} (h:StoAt w c b s tp) (k:StoAt w d b2 s tp2) (hg:qAS s) (hE:Env w c p) :
  Calls Tryz.prog 12 #[.pointer (some ⟨b,0,none⟩),.pointer (some ⟨b2,0,none⟩)] w fun e w'=>e=.returned (.bool true)∧Below w.heap.size w w':=by
 have HSK:=Hh (fun (W:World) (hb:Below w.heap.size w W) (i:Nat) (hi:i<s.l.length)=>qIX (h.ext (Ext.of_below hb c S0) rfl (fun _ _=>rfl)) (k.ext (Ext.of_below hb d S0) rfl (fun _ _=>rfl)) hg (hE.below hb) i hi)
 obtain ⟨bd,A,cap,zs,R,rc,hx⟩:=h.open
 obtain ⟨bd2,A2,cap2,zs2,R2,rc2,hy⟩:=k.open
 have hl1:=hx.len
 have hl2:=hy.len
 have hrl:=qCt hg.ok
 have HEQ:=Hh (fun (W:World) (hb:Below w.heap.size w W)=>qGg R R2 rc rc2 s.roots (by omega) W ((qBI hx.roots.1).later hb) ((qBI hy.roots.1).later hb))
 have HS1:=Hh (fun (W:World) (hb:Below w.heap.size w W)=>qIf (hx.below hb) hg)
 have HS2:=Hh (fun (W:World) (hb:Below w.heap.size w W)=>qIf (hy.below hb) hg)
 have HBK:=Hh (show ∀ x∈qDk s.d.t,x.blocks.length≤1000000 from fun x hxm=>by
  obtain ⟨n,hn,rfl⟩:=ze.1 hxm
  have h1:=all_some hn
  have:=hg.ok.dirs.tab.need n _ h1
  have:=hg.ok.dirs.tab.bytes n _ h1
  unfold qAA at *
  omega)
 have HSL:=Hh (show (qDk s.d.t).length≤1000000 from by
  have h1:=zS (fun n=>(s.d.t.at_ n).isSome) (List.range s.d.t.l.length)
  rw [List.length_range] at h1
  have h2:=hg.good.inos
  unfold qDk Tab.all
  rw [zT]
  omega)
 have c1:=ce1 hx.own
 have c2:=ce2 hx.own
 have d1:=ce1 hy.own
 have d2:=ce2 hy.own
 have hlb:=qAa hx.own
 have hlb2:=qAa hy.own
 have HLB:=Hh hlb
 have HLB2:=Hh hlb2
 rw [hl1] at c1
 rw [hl2] at d1
 have hfew:=hg.ok.pks.many
 generalize s.roots.length=n3 at *
 generalize hn1:s.l.length=n1 at *
 have HSK':=HSK
 clear hx hy h k hg hE hl1 hl2 hlb hlb2 HSK hn1
 have HD0:=Hh (zB w.heap.size w).drew
 go_enter Tryz.func12,Tryz.ntmps12
 go_upto_region 3 with fail
 have HSS:=Hh (fun (w':World) (hb:Below w.heap.size w w')=>show w'.cell? ⟨b,1,none⟩=some (.slice A n1 cap)∧w'.cell? ⟨b,2,none⟩=some (.slice R n3 rc)∧w'.cell? ⟨b2,1,none⟩=some (.slice A2 n1 cap2)∧w'.cell? ⟨b2,2,none⟩=some (.slice R2 n3 rc2) from ⟨(hb.cell (p:=⟨b,1,none⟩) HLB.out).trans c1,(hb.cell (p:=⟨b,2,none⟩) HLB.out).trans c2,(hb.cell (p:=⟨b2,1,none⟩) HLB2.out).trans d1,(hb.cell (p:=⟨b2,2,none⟩) HLB2.out).trans d2⟩)
 have hs0:(fun w':World=>w'.cell? ⟨b,1,none⟩=some (.slice A n1 cap)∧w'.cell? ⟨b,2,none⟩=some (.slice R n3 rc)∧w'.cell? ⟨b2,1,none⟩=some (.slice A2 n1 cap2)∧w'.cell? ⟨b2,2,none⟩=some (.slice R2 n3 rc2)) w:=⟨c1,c2,d1,d2⟩
 clear c2 d1 d2
 go_region_held3 (fun w'=>w'.cell? ⟨b,1,none⟩=some (.slice A n1 cap)∧w'.cell? ⟨b,2,none⟩=some (.slice R n3 rc)∧w'.cell? ⟨b2,1,none⟩=some (.slice A2 n1 cap2)∧w'.cell? ⟨b2,2,none⟩=some (.slice R2 n3 rc2))
  (first
   | exact hs0
   | exact HT1.out
   | exact HT2.out
   | exact HT3.out
   | exact HT4.out
   | go_keep)
  (first
   | (go_at_call 23;((with_reducible refine (HEQ.out _ HD0.out).mono ?_);rintro ev w1 ⟨rfl,hb1⟩;have HB1:=Hh (HD0.out.trans hb1);have HT1:=Hh (HSS.out _ HB1.out);clear hb1))
   | (go_at_call 25;((with_reducible refine (HS1.out _ HB1.out).mono ?_);rintro ev w2 ⟨A5,cp5,ys5,rfl,hst5,hye5,hb2⟩;have HB2:=Hh (HB1.out.trans (hb2.mono HB1.out.size));have HT2:=Hh (HSS.out _ HB2.out);have HST5:=Hh hst5;have HYE5:=Hh hye5;clear hb2 hst5 hye5))
   | (go_at_call 25;((with_reducible refine (HS2.out _ HB2.out).mono ?_);rintro ev w3 ⟨A6,cp6,ys6,rfl,hst6,hye6,hb3⟩;have HB3:=Hh (HB2.out.trans (hb3.mono HB2.out.size));have HT3:=Hh (HSS.out _ HB3.out);have HEF:=Hh (qMn (c:=cp5) (c2:=cp6) (HST5.out.later hb3) hst6 HYE5.out hye6 HBK.out HSL.out);clear hb3 hst6 hye6))
   | (go_at_call 24;((with_reducible refine HEF.out.mono ?_);rintro ev w4 ⟨rfl,hb4⟩;have HB4:=Hh (HB3.out.trans (hb4.mono HB3.out.size));have HT4:=Hh (HSS.out _ HB4.out);clear hb4))
   | fail)
 have q1:=(HB4.out.cell (p:=⟨b,1,none⟩) HLB.out).trans c1
 go_upto_region 6 with fail
 clear q1 c1
 go_loopw [51] (fun a wr=>∃ i:Nat,a=.int .i64 i∧i≤n1∧Hid (Below w.heap.size w wr)) (fun a _=>n1-(intOf a).toNat)
 case atStart=>exact ⟨0,rfl,zx _,HB4⟩
 case round =>
  obtain ⟨i,rfl,hi,HB⟩:=hrel
  by_cases hil:i<n1
  ·have i1:(i:Int)<(n1:Int):=by omega
   have i2:(0:Int)≤(i:Int):=by omega
   have HSI:=Hh (HSK'.out _ HB.out i hil)
   go_wp2_with (go_at_call 27;refine HSI.out.mono ?_;rintro ev w5 ⟨rfl,hb5⟩;have HB5:=Hh (HB.out.trans (hb5.mono HB.out.size));clear hb5)
   go_roundw
   case rel=>exact ⟨i+1,by go_num,hil,HB5⟩
   case measure=>simp [intOf];omega
  ·have i1:¬ (i:Int)<(n1:Int):=by omega
   go_wp2
   go_ret
   exact ⟨rfl,HB.out⟩
section
variable {w:World} {A:Option Addr} {zs:List PkX} {c:Nat→Col} {b:Nat} {s:Sto} {bd:Nat} {cap:Nat} {R:Option Addr} {rc tp:Nat} {p:Nat→Addr}
theorem qQW {t:Stl.Tape} (h:StoX w c b s bd A cap zs R rc tp) (ht:TapeAt w c tp t) (hg:qAS s) (hE:Env w c p) (line:List UInt8) (hr:line.length≤1000000) (h1:t.b.length≤1048576) (h2:∀ n,t.cut=some n→n≤9223372036854775807) :
  Calls Tryz.prog 10 #[.pointer (some ⟨b,0,none⟩),.string ⟨line.toArray⟩] w (qPK p w c b tp s t line):=by
 have hfew:=h.few hg.ok
 have H:=Hh h
 have HT:=Hh ht
 have HG:=Hh hg
 have HE:=Hh hE
 have HOF:=Hh h1
 have HCU:=Hh h2
 have HCO:=Hh (qG2 (kDo c) (fun k hk=>by unfold kDo;rw [zM1 hk]) h hg.good (by omega) (by have:=qCt hg.ok;omega))
 obtain ⟨chg,hchg⟩:∃ chg,chg=s.change line:=⟨_,rfl⟩
 have HCH:=Hh hchg
 have hbl:=qAa h.own
 clear h ht hg hE h1 h2
 go_enter Tryz.func10,Tryz.ntmps10
 go_upto_region 2 with (go_at_call 17;refine HCO.out.mono ?_;rintro ev w2 ⟨b2,c2,rfl,hb2,hc2,hge2,hst2⟩;have HB2:=Hh hb2;have HC2:=Hh hc2;have HST2:=Hh hst2;clear hb2 hc2 hst2)
 have he2:Ext w w2 c c2 qJl:=(Ext.of_below HB2.out c qJl).recolor fun k hk hs=>(HC2.out k hk).trans (qHk hs)
 have HE2:=Hh he2
 have HEN2:=Hh (HE.out.ext he2 rfl)
 obtain ⟨bd2,A2,cap2,zs2,R2,rc2,hx2⟩:=HST2.out.open
 have HX2:=Hh hx2
 have HLOW:=Hh (show ∀ k,k<w.heap.size→qDx (c2 k)=false from fun k hk=>by rw [HC2.out k hk];exact qHr c k)
 have HCC:=Hh (qC8 hx2 HG.out HEN2.out line (by omega))
 rw [← hchg] at HCC
 clear he2 hx2 hchg
 cases chg with
 | none =>
  have HDL:=Hh (show qAh s t line=(s.tell line,s,t) from by unfold qAh;rw [← HCH.out])
  go_upto_region 4 with (go_at_call 18;refine HCC.out.mono ?_;rintro ev w3 ⟨a3,er3,is3,rfl,rfl,rfl,hb3⟩;have HB3:=Hh hb3;clear hb3)
  have HTL:=Hh (qLa (HX2.out.below HB3.out) HG.out (HEN2.out.below HB3.out) line (by omega))
  have HB23:=Hh (HB2.out.trans (HB3.out.mono HB2.out.size))
  cases htl:s.tell line with
  | error cd =>
   rw [htl] at HTL HDL
   clear htl
   go_upto_region 5 with (go_at_call 19;refine HTL.out.mono ?_;rintro ev w4 ⟨a4,er4,rfl,hb4,rfl,hcd⟩;have HB4:=Hh (HB23.out.trans (hb4.mono HB23.out.size));have HEO:=Hh (qAc p hcd);have HCD:=Hh hcd;clear hb4 hcd)
   rw [HEO.out]
   have HBR:=Hh (qDg (p cd) w4 (HE.out.below HB4.out).errs)
   go_wp2_with (go_at_call 21;refine HBR.out.mono ?_;rintro ev w5 ⟨rfl,hb5⟩;have HB5:=Hh (HB4.out.trans (hb5.mono HB4.out.size));clear hb5)
   go_ret2
   refine ⟨_,_,c,rfl,Ext.of_below HB5.out c Sdo,?_⟩
   rw [HDL.out]
   exact ⟨(H.out.below HB5.out).shut,HT.out.ext (Ext.of_below HB5.out c S0) rfl rfl,by rw [HEO.out];rfl,HCD.out,rfl⟩
  | ok x =>
   rw [htl] at HTL HDL
   clear htl
   go_upto_region 5 with (go_at_call 19;refine HTL.out.mono ?_;rintro ev w4 ⟨a4,er4,rfl,hb4,rfl,rfl⟩;have HB4:=Hh (HB23.out.trans (hb4.mono HB23.out.size));clear hb4)
   go_wp2
   go_ret2
   refine ⟨_,_,c,rfl,Ext.of_below HB4.out c Sdo,?_⟩
   rw [HDL.out]
   exact ⟨(H.out.below HB4.out).shut,HT.out.ext (Ext.of_below HB4.out c S0) rfl rfl,rfl,rfl⟩
 | some res =>
  cases res with
  | error cd =>
   have HDL:=Hh (show qAh s t line=(.error cd,s,t) from by unfold qAh;rw [← HCH.out])
   go_upto_region 5 with (go_at_call 18;refine HCC.out.mono ?_;rintro ev w3 ⟨a3,er3,is3,rfl,rfl,hch⟩;obtain ⟨⟨rfl,hcd⟩,c3,he3⟩:=qG0 hch;have HE3:=Hh he3;have HEO:=Hh (qAc p hcd);have HCD:=Hh hcd;clear he3 hcd hch)
   have HB3:=Hh (HB2.out.trans (HE3.out.below HB2.out.size HLOW.out))
   rw [HEO.out]
   have HBR:=Hh (qDg (p cd) w3 (HE.out.below HB3.out).errs)
   go_wp2_with (go_at_call 21;refine HBR.out.mono ?_;rintro ev w5 ⟨rfl,hb5⟩;have HB5:=Hh (HB3.out.trans (hb5.mono HB3.out.size));clear hb5)
   go_ret2
   refine ⟨_,_,c,rfl,Ext.of_below HB5.out c Sdo,?_⟩
   rw [HDL.out]
   exact ⟨(H.out.below HB5.out).shut,HT.out.ext (Ext.of_below HB5.out c S0) rfl rfl,by rw [HEO.out];rfl,HCD.out,rfl⟩
  | ok q =>
   obtain ⟨a,s1⟩:=q
   obtain ⟨ra,hra⟩:∃ ra,ra=t.append line:=⟨_,rfl⟩
   have HDL:=Hh (show qAh s t line=if ra.1=0 then (.ok a,s1,ra.2) else (.error ra.1,s,ra.2) from by unfold qAh;rw [← HCH.out,hra])
   go_upto_region 5 with (go_at_call 18;refine HCC.out.mono ?_;rintro ev w3 ⟨a3,er3,is3,rfl,rfl,hch⟩;obtain ⟨⟨rfl,rfl⟩,c3,he3,hs3⟩:=qFT hch;have HE3:=Hh he3;have HS3:=Hh hs3;clear he3 hch hs3)
   have HB3:=Hh (HB2.out.trans (HE3.out.below HB2.out.size HLOW.out))
   have HX3:=Hh (H.out.below HB3.out)
   have HT3:=Hh ((HT.out.ext HE2.out rfl rfl).ext HE3.out rfl rfl)
   have c3b:=ce3 HX3.out.own
   have HAW:=Hh (qLl HT3.out (HEN2.out.ext HE3.out rfl) line (by omega) HOF.out HCU.out)
   rw [← hra] at HAW
   clear hra
   by_cases hr0:ra.1=0
   case neg =>
    rw [zL1 hr0] at HDL
    have HEO:=Hh (qAc p hr0)
    have HCD:=Hh hr0
    have HAW0:=Hh (show Calls Tryz.prog 20 #[.pointer (some ⟨tp,0,none⟩),.string ⟨line.toArray⟩] w3 (fun e w'=>e=.returned (.iface 377 (.pointer (some (p ra.1))))∧∃ c2,Ext w3 w' c3 c2 qAY∧TapeAt w' c2 tp ra.2) from HAW.out.mono (by
     rintro ev w' ⟨rfl,h⟩
     exact ⟨by rw [HEO.out],h⟩))
    clear HAW hr0
    go_upto_region 7 with (go_at_call 20;refine HAW0.out.mono ?_;rintro ev w4 ⟨rfl,c4,he4,ht4⟩;have HE4:=Hh he4;have HT4:=Hh ht4;clear he4 ht4)
    clear c3b
    have HBR:=Hh (qDg (p ra.1) w4 ((HEN2.out.ext HE3.out rfl).ext HE4.out rfl).errs)
    go_wp2_with (go_at_call 21;refine HBR.out.mono ?_;rintro ev w5 ⟨rfl,hb5⟩;have HB5:=Hh hb5;clear hb5)
    go_ret2
    have hlt4:w.heap.size≤w4.heap.size:=zr (zr HB2.out.size HE3.out.size) HE4.out.size
    have key:∀ k,k<w.heap.size→qAY (c k)=false→(w4.heap[k]?=w.heap[k]?∧c4 k=kDo c k∧(kDo c k=.ro∨kDo c k=.dead)):=fun k hk hs=>by
     have hd:kDo c k=.ro∨kDo c k=.dead:=by
      unfold kDo
      cases hc:c k<;>simp [hc] at hs ⊢<;>cases hs
     have e2:=HC2.out k hk
     have hk2:=zu hk HB2.out.size
     obtain ⟨k3,m3⟩:=HE3.out.keep k hk2 (by rw [e2];exact qHr c k)
     have hc3:c3 k=kDo c k:=m3.trans e2
     obtain ⟨k4,m4⟩:=HE4.out.keep k (zu hk2 HE3.out.size) (by rw [hc3];rcases hd with h | h<;>rw [h]<;>rfl)
     exact ⟨k4.trans (k3.trans (HB2.out.block k hk)),m4.trans hc3,hd⟩
    have KEY:=Hh key
    have e5:Ext w w4 c (fun k=>if k<w.heap.size∧qAY (c k)=false then c k else c4 k) qAY :=
     ⟨HE4.out.os.trans (HE3.out.os.trans HB2.out.os),HE4.out.tape.trans (HE3.out.tape.trans HB2.out.tape),HE4.out.output.trans (HE3.out.output.trans HB2.out.output),hlt4,fun k hk hs=>⟨(KEY.out k hk hs).1,zM1 ⟨hk,hs⟩⟩⟩
    have e6:Ext w4 w4 c4 (fun k=>if k<w.heap.size∧qAY (c k)=false then c k else c4 k) (fun y=>!qAY y) :=
     (Ext.refl w4 c4 _).recolor fun k hk hs=>zL1 fun h=>by
      obtain ⟨_,h2,h3⟩:=KEY.out k h.1 h.2
      rw [h2] at hs
      rcases h3 with h3 | h3<;>rw [h3] at hs<;>cases hs
    refine ⟨_,_,(fun k=>if k<w.heap.size∧qAY (c k)=false then c k else c4 k),rfl,(e5.mono (S':=Sdo) (fun x hx=>by cases x<;>first | rfl | (cases hx))).trans (Ext.of_below HB5.out _ _),?_⟩
    rw [HDL.out]
    exact ⟨((H.out.ext e5 rfl (fun x hx=>by cases x<;>first | rfl | (cases hx))).below HB5.out).shut,(HT4.out.ext e6 rfl rfl).ext (Ext.of_below HB5.out _ S0) rfl rfl,by rw [HEO.out];rfl,HCD.out,rfl⟩
   case pos =>
   rw [zM1 hr0] at HDL
   have HAW0:=Hh (show Calls Tryz.prog 20 #[.pointer (some ⟨tp,0,none⟩),.string ⟨line.toArray⟩] w3 (fun e w'=>e=.returned .nilIface∧∃ c2,Ext w3 w' c3 c2 qAY∧TapeAt w' c2 tp ra.2) from HAW.out.mono (by
    rintro ev w' ⟨rfl,h⟩
    exact ⟨by rw [hr0];rfl,h⟩))
   clear HAW
   go_upto_region 7 with (go_at_call 20;refine HAW0.out.mono ?_;rintro ev w4 ⟨rfl,c4,he4,ht4⟩;have HE4:=Hh he4;have HT4:=Hh ht4;clear he4 ht4)
   clear c3b
   obtain ⟨bd4,A4,cap4,zs4,R4,rc4,hx4⟩:=(HS3.out.ext HE4.out rfl (fun x hx=>by cases x<;>first | rfl | (cases hx))).open
   have HX4:=Hh hx4
   have hb3d:c3 b=.dead:=(HE3.out.col (zu hbl HB2.out.size) (show c2 b=.dead from by rw [HC2.out b hbl];unfold kDo;rw [H.out.col];decide) rfl)
   have hob:=HE4.out.kept HX3.out.own hb3d rfl
   have HOB:=Hh hob
   have a0:=ce0 hx4.own
   have a1:=ce1 hx4.own
   have a2:=ce2 hx4.own
   have a3:=ce3 hx4.own
   have f0:w4.frozen? ⟨b,0,none⟩=false:=qAb hob.1 0
   have f1:w4.frozen? ⟨b,1,none⟩=false:=qAb hob.1 1
   have f2:w4.frozen? ⟨b,2,none⟩=false:=qAb hob.1 2
   have f3:w4.frozen? ⟨b,3,none⟩=false:=qAb hob.1 3
   have b0:=ce0 hob.1
   have b1:=ce1 hob.1
   have b2c:=ce2 hob.1
   have b3c:=ce3 hob.1
   clear hx4 hob hb3d
   go_wp2
   go_ret2
   have hc5:=qAm c4 b .sto
   have hS5:S1 .sto (qAs c4 b .sto b)=true:=by rw [hc5];rfl
   have hSb:Sdo (c b)=true:=by rw [H.out.col];rfl
   have e5:=((((Ext.refl w4 (qAs c4 b .sto) (S1 .sto)).setCell (a:=⟨b,0,none⟩) (fun _=>hS5) (.pointer (some ⟨bd4,0,none⟩))).setCell (a:=⟨b,1,none⟩) (fun _=>hS5) (.slice A4 zs4.length cap4)).setCell (a:=⟨b,2,none⟩) (fun _=>hS5) (.slice R4 s1.roots.length rc4)).setCell (a:=⟨b,3,none⟩) (fun _=>hS5) (.pointer (some ⟨tp,0,none⟩))
   have ep:=Ext.paint w4 HOB.out.2 .sto
   have ew:Ext w w4 c (qAs c4 b .sto) Sdo:=(((HE2.out.mono (S':=Sdo) (fun x hx=>by cases x<;>first | rfl | (cases hx))).then HE3.out (fun x hx=>by cases x<;>first | rfl | (cases hx))).then HE4.out (fun x hx=>by cases x<;>first | rfl | (cases hx))).recolor fun k hk hs=>qCX (fun e=>by rw [e,hSb] at hs;cases hs)
   have e5w:=(((ew.setCell (a:=⟨b,0,none⟩) (fun _=>hSb) (.pointer (some ⟨bd4,0,none⟩))).setCell (a:=⟨b,1,none⟩) (fun _=>hSb) (.slice A4 zs4.length cap4)).setCell (a:=⟨b,2,none⟩) (fun _=>hSb) (.slice R4 s1.roots.length rc4)).setCell (a:=⟨b,3,none⟩) (fun _=>hSb) (.pointer (some ⟨tp,0,none⟩))
   have ho5:=qAd (qAd (qAd (qAd HOB.out.1 0 (.pointer (some ⟨bd4,0,none⟩))) 1 (.slice A4 zs4.length cap4)) 2 (.slice R4 s1.roots.length rc4)) 3 (.pointer (some ⟨tp,0,none⟩))
   refine ⟨_,_,qAs c4 b .sto,rfl,e5w,?_⟩
   rw [HDL.out]
   exact ⟨(HX4.out.moved HOB.out.2 e5 ho5 hc5).shut,(HT4.out.ext ep rfl rfl).ext e5 rfl rfl,rfl,rfl⟩
end
end Go.Proofs.YtceklhjomhjipaaGreatDoor
