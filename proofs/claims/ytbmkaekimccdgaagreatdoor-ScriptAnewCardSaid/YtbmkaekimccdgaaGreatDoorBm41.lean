/- Lemmas. -/
import Derived.Test.YtbmkaekimccdgaaGreatDoorBm40
set_option maxHeartbeats 16000000
set_option maxRecDepth 1000000
set_option linter.all false
namespace Go.Proofs.YtbmkaekimccdgaaGreatDoor
open Go.RowKit Go.Sort Go.Shelf Stl
structure PlAt (w:World)(c:Nat→Col)(pb b tp:Nat)(p:Nat→Addr)(s:Sto)(t:Stl.Tape):Prop where
 own:w.heap[pb]?=some (.cells #[.pointer (some ⟨b,0,none⟩)] 38 (0,0))
 col:c pb=.dead
 st:StAt w c b tp p s t
theorem PlAt.below {w w2:World}{c:Nat→Col}{pb b tp:Nat}{p:Nat→Addr}{s:Sto}{t:Stl.Tape}(h:PlAt w c pb b tp p s t)(hb:Below w.heap.size w w2):PlAt w2 c pb b tp p s t :=
 ⟨(hb.block _ (qA h.own)).trans h.own,h.col,h.st.ext (Ext.of_below hb c S0)⟩
theorem kW {w:World}{c:Nat→Col}{b tp:Nat}{p:Nat→Addr}{s:Sto}{t:Stl.Tape}(h:StAt w c b tp p s t)(hg:vB s)(name:List UInt8) :
  Calls Tryz.prog 59 #[.pointer (some ⟨b,0,none⟩),.string ⟨name.toArray⟩] w fun ev w'=>Below w.heap.size w w'∧∃ (a0 a1:ByteArray) (a2:Bool) (A:Option Addr) (m cp:Nat) (er:Value),ev=.returned (.tuple #[.agg #[.string a0,.string a1,.bool a2,.slice A m cp],er])∧er=oT p (s.tree name)∧(er=.nilIface∨∃ u v,er=.iface u v)∧NodeAt w' (mO (s.tree name)) [.string a0,.string a1,.bool a2,.slice A m cp]:=by
 obtain⟨bd,A,cap,zs,R,rc,hx⟩:=h.sto.open;refine(qFy hx hg h.env name).mono ?_;rintro ev w' ⟨⟨hb,a0,a1,a2,A,m,cp,er,rfl,hm⟩,hz⟩;refine⟨hb,?_⟩
 cases hr:s.tree name with
 | ok n =>
  rw[hr] at hm;exact⟨a0,a1,a2,A,m,cp,er,rfl,hm.1,.inl hm.1,NodeP.at _ _ hm.2⟩
 | error cd =>
  rw[hr] at hm;obtain⟨er',hz'⟩:=hz cd hr;injection hz' with hz'
  injection hz' with hz'
  have h0:=congrArg (fun x:Array Value=>x[0]?) hz';simp only[List.getElem?_toArray,List.getElem?_cons_zero,zB1,Value.agg.injEq,Array.mk.injEq,zD,Value.string.injEq,Value.bool.injEq,zC1,and_true] at h0;obtain⟨rfl,rfl,rfl,rfl,rfl,rfl⟩:=h0;exact⟨_,_,_,_,_,_,er,rfl,hm.1,.inr ⟨_,_,hm.1.trans (qD p hm.2)⟩,qKN _⟩
theorem gX {i:Nat}{s:Sto}(h:SizeOk i s)(hi:i≤300):vB s:=by
 have h1:=h.disk;have h2:=h.inos;have h3:=h.next;have h4:=h.ents;exact⟨h.sto,⟨h.sto.dirs,by omega,by omega,by omega,by omega⟩,by omega⟩
mutual
theorem qG1 {T:Tab}{f:List (List UInt8×Nat)}:∀ (n:Nd) (q:List UInt8) (cd:Nat),vU T f n q=.error cd→cd≠0
 | .mk k d e ks,q,cd,h=>by
  unfold vU at h;split at h
  ·split at h
   ·cases h
   ·rename_i h2
    injection h with h
    subst h;exact qHc h2
  ·split at h
   ·cases h
   ·rename_i h2
    injection h with h
    subst h;exact qBS ks q _ h2
theorem qBS {T:Tab}{f:List (List UInt8×Nat)}:∀ (l:List (List UInt8×Nd)) (q:List UInt8) (cd:Nat),jR T f l q=.error cd→cd≠0
 | [],q,cd,h=>by unfold jR at h;cases h
 | (nm,x)::r,q,cd,h=>by
  unfold jR at h;split at h
  ·rename_i h2
   injection h with h
   subst h;exact qG1 x _ _ h2
  ·split at h
   ·rename_i h2
    injection h with h
    subst h;exact qBS r q _ h2
   ·cases h
end
theorem nW {s:Sto}{name:List UInt8}{cd:Nat}(h:s.tree name=.error cd):cd≠0:=by
 unfold Sto.tree at h;split at h
 ·injection h with h;omega
 ·unfold Stl.Dirs.get at h;split at h
  ·injection h with h;omega
  ·exact qG1 _ _ _ h
theorem qGh (n:Nd):(qR n).length≤200∧∀ x∈qR n,x.length≤105:=by
 unfold qR items;split
 ·rename_i ht
  obtain⟨h1,h2⟩:=items_well ht;refine⟨by rw[zT];have:=zS (fun x:It=>x.n.kind==kFile) (flat n [] 0);omega,fun x hx=>?_⟩;obtain⟨y,hy,rfl⟩:=zb.1 hx;have h3:=(h2 y (zZ.1 hy).1).2;unfold told;split
  ·decide
  ·omega
 ·exact⟨zw _,fun x hx=>by cases hx⟩
theorem qMu (n:Nd):mQ n≤400000∧xN n≤200:=by
 rw[qFE];unfold xN items;split
 ·rename_i ht
  obtain⟨h1,h2⟩:=items_well ht;have h3:=qEn (flat n [] 0) (fun y hy=>qBG (h2 y hy).1);exact⟨by omega,h1⟩
 ·exact⟨by decide,zw _⟩
section
variable {w:World}{c:Nat→Col}{pb b tp:Nat}{p:Nat→Addr}{s:Sto}{t:Stl.Tape}
theorem qJd (h:PlAt w c pb b tp p s t)(hg:vB s)(r:List (List UInt8))(hr:r.length=1)(hrl:∀ x∈r,x.length≤250)(A:Option Addr)(cr:Nat)(hs:Strs w (.slice A r.length cr) r) :
  Calls Tryz.prog 33 #[.pointer (some ⟨pb,0,none⟩),.slice A r.length cr] w (TlPost p w (uX s uM r)):=by
 have HPL:=Hh h;have HG:=Hh hg;have HS:=Hh hs;have HRL:=Hh hrl;obtain⟨x,rfl⟩:=List.length_eq_one_iff.1 hr;have HR:=Hh (show uX s uM [x]=match s.tree x with | .error e=>.error e | .ok n=>.ok (qT (qR n)) from by
  unfold uX
  simp only[List.headD_cons]
  cases s.tree x with
  | error e=>rfl
  | ok n=>rfl)
 generalize uX s uM [x]=ans at HR ⊢;obtain⟨g,off,rfl,hgl,hq0⟩:=hs.cellAt (j:=0) (by simp);simp only[List.getElem_cons_zero,Nat.add_zero] at hq0;have HXP:=Hh (fun cd (h:s.tree x=.error cd)=>nW h);clear h hg hs hr hrl;simp only[zQ,List.length_nil];go_enter Tryz.func33,Tryz.ntmps33;have HSS:=Hh (fun (w':World) (hb:Below w.heap.size w w')=>show w'.cell? ⟨pb,0,none⟩=some (.pointer (some ⟨b,0,none⟩))∧w'.cell? ⟨g,off,none⟩=some (.string ⟨x.toArray⟩) from ⟨ce0 ((HPL.o.below hb).own),(hb.cell (p:=⟨g,off,none⟩) hgl).trans hq0⟩);have hs0:(fun w':World=>w'.cell? ⟨pb,0,none⟩=some (.pointer (some ⟨b,0,none⟩))∧w'.cell? ⟨g,off,none⟩=some (.string ⟨x.toArray⟩)) w:=HSS.o _ (zB _ _);have HBN:=Hh ((zB w.heap.size w).alloc (zo _) (.cells #[.string ⟨#[]⟩,.string ⟨#[]⟩,.bool false,.slice none 0 0] 134));have HBD:=Hh (zB w.heap.size w).drew;have HS1:=Hh (HSS.o _ HBN.o);have HTA:=Hh (kW (HPL.o.below HBD.o).st HG.o x);have HTB:=Hh (kW (HPL.o.below HBN.o.drew).st HG.o x);have HXB:Hg ((w.alloc (.cells #[.string ⟨#[]⟩,.string ⟨#[]⟩,.bool false,.slice none 0 0] 134)).drew.heap[w.heap.size]?=some (.cells #[.string ⟨#[]⟩,.string ⟨#[]⟩,.bool false,.slice none 0 0] 134 (0,0))):=Hh (zK1 _ _);have HN1:=Hh (show w.heap.size≠pb∧w.heap.size≠g from ⟨by have:=qA HPL.o.own;omega,by omega⟩);generalize s.tree x=res at *;clear hq0;go_upto_region 1 with fail
 go_cut [6,7] (fun x e wx=>∃ (g6:Nat) (er:Value),x=.pointer (some ⟨g6,0,none⟩)∧e=er∧(er=.nilIface∨∃ u v,er=.iface u v)∧Hg (GotAt p res w wx g6 er))
 case first =>
  go_region_held3 (fun w'=>w'.cell? ⟨pb,0,none⟩=some (.pointer (some ⟨b,0,none⟩))∧w'.cell? ⟨g,off,none⟩=some (.string ⟨x.toArray⟩))
   (first
    | exact hs0
    | exact HS1.o
    | exact HS2.o
    | exact HSA.o _
    | exact⟨qX HS2.o.1 HN1.o.1,qX HS2.o.2 HN1.o.2⟩
    | go_keep)
   (first
    | (go_at_call 59;((with_reducible refine HTA.o.mono ?_);rintro ev w2 ⟨hb2,a0,a1,a2,A2,m,cp,er,rfl,he,hcs,hn⟩;have HCA:=Hh hcs;have hb3:=HBD.o.trans hb2;have HGA:=Hh (gT hb3 he hn);have HS2:=Hh (HSS.o _ hb3);have HSA:=Hh (fun o:Obj=>HSS.o _ (hb3.alloc hb3.size o));clear hb2 hb3 he hcs hn))
    | (go_at_call 59;((with_reducible refine HTB.o.mono ?_);rintro ev w2 ⟨hb2,a0,a1,a2,A2,m,cp,er,rfl,he,hcs,hn⟩;have HCA:=Hh hcs;have hb3:=HBN.o.drew.trans (hb2.mono HBN.o.size);have hy2:=(hb2.block _ (qA HXB.o)).trans HXB.o;have HGA:=Hh (wY (zo _) hb3 hy2 he hn);have HS2:=Hh (HSS.o _ hb3);obtain⟨z0,z1,z2,z3⟩:=cq hy2;obtain⟨f0,f1,f2,f3⟩:=Stl.fq hy2;clear hb2 he hcs hn hy2 hb3))
    | fail)
  all_goals
   go_wp2;go_meet
   case rel=>exact⟨_,_,rfl,rfl,HCA.o,HGA⟩
 case rest =>
  obtain⟨g6,er,rfl,rfl,hcs,HGA⟩:=hcut;clear hs0 HSS HBN HBD HS1 HTA HTB HXB HN1 hcs;obtain⟨a0,a1,a2,A9,m9,c9,hxA,hnA⟩:=HGA.o.box;obtain⟨q0,q1,q2,q3⟩:=cq hxA;have hfs:=qGh (mO res);have HFS:=Hh hfs;have HER:=Hh HGA.o.er;have HFL:=Hh (qCY p (mO res) _ wc ((HPL.o.below HGA.o.below).st.env.errs) hnA);have HFE:=Hh (show qR (mO res)=qR (mO res) from rfl);obtain⟨L,hL⟩:∃ L,L=qR (mO res):=⟨_,rfl⟩;rw[← hL] at HFL HFS;have HLE:=Hh hL;clear hxA hnA hfs hL HFE;have hll:L.length≤200:=HFS.o.1;have hjl:=kB 105 L HFS.o.2;have hjm:L.length*(105+1)≤200*106:=Nat.mul_le_mul_right _ hll;have HJL:=Hh (show (qT L).length≤140737488355328 by omega);clear hjl hjm;go_wp2_with (first
   | (go_at_call 63;((with_reducible refine HFL.o.mono ?_);rintro ev w4 ⟨A4,c4,rfl,ho4,hb4⟩;have HB4:=Hh (HGA.o.below.trans (hb4.mono HGA.o.below.size));have HJN:=Hh (yE (jS ho4) (yG ho4) (by omega) HJL.o);clear ho4 hb4))
   | (go_at_call 61;((with_reducible refine HJN.o.mono ?_);rintro ev w5 ⟨rfl,hb5⟩;have HB5:=Hh (HB4.o.trans (hb5.mono HB4.o.size));clear hb5)))
  go_ret2;rw[HR.o,HER.o];have hxp:=HXP.o;have hle:=HLE.o
  cases res with
  | error cd=>exact⟨_,_,rfl,HB5.o,rfl,hxp cd rfl⟩
  | ok n=>exact⟨_,_,rfl,HB5.o,rfl,by rw[hle];rfl⟩
theorem qLq (h:PlAt w c pb b tp p s t)(hg:vB s)(r:List (List UInt8))(hr:r.length=1)(hrl:∀ x∈r,x.length≤250)(A:Option Addr)(cr:Nat)(hs:Strs w (.slice A r.length cr) r) :
  Calls Tryz.prog 34 #[.pointer (some ⟨pb,0,none⟩),.slice A r.length cr] w (TlPost p w (uX s dV r)):=by
 have HPL:=Hh h;have HG:=Hh hg;have HS:=Hh hs;have HRL:=Hh hrl;obtain⟨x,rfl⟩:=List.length_eq_one_iff.1 hr;have HR:=Hh (show uX s dV [x]=match s.tree x with | .error e=>.error e | .ok n=>.ok (dec (mQ n)++32::dec (xN n)) from by
  unfold uX
  simp only[List.headD_cons]
  cases s.tree x with
  | error e=>rfl
  | ok n=>exact(zL1 (by decide)).trans (zM1 trivial))
 generalize uX s dV [x]=ans at HR ⊢;obtain⟨g,off,rfl,hgl,hq0⟩:=hs.cellAt (j:=0) (by simp);simp only[List.getElem_cons_zero,Nat.add_zero] at hq0;have HXP:=Hh (fun cd (h:s.tree x=.error cd)=>nW h);clear h hg hs hr hrl;simp only[zQ,List.length_nil];go_enter Tryz.func34,Tryz.ntmps34;have HSS:=Hh (fun (w':World) (hb:Below w.heap.size w w')=>show w'.cell? ⟨pb,0,none⟩=some (.pointer (some ⟨b,0,none⟩))∧w'.cell? ⟨g,off,none⟩=some (.string ⟨x.toArray⟩) from ⟨ce0 ((HPL.o.below hb).own),(hb.cell (p:=⟨g,off,none⟩) hgl).trans hq0⟩);have hs0:(fun w':World=>w'.cell? ⟨pb,0,none⟩=some (.pointer (some ⟨b,0,none⟩))∧w'.cell? ⟨g,off,none⟩=some (.string ⟨x.toArray⟩)) w:=HSS.o _ (zB _ _);have HBN:=Hh ((zB w.heap.size w).alloc (zo _) (.cells #[.string ⟨#[]⟩,.string ⟨#[]⟩,.bool false,.slice none 0 0] 134));have HBD:=Hh (zB w.heap.size w).drew;have HS1:=Hh (HSS.o _ HBN.o);have HTA:=Hh (kW (HPL.o.below HBD.o).st HG.o x);have HTB:=Hh (kW (HPL.o.below HBN.o.drew).st HG.o x);have HXB:Hg ((w.alloc (.cells #[.string ⟨#[]⟩,.string ⟨#[]⟩,.bool false,.slice none 0 0] 134)).drew.heap[w.heap.size]?=some (.cells #[.string ⟨#[]⟩,.string ⟨#[]⟩,.bool false,.slice none 0 0] 134 (0,0))):=Hh (zK1 _ _);have HN1:=Hh (show w.heap.size≠pb∧w.heap.size≠g from ⟨by have:=qA HPL.o.own;omega,by omega⟩);generalize s.tree x=res at *;clear hq0;go_upto_region 1 with fail
 go_cut [6,7] (fun x e wx=>∃ (g6:Nat) (er:Value),x=.pointer (some ⟨g6,0,none⟩)∧e=er∧(er=.nilIface∨∃ u v,er=.iface u v)∧Hg (GotAt p res w wx g6 er))
 case first =>
  go_region_held3 (fun w'=>w'.cell? ⟨pb,0,none⟩=some (.pointer (some ⟨b,0,none⟩))∧w'.cell? ⟨g,off,none⟩=some (.string ⟨x.toArray⟩))
   (first
    | exact hs0
    | exact HS1.o
    | exact HS2.o
    | exact HSA.o _
    | exact⟨qX HS2.o.1 HN1.o.1,qX HS2.o.2 HN1.o.2⟩
    | go_keep)
   (first
    | (go_at_call 59;((with_reducible refine HTA.o.mono ?_);rintro ev w2 ⟨hb2,a0,a1,a2,A2,m,cp,er,rfl,he,hcs,hn⟩;have HCA:=Hh hcs;have hb3:=HBD.o.trans hb2;have HGA:=Hh (gT hb3 he hn);have HS2:=Hh (HSS.o _ hb3);have HSA:=Hh (fun o:Obj=>HSS.o _ (hb3.alloc hb3.size o));clear hb2 hb3 he hcs hn))
    | (go_at_call 59;((with_reducible refine HTB.o.mono ?_);rintro ev w2 ⟨hb2,a0,a1,a2,A2,m,cp,er,rfl,he,hcs,hn⟩;have HCA:=Hh hcs;have hb3:=HBN.o.drew.trans (hb2.mono HBN.o.size);have hy2:=(hb2.block _ (qA HXB.o)).trans HXB.o;have HGA:=Hh (wY (zo _) hb3 hy2 he hn);have HS2:=Hh (HSS.o _ hb3);obtain⟨z0,z1,z2,z3⟩:=cq hy2;obtain⟨f0,f1,f2,f3⟩:=Stl.fq hy2;clear hb2 he hcs hn hy2 hb3))
    | fail)
  all_goals
   go_wp2;go_meet
   case rel=>exact⟨_,_,rfl,rfl,HCA.o,HGA⟩
 case rest =>
  obtain⟨g6,er,rfl,rfl,hcs,HGA⟩:=hcut;clear hs0 HSS HBN HBD HS1 HTA HTB HXB HN1;obtain⟨a0,a1,a2,A9,m9,c9,hxA,hnA⟩:=HGA.o.box;have HXA:=Hh hxA;have HNA:=Hh hnA;have HER:=Hh HGA.o.er;have HSZ:=Hh (fun (W:World) (hb:Below wc.heap.size wc W)=>qLS p (mO res) _ W ((HPL.o.below (HGA.o.below.trans (hb.mono HGA.o.below.size))).st.env.errs) (NodeAt.later hb _ _ HNA.o));have HCT:=Hh (fun (W:World) (hb:Below wc.heap.size wc W)=>qKR p (mO res) _ W ((HPL.o.below (HGA.o.below.trans (hb.mono HGA.o.below.size))).st.env.errs) (NodeAt.later hb _ _ HNA.o));have hbn:=qMu (mO res);obtain⟨z1,hz1⟩:∃ z1,z1=mQ (mO res):=⟨_,rfl⟩;obtain⟨z2,hz2⟩:∃ z2,z2=xN (mO res):=⟨_,rfl⟩;rw[← hz1,← hz2] at hbn;rw[← hz1] at HSZ;rw[← hz2] at HCT;have HZ1:=Hh hz1;have HZ2:=Hh hz2;have HIT:=Hh (fun (W:World) (hb:Below wc.heap.size wc W)=>xZ z1 (by omega) W ((HPL.o.below (HGA.o.below.trans (hb.mono HGA.o.below.size))).st.env.vars));have HIU:=Hh (fun (W:World) (hb:Below wc.heap.size wc W)=>xZ z2 (by omega) W ((HPL.o.below (HGA.o.below.trans (hb.mono HGA.o.below.size))).st.env.vars));have hd1:(dec z1).length≤z1+1:=kO _ _;have hd2:(dec z2).length≤z2+1:=kO _ _;have HT:=Hh (show dec (mQ (mO res))++32::dec (xN (mO res))=dec z1++32::dec z2 by rw[hz1,hz2]);generalize dec z1=d1 at *;generalize dec z2=d2 at *;have s1:¬ 9223372036854775807<d1.length+1:=by omega
  have s2:¬ 9223372036854775807<d1.length+1+d2.length:=by omega
  have s3:ByteArray.mk d1.toArray++ByteArray.mk #[32]=ByteArray.mk (d1++[32]).toArray:=ByteArray.mk_append_mk d1 [32];have s4:ByteArray.mk (d1++[32]).toArray++ByteArray.mk d2.toArray=ByteArray.mk (d1++[32]++d2).toArray:=ByteArray.mk_append_mk (d1++[32]) d2;clear hz1 hz2 hxA hnA;have HSB:=Hh (fun (w':World) (hb:Below wc.heap.size wc w')=>show w'.cell? ⟨g6,0,none⟩=some (.string a0)∧w'.cell? ⟨g6,1,none⟩=some (.string a1)∧w'.cell? ⟨g6,2,none⟩=some (.bool a2)∧w'.cell? ⟨g6,3,none⟩=some (.slice A9 m9 c9) from ⟨ce0 ((hb.block _ (qA HXA.o)).trans HXA.o),ce1 ((hb.block _ (qA HXA.o)).trans HXA.o),ce2 ((hb.block _ (qA HXA.o)).trans HXA.o),ce3 ((hb.block _ (qA HXA.o)).trans HXA.o)⟩);have hs0:(fun w':World=>w'.cell? ⟨g6,0,none⟩=some (.string a0)∧w'.cell? ⟨g6,1,none⟩=some (.string a1)∧w'.cell? ⟨g6,2,none⟩=some (.bool a2)∧w'.cell? ⟨g6,3,none⟩=some (.slice A9 m9 c9)) wc:=HSB.o _ (zB _ _);have HBD:=Hh (zB wc.heap.size wc).drew;go_upto_region 2 with fail
  go_region_held3 (fun w'=>w'.cell? ⟨g6,0,none⟩=some (.string a0)∧w'.cell? ⟨g6,1,none⟩=some (.string a1)∧w'.cell? ⟨g6,2,none⟩=some (.bool a2)∧w'.cell? ⟨g6,3,none⟩=some (.slice A9 m9 c9))
   (first
    | exact hs0
    | exact HS4.o
    | exact HS5.o
    | exact HS6.o
    | exact HS7.o
    | go_keep)
   (first
    | (go_at_call 65;((with_reducible refine(HSZ.o _ HBD.o).mono ?_);rintro ev w4 ⟨rfl,hb4⟩;have HB4:=Hh (HBD.o.trans hb4);have HS4:=Hh (HSB.o _ HB4.o);clear hb4))
    | (go_at_call 66;((with_reducible refine(HCT.o _ HB5.o).mono ?_);rintro ev w6 ⟨rfl,hb6⟩;have HB6:=Hh (HB5.o.trans (hb6.mono HB5.o.size));have HS6:=Hh (HSB.o _ HB6.o);clear hb6))
    | (go_at_call 64;((with_reducible refine(HIU.o _ HB6.o).mono ?_);rintro ev w7 ⟨rfl,hb7⟩;have HB7:=Hh (HB6.o.trans (hb7.mono HB6.o.size));have HS7:=Hh (HSB.o _ HB7.o);clear hb7))
    | (go_at_call 64;((with_reducible refine(HIT.o _ HB4.o).mono ?_);rintro ev w5 ⟨rfl,hb5⟩;have HB5:=Hh (HB4.o.trans (hb5.mono HB4.o.size));have HS5:=Hh (HSB.o _ HB5.o);clear hb5))
    | fail)
  have HBE:=Hh (HGA.o.below.trans (HB7.o.mono HGA.o.below.size));clear s3 s4;go_wp2;go_ret2;rw[HR.o,HER.o];have hxp:=HXP.o;have ht:=HT.o
  cases res with
  | error cd=>exact⟨_,_,rfl,HBE.o,rfl,hxp cd rfl⟩
  | ok n=>exact⟨_,_,rfl,HBE.o,rfl,by show _=ByteArray.mk (dec (mQ n)++32::dec (xN n)).toArray;rw[show dec (mQ n)++32::dec (xN n)=d1++32::d2 from ht]⟩
theorem qIW (h:PlAt w c pb b tp p s t)(hg:vB s)(r:List (List UInt8))(hr:r.length=2)(hrl:∀ x∈r,x.length≤250)(A:Option Addr)(cr:Nat)(hs:Strs w (.slice A r.length cr) r) :
  Calls Tryz.prog 32 #[.pointer (some ⟨pb,0,none⟩),.slice A r.length cr] w (TlPost p w (uX s mZ r)):=by
 have HPL:=Hh h;have HG:=Hh hg;have HS:=Hh hs;have HRL:=Hh hrl;obtain⟨x,y,rfl⟩:∃ x y,r=[x,y]:=by
  match r,hr with
  | [x,y],_=>exact⟨x,y,rfl⟩
 have HR:=Hh (show uX s mZ [x,y]=match s.tree x with | .error e=>.error e | .ok n=>xY n y from by
  unfold uX
  simp only[List.headD_cons]
  cases s.tree x with
  | error e=>rfl
  | ok n=>exact(zL1 (by decide)).trans ((zL1 (by decide)).trans (zM1 trivial)))
 generalize uX s mZ [x,y]=ans at HR ⊢;have hy:=hrl y (by simp);obtain⟨g,off,he1,hgl1,hq1⟩:=hs.cellAt (j:=1) (by simp);simp only[List.getElem_cons_succ,List.getElem_cons_zero] at hq1;have HQ1:=Hh hq1;clear hq1;obtain⟨g',off',he2,hgl,hq0⟩:=hs.cellAt (j:=0) (by simp);obtain⟨rfl,rfl⟩:g=g'∧off=off':=by have h:=he1.symm.trans he2;simp only[zB1,Addr.mk.injEq,and_true] at h;exact h
 subst he1;clear hgl1 he2;simp only[List.getElem_cons_zero,Nat.add_zero] at hq0;have HXP:=Hh (fun cd (h:s.tree x=.error cd)=>nW h);clear h hg hs hr hrl;simp only[zQ,List.length_nil];go_enter Tryz.func32,Tryz.ntmps32;have HSS:=Hh (fun (w':World) (hb:Below w.heap.size w w')=>show w'.cell? ⟨pb,0,none⟩=some (.pointer (some ⟨b,0,none⟩))∧w'.cell? ⟨g,off,none⟩=some (.string ⟨x.toArray⟩) from ⟨ce0 ((HPL.o.below hb).own),(hb.cell (p:=⟨g,off,none⟩) hgl).trans hq0⟩);have hs0:(fun w':World=>w'.cell? ⟨pb,0,none⟩=some (.pointer (some ⟨b,0,none⟩))∧w'.cell? ⟨g,off,none⟩=some (.string ⟨x.toArray⟩)) w:=HSS.o _ (zB _ _);have HBN:=Hh ((zB w.heap.size w).alloc (zo _) (.cells #[.string ⟨#[]⟩,.string ⟨#[]⟩,.bool false,.slice none 0 0] 134));have HBD:=Hh (zB w.heap.size w).drew;have HS1:=Hh (HSS.o _ HBN.o);have HTA:=Hh (kW (HPL.o.below HBD.o).st HG.o x);have HTB:=Hh (kW (HPL.o.below HBN.o.drew).st HG.o x);have HXB:Hg ((w.alloc (.cells #[.string ⟨#[]⟩,.string ⟨#[]⟩,.bool false,.slice none 0 0] 134)).drew.heap[w.heap.size]?=some (.cells #[.string ⟨#[]⟩,.string ⟨#[]⟩,.bool false,.slice none 0 0] 134 (0,0))):=Hh (zK1 _ _);have HN1:=Hh (show w.heap.size≠pb∧w.heap.size≠g from ⟨by have:=qA HPL.o.own;omega,by omega⟩);generalize s.tree x=res at *;clear hq0;go_upto_region 1 with fail
 go_cut [6,7] (fun x e wx=>∃ (g6:Nat) (er:Value),x=.pointer (some ⟨g6,0,none⟩)∧e=er∧(er=.nilIface∨∃ u v,er=.iface u v)∧Hg (GotAt p res w wx g6 er))
 case first =>
  go_region_held3 (fun w'=>w'.cell? ⟨pb,0,none⟩=some (.pointer (some ⟨b,0,none⟩))∧w'.cell? ⟨g,off,none⟩=some (.string ⟨x.toArray⟩))
   (first
    | exact hs0
    | exact HS1.o
    | exact HS2.o
    | exact HSA.o _
    | exact⟨qX HS2.o.1 HN1.o.1,qX HS2.o.2 HN1.o.2⟩
    | go_keep)
   (first
    | (go_at_call 59;((with_reducible refine HTA.o.mono ?_);rintro ev w2 ⟨hb2,a0,a1,a2,A2,m,cp,er,rfl,he,hcs,hn⟩;have HCA:=Hh hcs;have hb3:=HBD.o.trans hb2;have HGA:=Hh (gT hb3 he hn);have HS2:=Hh (HSS.o _ hb3);have HSA:=Hh (fun o:Obj=>HSS.o _ (hb3.alloc hb3.size o));clear hb2 hb3 he hcs hn))
    | (go_at_call 59;((with_reducible refine HTB.o.mono ?_);rintro ev w2 ⟨hb2,a0,a1,a2,A2,m,cp,er,rfl,he,hcs,hn⟩;have HCA:=Hh hcs;have hb3:=HBN.o.drew.trans (hb2.mono HBN.o.size);have hy2:=(hb2.block _ (qA HXB.o)).trans HXB.o;have HGA:=Hh (wY (zo _) hb3 hy2 he hn);have HS2:=Hh (HSS.o _ hb3);obtain⟨z0,z1,z2,z3⟩:=cq hy2;obtain⟨f0,f1,f2,f3⟩:=Stl.fq hy2;clear hb2 he hcs hn hy2 hb3))
    | fail)
  all_goals
   go_wp2;go_meet
   case rel=>exact⟨_,_,rfl,rfl,HCA.o,HGA⟩
 case rest =>
  obtain⟨g6,er,rfl,rfl,hcs,HGA⟩:=hcut;clear hs0 HSS HBN HBD HS1 HTA HTB HXB HN1;obtain⟨a0,a1,a2,A9,m9,c9,hxA,hnA⟩:=HGA.o.box;have HXA:=Hh hxA;have HNA:=Hh hnA;have HER:=Hh HGA.o.er;have hxp:=HXP.o
  cases res with
  | error cd =>
   have hc:=hxp cd rfl;have he:=HER.o.trans (show oT p (.error cd)=_ from qD p hc);have HCD:=Hh hc;have HRA:=Hh (show ans=.error cd from HR.o);subst he;clear hc hxp hcs hxA hnA HER HR;go_wp2;go_ret2;rw[HRA.o];exact⟨_,_,rfl,HGA.o.below,(qD p HCD.o).symm,HCD.o⟩
  | ok n =>
   have he:_=Value.nilIface:=HER.o;have HRA:=Hh (show ans=xY n y from HR.o);have HFW:=Hh (fun (W:World) (hb:Below wc.heap.size wc W)=>qH5 (p:=p) n _ y (by omega) W ((HPL.o.below (HGA.o.below.trans (hb.mono HGA.o.below.size))).st.env.errs) ((HPL.o.below (HGA.o.below.trans (hb.mono HGA.o.below.size))).st.env.max) (NodeAt.later hb _ _ HNA.o));subst he;rw[← HRA.o] at HFW;have HB0:=Hh HGA.o.below;have hlg:g<w.heap.size:=hgl;clear hxp hcs hxA hnA HER HR HRA HGA;have HSB:=Hh (fun (w':World) (hb:Below wc.heap.size wc w')=>show w'.cell? ⟨g6,0,none⟩=some (.string a0)∧w'.cell? ⟨g6,1,none⟩=some (.string a1)∧w'.cell? ⟨g6,2,none⟩=some (.bool a2)∧w'.cell? ⟨g6,3,none⟩=some (.slice A9 m9 c9)∧w'.cell? ⟨g,off+1,none⟩=some (.string ⟨y.toArray⟩) from ⟨ce0 ((hb.block _ (qA HXA.o)).trans HXA.o),ce1 ((hb.block _ (qA HXA.o)).trans HXA.o),ce2 ((hb.block _ (qA HXA.o)).trans HXA.o),ce3 ((hb.block _ (qA HXA.o)).trans HXA.o),((HB0.o.trans (hb.mono HB0.o.size)).cell (p:=⟨g,off+1,none⟩) hlg).trans HQ1.o⟩);have hs0:(fun w':World=>w'.cell? ⟨g6,0,none⟩=some (.string a0)∧w'.cell? ⟨g6,1,none⟩=some (.string a1)∧w'.cell? ⟨g6,2,none⟩=some (.bool a2)∧w'.cell? ⟨g6,3,none⟩=some (.slice A9 m9 c9)∧w'.cell? ⟨g,off+1,none⟩=some (.string ⟨y.toArray⟩)) wc:=HSB.o _ (zB _ _);have HBD:=Hh (zB wc.heap.size wc).drew;go_upto_region 4 with fail
   go_region_held3 (fun w'=>w'.cell? ⟨g6,0,none⟩=some (.string a0)∧w'.cell? ⟨g6,1,none⟩=some (.string a1)∧w'.cell? ⟨g6,2,none⟩=some (.bool a2)∧w'.cell? ⟨g6,3,none⟩=some (.slice A9 m9 c9)∧w'.cell? ⟨g,off+1,none⟩=some (.string ⟨y.toArray⟩))
    (first
     | exact hs0
     | exact HS4.o
     | go_keep)
    (first
     | (go_at_call 62;((with_reducible refine(HFW.o _ HBD.o).mono ?_);rintro ev w4 ⟨a,er,rfl,hb4,hm4⟩;have HS4:=Hh (HSB.o _ (HBD.o.trans hb4));have HM4:=Hh hm4;have HB4:=Hh (HB0.o.trans ((HBD.o.trans hb4).mono HB0.o.size));clear hb4 hm4))
     | fail)
   go_wp2;go_ret2;exact⟨_,_,rfl,HB4.o,HM4.o⟩
end
end Go.Proofs.YtbmkaekimccdgaaGreatDoor
