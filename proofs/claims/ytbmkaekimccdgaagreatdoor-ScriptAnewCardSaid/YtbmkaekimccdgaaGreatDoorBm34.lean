/- Lemmas. -/
import Derived.Test.YtbmkaekimccdgaaGreatDoorBm33
set_option maxHeartbeats 16000000
set_option maxRecDepth 1000000
set_option linter.all false
namespace Go.Proofs.YtbmkaekimccdgaaGreatDoor
open Go.RowKit Go.Sort Go.Shelf Stl
def qOq (p:Nat→Addr)(w:World)(cd:Nat)(ev:Ending)(w':World):Prop:=ev=.returned (.tuple #[.int .i64 0,jK p cd])∧cd≠0∧Below w.heap.size w w'
def qO1 (w:World)(c:Nat→Col)(b:Nat)(k:Nat)(d':Stl.Dirs)(ev:Ending)(w':World):Prop:=ev=.returned (.tuple #[.int .i64 k,.nilIface])∧∃ c2,Ext w w' c c2 mN∧DirsAt w' c2 b d'
theorem qFY {d:Stl.Dirs}(hd:vC d)(n:Nd):(treeErr n≠0∧d.put n=.error (treeErr n))∨(treeErr n=0∧d.t.free.length<wX n∧d.put n=.error 8)∨(treeErr n=0∧wX n≤d.t.free.length∧∃ f t,makeAll d.t (qE n)=.ok (f,t)∧d.put n=.ok (d.next,{ t:=t,l:=d.l++[⟨d.next,jA n,f⟩],next:=d.next+1 })):=by
 by_cases h0:treeErr n=0
 ·by_cases h1:d.t.free.length<wX n
  ·refine .inr (.inl ⟨h0,h1,?_⟩);unfold Dirs.put;rw[zL1 (by simp[h0]),zM1 h1]
  ·refine .inr (.inr ⟨h0,by omega,?_⟩);obtain⟨k,d',h⟩:=qJw hd h0 (by omega);have h2:=h;unfold Dirs.put at h2;rw[zL1 (by simp[h0]),zL1 h1] at h2
   cases hm:makeAll d.t (qE n) with
   | error e=>rw[hm] at h2;cases h2
   | ok q =>
    obtain⟨f,t⟩:=q;rw[hm] at h2;refine⟨f,t,rfl,?_⟩;rw[h,← h2]
 ·refine .inl ⟨h0,?_⟩;unfold Dirs.put;rw[zM1 h0]
section
variable {w:World}{c:Nat→Col}{b:Nat}{d:Stl.Dirs}{p:Nat→Addr}
theorem qNw (h:DirsAt w c b d)(hd:DirsGood d)(hE:Env w c p){n:Nd}{vs:List Value}(hn:NodeAt w n vs){cd:Nat}(hb:d.put n=.error cd) :
  Calls Tryz.prog 122 #[.pointer (some ⟨b,0,none⟩),.agg vs.toArray] w (qOq p w cd):=by
 obtain⟨bt,bm,nd,fm,h⟩:=h;obtain⟨k0,d0,e0,ks⟩:=n;obtain⟨A,cap,rfl,_⟩:=hn.open;have hb1:Below w.heap.size w (w.alloc (.cells #[.string ⟨k0.toArray⟩,.string ⟨d0.toArray⟩,.bool e0,.slice A ks.length cap] 134)):=(zB _ w).alloc (zo _) _;have HB1:=Hh hb1;have HX:=Hh (zK1 w (.cells #[.string ⟨k0.toArray⟩,.string ⟨d0.toArray⟩,.bool e0,.slice A ks.length cap] 134));have HN1:=Hh (NodeAt.later hb1 _ _ hn);have HE1:=Hh (hE.errs.later hb1);have HI1:=Hh (h.below hb1);have HCK:=Hh (xV p _ _ _ HE1.o HN1.o);have hbl:=qA h.own;have hdk:=hd.disk;have HPC:=Hh (qFY hd.ok (.mk k0 d0 e0 ks));have HBD:=Hh hb;clear h hd hE hn hb1 hb;go_enter Tryz.func122,Tryz.ntmps122;go_upto_region 1 with fail;generalize w.alloc (.cells #[.string ⟨k0.toArray⟩,.string ⟨d0.toArray⟩,.bool e0,.slice A ks.length cap] 134)=w1 at *;obtain⟨q0,q1,q2,q3⟩:=cq HX.o;have HZ:=Hh (show w.heap.size<w1.heap.size from qA HX.o)
 rcases HPC.o with ⟨hte,hp⟩ | ⟨hte,hfr,hp⟩ | ⟨hte,hfr,f,t,hm,hp⟩
 ·have hcd:treeErr (.mk k0 d0 e0 ks)=cd:=by have:=hp.symm.trans HBD.o;injection this
  rw[qD p hte,hcd] at HCK;rw[hcd] at hte;have HTE:=Hh hte;have HEO:=Hh (qD p hte);clear hp hte hcd;go_wp2_with (go_at_call 99;refine HCK.o.mono ?_;rintro ev w2 ⟨rfl,hb2⟩;have HB2:=Hh (HB1.o.trans (hb2.mono HB1.o.size));clear hb2);go_ret2;exact⟨by rw[HEO.o];rfl,HTE.o,HB2.o⟩
 ·have hcd:8=cd:=by have:=hp.symm.trans HBD.o;injection this
  subst hcd;rw[hte,show jK p 0=.nilIface from rfl] at HCK;have i1:((d.t.free.length:Nat):Int)<((wX (.mk k0 d0 e0 ks):Nat):Int):=by omega
  clear hp hte hfr;go_upto_region 4 with (go_at_call 99;refine HCK.o.mono ?_;rintro ev w2 ⟨rfl,hb2⟩;have HB2:=Hh hb2;clear hb2);clear q0 q1 q2 q3;have HX2:=Hh ((HB2.o.block _ HZ.o).trans HX.o);obtain⟨q0,q1,q2,q3⟩:=cq HX2.o;have HI2:=Hh (HI1.o.below HB2.o);have c0:=ce0 HI2.o.own;have HND:=Hh (fun (W:World) (hb:Below w2.heap.size w2 W)=>qEY p _ _ W (HE1.o.later (HB2.o.trans (hb.mono HB2.o.size))) (NodeAt.later (HB2.o.trans (hb.mono HB2.o.size)) _ _ HN1.o));have HFR:=Hh (fun (W:World) (hb:Below w2.heap.size w2 W)=>qCK (HI2.o.tab.below hb) hdk);have HD0:=Hh (zB w2.heap.size w2).drew;have hwl:w.heap.size<w2.heap.size:=zt HZ.o HB2.o.size;have hbl2:b<w2.heap.size:=qA HI2.o.own
  go_region_held3 (fun w'=>w'.cell? ⟨b,0,none⟩=some (.pointer (some ⟨bt,0,none⟩))∧w'.cell? ⟨w.heap.size,0,none⟩=some (.string ⟨k0.toArray⟩)∧w'.cell? ⟨w.heap.size,1,none⟩=some (.string ⟨d0.toArray⟩)∧w'.cell? ⟨w.heap.size,2,none⟩=some (.bool e0)∧w'.cell? ⟨w.heap.size,3,none⟩=some (.slice A ks.length cap))
   (first
    | exact⟨c0,q0,q1,q2,q3⟩
    | exact HS3.o
    | exact HS4.o
    | go_keep)
   (first
    | (go_at_call 175;refine(HND.o _ HD0.o).mono ?_;rintro ev w3 ⟨rfl,hb3⟩;have HB3:=Hh (HD0.o.trans hb3);have HS3:=Hh (show w3.cell? ⟨b,0,none⟩=some (.pointer (some ⟨bt,0,none⟩))∧w3.cell? ⟨w.heap.size,0,none⟩=some (.string ⟨k0.toArray⟩)∧w3.cell? ⟨w.heap.size,1,none⟩=some (.string ⟨d0.toArray⟩)∧w3.cell? ⟨w.heap.size,2,none⟩=some (.bool e0)∧w3.cell? ⟨w.heap.size,3,none⟩=some (.slice A ks.length cap) from ⟨(HB3.o.cell hbl2).trans c0,(HB3.o.cell hwl).trans q0,(HB3.o.cell hwl).trans q1,(HB3.o.cell hwl).trans q2,(HB3.o.cell hwl).trans q3⟩);clear hb3)
    | (go_at_call 130;refine(HFR.o _ HB3.o).mono ?_;rintro ev w4 ⟨rfl,hb4⟩;have HB4:=Hh (HB3.o.trans (hb4.mono HB3.o.size));have HS4:=Hh (show w4.cell? ⟨b,0,none⟩=some (.pointer (some ⟨bt,0,none⟩))∧w4.cell? ⟨w.heap.size,0,none⟩=some (.string ⟨k0.toArray⟩)∧w4.cell? ⟨w.heap.size,1,none⟩=some (.string ⟨d0.toArray⟩)∧w4.cell? ⟨w.heap.size,2,none⟩=some (.bool e0)∧w4.cell? ⟨w.heap.size,3,none⟩=some (.slice A ks.length cap) from ⟨(HB4.o.cell hbl2).trans c0,(HB4.o.cell hwl).trans q0,(HB4.o.cell hwl).trans q1,(HB4.o.cell hwl).trans q2,(HB4.o.cell hwl).trans q3⟩);clear hb4)
    | fail)
  have hg:w4.cell? ⟨7,0,none⟩=some (.iface 376 (.pointer (some (p 8)))):=((HE1.o.later (HB2.o.trans (HB4.o.mono HB2.o.size))).cell 8 (by decide) (by decide)).trans (by rw[qD p (by decide)]);clear c0 q0 q1 q2 q3;go_upto_region 5 with fail;go_quiet (fail);go_wp2;go_ret2;refine⟨by rw[qD p (by decide)];rfl,by decide,?_⟩;exact(HB1.o.trans (HB2.o.mono HB1.o.size)).trans ((Below.drewN HB4.o _).mono (zq HB1.o.size HB2.o.size))
 ·rw[HBD.o] at hp
  cases hp
structure PtSt (w6 wr:World)(c6 cr:Nat→Col)(b bt bm bf:Nat)(d:Stl.Dirs)(nd:Nat→List Value)(fm:Nat→Nat)(n:Nd)(i:Nat)(f:List (List UInt8×Nat))(t:Tab):Prop where
 ext:Ext w6 wr c6 cr (fun y=>oC y||decide (y=.free))
 but:DirsBut wr cr b d bt bm nd fm
 tab:TabAt wr cr bt t
 made:makeAll d.t ((qE n).take i)=.ok (f,t)
 map:vM wr bf i (fileAt f)
 fcol:cr bf=.free
theorem qGp {f:List (List UInt8×Nat)}{s:List UInt8}{m:Nat}(h:s∉f.map (·.1))(x:List UInt8):fileAt (f++[(s,m)]) x=if x=s then some (.int .i64 (m:Int)) else fileAt f x:=by
 unfold fileAt;rw[qDT h];by_cases hx:x=s
 ·rw[zM1 hx,zM1 hx];rfl
 ·rw[zL1 hx,zL1 hx]
theorem qOk (h:DirsAt w c b d)(hd:DirsGood d)(hroom:d.t.l.length≤900000)(hE:Env w c p){n:Nd}{vs:List Value}(hn:RoNode w c n vs){k:Nat}{d':Stl.Dirs}(hb:d.put n=.ok (k,d')) :
  Calls Tryz.prog 122 #[.pointer (some ⟨b,0,none⟩),.agg vs.toArray] w (qO1 w c b k d'):=by
 obtain⟨bt,bm,nd,fm,h⟩:=h;obtain⟨f0,t0,hte,hfr,hm0,rfl,rfl⟩:∃ f t,treeErr n=0∧wX n≤d.t.free.length∧makeAll d.t (qE n)=.ok (f,t)∧k=d.next∧d'={ t:=t,l:=d.l++[⟨d.next,jA n,f⟩],next:=d.next+1 }:=by
  rcases qFY hd.ok n with ⟨_,hp⟩ | ⟨_,_,hp⟩ | ⟨h1,h2,f,t,h3,hp⟩
  ·rw[hb] at hp;cases hp
  ·rw[hb] at hp;cases hp
  ·rw[hb] at hp
   cases hp
   exact⟨f,t,h1,h2,h3,rfl,rfl⟩
 have HN0:=Hh hn;obtain⟨k0,d0,e0,ks⟩:=n;obtain⟨A,cap,rfl⟩:=hn.open;have hb1:Below w.heap.size w (w.alloc (.cells #[.string ⟨k0.toArray⟩,.string ⟨d0.toArray⟩,.bool e0,.slice A ks.length cap] 134)):=(zB _ w).alloc (zo _) _;have HB1:=Hh hb1;have HX:=Hh (zK1 w (.cells #[.string ⟨k0.toArray⟩,.string ⟨d0.toArray⟩,.bool e0,.slice A ks.length cap] 134));have HN1:=Hh (NodeAt.later hb1 _ _ (NodeP.at _ _ hn));have HE1:=Hh (hE.errs.later hb1);have HI0:=Hh h;have HI1:=Hh (h.below hb1);have HCK:=Hh (xV p _ _ _ HE1.o HN1.o);rw[hte,show jK p 0=.nilIface from rfl] at HCK;have hbl:=qA h.own;have hdk:=hd.disk;have HD:=Hh hd;have HE:=Hh hE;have HTE:=Hh hte;have HFR:=Hh hfr;have HM0:=Hh hm0;have i1:¬ ((d.t.free.length:Nat):Int)<((wX (.mk k0 d0 e0 ks):Nat):Int):=by omega
 clear h hd hE hn hb1 hb hte hfr hm0;go_enter Tryz.func122,Tryz.ntmps122;go_upto_region 1 with fail;generalize w.alloc (.cells #[.string ⟨k0.toArray⟩,.string ⟨d0.toArray⟩,.bool e0,.slice A ks.length cap] 134)=w1 at *;obtain⟨q0,q1,q2,q3⟩:=cq HX.o;have HZ:=Hh (show w.heap.size<w1.heap.size from qA HX.o);go_upto_region 4 with (go_at_call 99;refine HCK.o.mono ?_;rintro ev w2 ⟨rfl,hb2⟩;have HB2:=Hh hb2;clear hb2);clear q0 q1 q2 q3;have HX2:=Hh ((HB2.o.block _ HZ.o).trans HX.o);obtain⟨q0,q1,q2,q3⟩:=cq HX2.o;have HI2:=Hh (HI1.o.below HB2.o);have c0:=ce0 HI2.o.own;have HND:=Hh (fun (W:World) (hb:Below w2.heap.size w2 W)=>qEY p _ _ W (HE1.o.later (HB2.o.trans (hb.mono HB2.o.size))) (NodeAt.later (HB2.o.trans (hb.mono HB2.o.size)) _ _ HN1.o));have HFRE:=Hh (fun (W:World) (hb:Below w2.heap.size w2 W)=>qCK (HI2.o.tab.below hb) hdk);have HD0:=Hh (zB w2.heap.size w2).drew;have hwl:w.heap.size<w2.heap.size:=zt HZ.o HB2.o.size;have hbl2:b<w2.heap.size:=qA HI2.o.own
 go_region_held3 (fun w'=>w'.cell? ⟨b,0,none⟩=some (.pointer (some ⟨bt,0,none⟩))∧w'.cell? ⟨w.heap.size,0,none⟩=some (.string ⟨k0.toArray⟩)∧w'.cell? ⟨w.heap.size,1,none⟩=some (.string ⟨d0.toArray⟩)∧w'.cell? ⟨w.heap.size,2,none⟩=some (.bool e0)∧w'.cell? ⟨w.heap.size,3,none⟩=some (.slice A ks.length cap))
  (first
   | exact⟨c0,q0,q1,q2,q3⟩
   | exact HS3.o
   | exact HS4.o
   | go_keep)
  (first
   | (go_at_call 175;refine(HND.o _ HD0.o).mono ?_;rintro ev w3 ⟨rfl,hb3⟩;have HB3:=Hh (HD0.o.trans hb3);have HS3:=Hh (show w3.cell? ⟨b,0,none⟩=some (.pointer (some ⟨bt,0,none⟩))∧w3.cell? ⟨w.heap.size,0,none⟩=some (.string ⟨k0.toArray⟩)∧w3.cell? ⟨w.heap.size,1,none⟩=some (.string ⟨d0.toArray⟩)∧w3.cell? ⟨w.heap.size,2,none⟩=some (.bool e0)∧w3.cell? ⟨w.heap.size,3,none⟩=some (.slice A ks.length cap) from ⟨(HB3.o.cell hbl2).trans c0,(HB3.o.cell hwl).trans q0,(HB3.o.cell hwl).trans q1,(HB3.o.cell hwl).trans q2,(HB3.o.cell hwl).trans q3⟩);clear hb3)
   | (go_at_call 130;refine(HFRE.o _ HB3.o).mono ?_;rintro ev w4 ⟨rfl,hb4⟩;have HB4:=Hh (HB3.o.trans (hb4.mono HB3.o.size));have HS4:=Hh (show w4.cell? ⟨b,0,none⟩=some (.pointer (some ⟨bt,0,none⟩))∧w4.cell? ⟨w.heap.size,0,none⟩=some (.string ⟨k0.toArray⟩)∧w4.cell? ⟨w.heap.size,1,none⟩=some (.string ⟨d0.toArray⟩)∧w4.cell? ⟨w.heap.size,2,none⟩=some (.bool e0)∧w4.cell? ⟨w.heap.size,3,none⟩=some (.slice A ks.length cap) from ⟨(HB4.o.cell hbl2).trans c0,(HB4.o.cell hwl).trans q0,(HB4.o.cell hwl).trans q1,(HB4.o.cell hwl).trans q2,(HB4.o.cell hwl).trans q3⟩);clear hb4)
   | fail)
 have HBW4:=Hh (HB1.o.trans (HB2.o.trans (HB4.o.mono HB2.o.size) |>.mono HB1.o.size));have hs4:w.heap.size<w4.heap.size:=zt hwl HB4.o.size;have HX4:=Hh ((HB4.o.block _ hwl).trans HX2.o);have hmm:=@run_makeMap Tryz.prog;have hb5:=(zB w4.heap.size w4).alloc (zo _) (.map #[] 0);have HBW5:=Hh (HBW4.o.alloc HBW4.o.size (.map #[] 0));have HX5:=Hh ((hb5.block _ hs4).trans HX4.o);have HM5:=Hh (zzMapAt.made w4 Tryz.prog 9 oB);have hz5:(w4.alloc (.map #[] 0)).heap.size=w4.heap.size+1:=by simp
 clear c0 q0 q1 q2 q3 hb5;go_upto_region 7 with fail;generalize w4.alloc (.map #[] 0)=w5 at *;have HZ5:=Hh hz5;clear hz5;obtain⟨q0,q1,q2,q3⟩:=cq HX5.o;have HFI:=Hh (qCY p _ _ w5 (HE.o.errs.later HBW5.o) (NodeAt.later HBW5.o _ _ (NodeP.at _ _ HN0.o)));go_upto_region 8 with (go_at_call 63;refine HFI.o.mono ?_;rintro ev w6 ⟨A6,cap6,rfl,hr6,hb6⟩;have HR6:=Hh hr6;have HB56:=Hh hb6;have HB6:=Hh (HBW5.o.trans (hb6.mono HBW5.o.size));clear hr6 hb6);clear q0 q1 q2 q3;have hfl:(qR (.mk k0 d0 e0 ks)).length=(qE (.mk k0 d0 e0 ks)).length:=by rw[← qAd,zT]
 have hfew:=qBp (.mk k0 d0 e0 ks);have hs6:=HB56.o.size;obtain⟨c6,hc6⟩:∃ c6:Nat→Col,c6=fun k=>if k<w.heap.size then c k else if k=w4.heap.size then .free else .ro:=⟨_,rfl⟩
 have HC6:=Hh hc6;have e06:Ext w w6 c c6 S0:=(Ext.of_below HB6.o c S0).recolor fun k hk _=>by rw[hc6];exact zM1 hk
 have HE06:=Hh e06;have hcf:c6 w4.heap.size=.free:=by
  rw[hc6];show (if w4.heap.size<w.heap.size then _ else if w4.heap.size=w4.heap.size then Col.free else _)=_;rw[zL1 (by omega),zM1 rfl]
 have hcr:∀ k,w.heap.size≤k→k≠w4.heap.size→c6 k=.ro:=fun k h1 h2=>by
  rw[hc6];show (if k<w.heap.size then _ else if k=w4.heap.size then Col.free else Col.ro)=_;rw[zL1 (by omega),zL1 h2]
 have HCR:=Hh hcr;have HI6:=Hh (HI0.o.ext e06 rfl (fun _ _=>rfl));have HE6:=Hh (HE.o.ext e06 rfl);have HN6:=Hh (HN0.o.ext e06 rfl);have HX6:=Hh ((HB56.o.block _ (qA HX5.o)).trans HX5.o);have HM6:=Hh (show vM w6 w4.heap.size 0 (fileAt []) from (HM5.o.of_block (HB56.o.block _ HM5.o.lt)).congr fun x=>rfl);have H0:=Hh (show PtSt w6 w6 c6 c6 b bt bm w4.heap.size d nd fm (.mk k0 d0 e0 ks) 0 [] d.t from ⟨Ext.refl _ _ _,HI6.o.but,HI6.o.tab,rfl,HM6.o,hcf⟩);have HRS:=Hh (vF HR6.o);have HRG:=Hh (show ∀ g,(Value.slice A6 (qR (.mk k0 d0 e0 ks)).length cap6).ownBlock=some g→c6 g=.ro from fun g hg=>HCR.o g (by have:=(HR6.o.lt g hg).1;have:=HZ5.o;omega) (by have:=(HR6.o.lt g hg).1;have:=HZ5.o;omega));rw[hfl] at *;clear hc6 e06 hcf hcr hfl
 go_loopw [30] (fun a wr=>∃ (i:Nat) (cr:Nat→Col) (f:List (List UInt8×Nat)) (t:Tab),a=.int .i64 i∧i≤(qE (.mk k0 d0 e0 ks)).length∧Hg (PtSt w6 wr c6 cr b bt bm w4.heap.size d nd fm (.mk k0 d0 e0 ks) i f t)) (fun a _=>(qE (.mk k0 d0 e0 ks)).length-(intOf a).toNat)
 case atStart=>exact⟨0,c6,[],d.t,rfl,zw _,H0⟩
 case round =>
  obtain⟨i,cr,f,t,rfl,hi,HS⟩:=hrel;have HXr:=Hh (HS.o.ext.kept HX6.o (HCR.o _ (zo _) (by omega)) rfl);obtain⟨q0,q1,q2,q3⟩:=cq HXr.o.1;have HEr:=Hh (HE6.o.ext HS.o.ext rfl);have HNr:=Hh (HN6.o.ext HS.o.ext rfl);have hszr:=HS.o.ext.size;by_cases hil:i<(qE (.mk k0 d0 e0 ks)).length
  ·have k1:(i:Int)<((qE (.mk k0 d0 e0 ks)).length:Int):=by omega
   have k2:(0:Int)≤(i:Int):=by omega
   obtain⟨m,t2,hmk,hmk2⟩:=qKF HD.o.ok HTE.o HFR.o hil HS.o.made;obtain⟨hgp,hdl,hpl⟩:=qKZ HTE.o hil;have HPN:=Hh (qMX hil HS.o.made);have HMK2:=Hh hmk2;have hti:(qR (.mk k0 d0 e0 ks))[i]?=some (told (qE (.mk k0 d0 e0 ks))[i].path):=by
    rw[← qAd,zN,zL hil];rfl
   obtain⟨As,cs,es,hst⟩:=HRS.o;injection es with es1 es2 es3
   subst es1 es3;clear es2;obtain⟨g,off,rfl,hg,hgc⟩:=hst (by intro e;rw[e] at hti;simp at hti);have r0:wr.cell? ⟨g,off+i,none⟩=some (.string ⟨(told (qE (.mk k0 d0 e0 ks))[i].path).toArray⟩):=(zD1 (w:=w6) (a:=⟨g,off+i,none⟩) (HS.o.ext.keep g hg (by rw[HRG.o g (by simp[Value.ownBlock])];rfl)).1).trans (hgc i _ hti);have hpth:(told (qE (.mk k0 d0 e0 ks))[i].path).length≤4000000:=by
    unfold told;split
    ·simp
    ·omega
   have HPG:=Hh (qHy (p:=p) _ _ (told (qE (.mk k0 d0 e0 ks))[i].path) hpth wr HEr.o.errs HEr.o.max (NodeP.at _ _ HNr.o));rw[hgp] at HPG;clear hgp hmk2 hti;generalize hpth2:told (qE (.mk k0 d0 e0 ks))[i].path=pth at *;generalize hit:(qE (.mk k0 d0 e0 ks))[i].n=it at *;clear hpth2 hit hgc hst;obtain⟨k3,d3,e3,ks3⟩:=it;simp only[Nd.data,Nd.exec] at hmk hdl;go_upto_region 11 with (go_at_call 133;refine HPG.o.mono ?_;rintro ev w7 ⟨hb7,a0,a1,a2,A7,m7,cp7,er,rfl,rfl,hn7⟩;have HB7:=Hh hb7;have HN7:=Hh hn7;clear hb7 hn7);obtain⟨A8,cp8,hn8⟩:=HN7.o.open;simp only[zD,Value.string.injEq,Value.bool.injEq,zC1,and_true] at hn8;obtain⟨rfl,rfl,rfl,rfl,rfl,rfl⟩:=hn8;have hb8:=(zB w7.heap.size w7).alloc (zo _) (.cells #[.string ⟨k3.toArray⟩,.string ⟨d3.toArray⟩,.bool a2,.slice A7 ks3.length cp7] 134);have HX8:=Hh (zK1 w7 (.cells #[.string ⟨k3.toArray⟩,.string ⟨d3.toArray⟩,.bool a2,.slice A7 ks3.length cp7] 134));have HB8:=Hh (HB7.o.trans (hb8.mono HB7.o.size));have hs7:=HB7.o.size;have hs8:(w7.alloc (.cells #[.string ⟨k3.toArray⟩,.string ⟨d3.toArray⟩,.bool a2,.slice A7 ks3.length cp7] 134)).heap.size=w7.heap.size+1:=by simp
   clear q0 q1 q2 q3 r0 hb8 HN7;go_upto_region 13 with fail;generalize w7.alloc (.cells #[.string ⟨k3.toArray⟩,.string ⟨d3.toArray⟩,.bool a2,.slice A7 ks3.length cp7] 134)=w8 at *;obtain⟨c8,hc8⟩:∃ c8:Nat→Col,c8=fun k=>if k<wr.heap.size then cr k else .ro:=⟨_,rfl⟩
   have e8:Ext wr w8 cr c8 S0:=(Ext.of_below HB8.o cr S0).recolor fun k hk _=>by rw[hc8];exact zM1 hk
   have hc8x:c8 w7.heap.size=.ro:=by
    rw[hc8];show (if w7.heap.size<wr.heap.size then _ else Col.ro)=_;rw[zL1 (by omega)]
   have HE8:=Hh e8;have hbu8:=HS.o.but.ext e8 rfl rfl rfl (fun _=>rfl);have ht8:=(HS.o.tab.ext e8 rfl (fun _ _=>rfl)).below (zB w8.heap.size w8).drew;have hm8:=HS.o.map.ext e8 HS.o.fcol rfl;have HBU8:=Hh hbu8;have HM8:=Hh hm8;have HF8:=Hh (show c8 w4.heap.size=.free from e8.col HS.o.map.lt HS.o.fcol rfl);have hti2:((qE (.mk k0 d0 e0 ks)).take i).length≤200:=zq (List.length_take_le _ _) (by omega);have HMK:=Hh (show Calls Tryz.prog 176 #[.pointer (some ⟨bt,0,none⟩),.string ⟨d3.toArray⟩,.bool a2] w8.drew _ from qNR ht8 (by rw[(kD _ _ _ _ HS.o.made).1];exact hdk) (by have:=(kD _ _ _ _ HS.o.made).2.1;omega) hmk);have b0:=ce0 hbu8.own;have x1:=ce1 HX8.o;have x2:=ce2 HX8.o;have HCX:=Hh hc8x;clear e8 hc8x hbu8 ht8 hm8 hc8
   go_region_held3 (fun w'=>w'.cell? ⟨b,0,none⟩=some (.pointer (some ⟨bt,0,none⟩))∧w'.cell? ⟨w7.heap.size,1,none⟩=some (.string ⟨d3.toArray⟩)∧w'.cell? ⟨w7.heap.size,2,none⟩=some (.bool a2))
    (first
     | exact⟨b0,x1,x2⟩
     | exact HS9.o
     | exact HS10.o
     | go_keep)
    (first
     | (go_at_call 176;refine HMK.o.mono ?_;rintro ev w9 ⟨rfl,c9,he9',ht9⟩;have he9:Ext w8 w9 c8 c9 oC:=(Ext.refl w8 c8 oC).drew.trans he9';have hm9:=HM8.o.ext he9 HF8.o rfl;obtain⟨W10,hput,hm10,hturn10⟩:=hm9.put (t:=201) (e:=3) okS Tryz.underlying201 (by unfold maxLen;omega) (i:=pth) (by unfold maxLen;omega) (.int .i64 (m:Int));simp only[mkS] at hput;have hf9:c9 w4.heap.size=.free:=he9.col HM8.o.lt HF8.o rfl;have he10:=Ext.turned hturn10 hf9;have HE9:=Hh he9;have HT9:=Hh ht9;have HM10:=Hh hm10;have HE10:=Hh he10;have HF9:=Hh hf9;have ho9:=he9.kept HBU8.o.own HBU8.o.col rfl;have hx9:=he9.kept HX8.o HCX.o rfl;have ho10:=he10.kept ho9.1 ho9.2 rfl;have hx10:=he10.kept hx9.1 hx9.2 rfl;have HS9:=Hh (show w9.cell? ⟨b,0,none⟩=some (.pointer (some ⟨bt,0,none⟩))∧w9.cell? ⟨w7.heap.size,1,none⟩=some (.string ⟨d3.toArray⟩)∧w9.cell? ⟨w7.heap.size,2,none⟩=some (.bool a2) from ⟨zJ1 w9 b 0 _ _ _ ho9.1,zJ1 w9 _ 1 _ _ _ hx9.1,zJ1 w9 _ 2 _ _ _ hx9.1⟩);have HS10:=Hh (show W10.cell? ⟨b,0,none⟩=some (.pointer (some ⟨bt,0,none⟩))∧W10.cell? ⟨w7.heap.size,1,none⟩=some (.string ⟨d3.toArray⟩)∧W10.cell? ⟨w7.heap.size,2,none⟩=some (.bool a2) from ⟨zJ1 W10 b 0 _ _ _ ho10.1,zJ1 W10 _ 1 _ _ _ hx10.1,zJ1 W10 _ 2 _ _ _ hx10.1⟩);clear he9 he9' ht9 hm9 hm10 hturn10 hf9 he10 ho9 hx9 ho10 hx10)
     | fail)
   clear b0 x1 x2 hput;go_wp2;go_roundw
   case rel =>
    refine⟨i+1,c9,f++[(pth,m)],t2,by go_num,hil,Hh ⟨?_,?_,?_,HMK2.o,?_,HF9.o⟩⟩
    ·exact((HS.o.ext.then HE8.o (fun _ _=>rfl)).then HE9.o (fun x hx=>by cases x<;>first | rfl | (cases hx))).then HE10.o (jP rfl)
    ·exact(HBU8.o.ext HE9.o rfl rfl rfl (fun _=>rfl)).ext HE10.o rfl rfl rfl (fun _=>rfl)
    ·exact HT9.o.ext HE10.o rfl (fun x hx=>yU (by intro e;subst e;cases hx))
    ·exact HM10.o.congr fun y=>qGp HPN.o y
   case measure=>simp[intOf];omega
  ·have k1:¬ (i:Int)<((qE (.mk k0 d0 e0 ks)).length:Int):=by omega
   obtain rfl:i=(qE (.mk k0 d0 e0 ks)).length:=by omega
   have hmd:=HS.o.made;rw[zk,HM0.o] at hmd;obtain⟨rfl,rfl⟩:f0=f∧t0=t:=by
    injection hmd with hmd
    injection hmd with h1 h2
    exact⟨h1,h2⟩
   have hsz:=(kD _ _ _ _ HM0.o).2.2;have hfl2:f0.length=(qE (.mk k0 d0 e0 ks)).length:=by
    have:=congrArg List.length hsz;simpa using this
   have HMP:=Hh (show vM wr w4.heap.size f0.length (fileAt f0) by rw[hfl2];exact HS.o.map);have HWT:=Hh (qHF _ _ _ (fun b=>cr b=.ro) wr.drew (zo (Stl.wt (.mk k0 d0 e0 ks))) (NodeP.go (w:=wr) (w':=wr.drew) (zo _) (fun b _ h=>⟨rfl,h⟩) _ _ HNr.o));have b1:=ce1 HS.o.but.own;have b2:=ce2 HS.o.but.own;have hnx:=HD.o.next;have hen:=HD.o.ents;have hblr:=qA HS.o.but.own;have hxr:=qA HXr.o.1;have HZW:=Hh (show wr.drew.heap.size=wr.heap.size from rfl);have hbare:jA (.mk k0 d0 e0 ks)=.mk k0 (if k0=kFile then [] else d0) e0 (jO ks):=by simp only[jA]
   rw[hbare] at HWT;have HBR:=Hh hbare;generalize (if k0=kFile then [] else d0)=d9 at HWT HBR;generalize jO ks=ks9 at HWT HBR;clear hmd hsz hbare;go_upto_region 17 with fail
   go_region_held3 (fun w'=>w'.cell? ⟨b,1,none⟩=some (.map (some bm))∧w'.cell? ⟨b,2,none⟩=some (.int .i64 d.next)∧w'.cell? ⟨w.heap.size,0,none⟩=some (.string ⟨k0.toArray⟩)∧w'.cell? ⟨w.heap.size,1,none⟩=some (.string ⟨d0.toArray⟩)∧w'.cell? ⟨w.heap.size,2,none⟩=some (.bool e0)∧w'.cell? ⟨w.heap.size,3,none⟩=some (.slice A ks.length cap))
    (first
     | exact⟨b1,b2,q0,q1,q2,q3⟩
     | exact HS9.o
     | exact HS10.o
     | go_keep)
    (first
     | (go_at_call 177;refine HWT.o.mono ?_;rintro ev w9 ⟨us,rfl,hn9,hb9'⟩;obtain⟨A9,cp9,rfl⟩:=hn9.open;have hb9:Below wr.heap.size wr w9:=(zB _ wr).drew.trans hb9';obtain⟨c9,hc9⟩:∃ c9:Nat→Col,c9=fun k=>if k<wr.heap.size then (if k=w4.heap.size then .files d.next else cr k) else .ro:=⟨_,rfl⟩;have he9:Ext wr w9 cr c9 (S1 .free):=(Ext.of_below hb9 cr (S1 .free)).recolor fun k hk hS=>by { rw[hc9];show (if k<wr.heap.size then (if k=w4.heap.size then Col.files d.next else cr k) else _)=_;rw[zM1 hk,zL1 (fun e=>by rw[e,HS.o.fcol] at hS;cases hS)] };have hn9':RoNode w9 c9 (.mk k0 d9 e0 ks9) _:=NodeP.go (zo _) (fun k hk hO=>⟨rfl,by { rw[hc9];show (if k<wr.heap.size then (if k=w4.heap.size then Col.files d.next else cr k) else Col.ro)=_;by_cases hkl:k<wr.heap.size;{ rw[zM1 hkl];rcases hO with hO | hO;{ rw[zL1 (fun e=>by rw[e,HS.o.fcol] at hO;cases hO)];exact hO };{ exact absurd hkl (Nat.not_lt.2 hO) } };{ rw[zL1 hkl] } }⟩) _ _ hn9;have hbu9:=HS.o.but.ext he9 rfl rfl rfl (fun _=>rfl);obtain⟨W10,hput,hm10,hturn10⟩:=hbu9.map.put (t:=86) (e:=203) okN Tryz.underlying86 (by unfold maxLen;omega) (i:=d.next) (by omega) (.agg #[.string ⟨k0.toArray⟩,.string ⟨d9.toArray⟩,.bool e0,.slice A9 ks9.length cp9,.map (some w4.heap.size)]);simp only[mkN] at hput;have he10:=Ext.turned hturn10 hbu9.mcol;have HE9:=Hh he9;have HN9:=Hh hn9';have HB9:=Hh hb9;have HBU9:=Hh hbu9;have HM10:=Hh hm10;have HE10:=Hh he10;have HC9:=Hh hc9;have ho10:=he10.kept hbu9.own hbu9.col rfl;have hx9:=(hb9.block _ hxr).trans HXr.o.1;have hx10:=(hturn10.grown.block _ (zt hxr hb9.size) (fun h=>by { injection h with h;have h1:=(hb9.block _ hxr).trans HXr.o.1;have h2:=hbu9.mcol;rw[← h,hc9] at h2;revert h2;show (if w.heap.size<wr.heap.size then (if w.heap.size=w4.heap.size then Col.files d.next else cr w.heap.size) else Col.ro)=_→_;rw[zM1 hxr,zL1 (by omega),HXr.o.2];intro h2;cases h2 })).trans hx9;have HS9:=Hh (show w9.cell? ⟨b,1,none⟩=some (.map (some bm))∧w9.cell? ⟨b,2,none⟩=some (.int .i64 d.next)∧w9.cell? ⟨w.heap.size,0,none⟩=some (.string ⟨k0.toArray⟩)∧w9.cell? ⟨w.heap.size,1,none⟩=some (.string ⟨d0.toArray⟩)∧w9.cell? ⟨w.heap.size,2,none⟩=some (.bool e0)∧w9.cell? ⟨w.heap.size,3,none⟩=some (.slice A ks.length cap) from ⟨zJ1 w9 b 1 _ _ _ hbu9.own,zJ1 w9 b 2 _ _ _ hbu9.own,zJ1 w9 _ 0 _ _ _ hx9,zJ1 w9 _ 1 _ _ _ hx9,zJ1 w9 _ 2 _ _ _ hx9,zJ1 w9 _ 3 _ _ _ hx9⟩);have HS10:=Hh (show W10.cell? ⟨b,1,none⟩=some (.map (some bm))∧W10.cell? ⟨b,2,none⟩=some (.int .i64 d.next)∧W10.cell? ⟨w.heap.size,0,none⟩=some (.string ⟨k0.toArray⟩)∧W10.cell? ⟨w.heap.size,1,none⟩=some (.string ⟨d0.toArray⟩)∧W10.cell? ⟨w.heap.size,2,none⟩=some (.bool e0)∧W10.cell? ⟨w.heap.size,3,none⟩=some (.slice A ks.length cap) from ⟨zJ1 W10 b 1 _ _ _ ho10.1,zJ1 W10 b 2 _ _ _ ho10.1,zJ1 W10 _ 0 _ _ _ hx10,zJ1 W10 _ 1 _ _ _ hx10,zJ1 W10 _ 2 _ _ _ hx10,zJ1 W10 _ 3 _ _ _ hx10⟩);have HO10:=Hh ho10;clear hn9 hb9' he9 hn9' hbu9 hm10 hturn10 he10 ho10 hx9 hx10 hc9)
     | fail)
   clear b1 b2 q0 q1 q2 q3 hput;have c2:=ce2 HO10.o.1;have f2:W10.frozen? ⟨b,2,none⟩=false:=qC HO10.o.1 2;have hcf9:c9 w4.heap.size=.files d.next:=by
    rw[HC9.o];show (if w4.heap.size<wr.heap.size then (if w4.heap.size=w4.heap.size then Col.files d.next else _) else _)=_;rw[zM1 HS.o.map.lt,zM1 rfl]
   obtain⟨p1,p2⟩:=HBU9.o.put (fun x hx=>HD.o.ok.next x hx) HN9.o hcf9 (HMP.o.of_block (HB9.o.block _ HMP.o.lt)) HM10.o HE10.o;rw[show ((d.next+1:Nat):Int)=(d.next:Int)+1 by omega] at p1 p2;have HP1:=Hh p1;have HP2:=Hh p2;clear p1 p2;go_wp2;go_ret2;have hlow:∀ x,mN x=false→(fun y=>oC y||decide (y=Col.free)) x=false:=fun x hx=>by cases x<;>first | rfl | (cases hx)
   have hfin:=HP1.o.full (((HS.o.tab.ext HE9.o rfl (fun x hx=>yU (by intro e;subst e;cases hx))).ext HE10.o rfl (fun x hx=>yU (by intro e;subst e;cases hx))).ext HP2.o rfl (fun x hx=>yU (by intro e;subst e;cases hx)));rw[← HBR.o] at hfin;refine⟨rfl,c9,?_,bt,bm,_,_,hfin⟩;exact((((HE06.o.mono (fun _ _=>rfl):Ext w w6 c c6 mN).then HS.o.ext hlow).then HE9.o (jP rfl)).then HE10.o (jP rfl)).then HP2.o (jP rfl)
end
end Go.Proofs.YtbmkaekimccdgaaGreatDoor
