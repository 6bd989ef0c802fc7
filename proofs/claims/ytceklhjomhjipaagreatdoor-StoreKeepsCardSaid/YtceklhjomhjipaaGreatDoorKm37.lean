/- Texts of this claim, merged: Put, PackPure. -/
import Derived.Test.YtceklhjomhjipaaGreatDoorKm36
set_option maxHeartbeats 16000000
set_option maxRecDepth 1000000
set_option linter.all false
namespace Go.Proofs.YtceklhjomhjipaaGreatDoor
open Go.RowKit Go.Sort Go.Shelf Stl
def qQK (p:Nat→Addr) (w:World) (cd:Nat) (ev:Ending) (w':World):Prop:=ev=.returned (.tuple #[.int .i64 0,qAB p cd])∧cd≠0∧Below w.heap.size w w'
def qRo (w:World) (c:Nat→Col) (b:Nat) (k:Nat) (d':Stl.Dirs) (ev:Ending) (w':World):Prop:=ev=.returned (.tuple #[.int .i64 k,.nilIface])∧∃ c2,Ext w w' c c2 qDz∧DirsAt w' c2 b d'
theorem qIy {d:Stl.Dirs} (hd:qAN d) (n:Nd):(treeErr n≠0∧d.put n=.error (treeErr n))∨(treeErr n=0∧d.t.free.length<qCu n∧d.put n=.error 8)∨(treeErr n=0∧qCu n≤d.t.free.length∧∃ f t,makeAll d.t (qAe n)=.ok (f,t)∧d.put n=.ok (d.next,{ t:=t,l:=d.l++[⟨d.next,qAo n,f⟩],next:=d.next+1 })):=by
 by_cases h0:treeErr n=0
 ·by_cases h1:d.t.free.length<qCu n
  ·refine .inr (.inl ⟨h0,h1,?_⟩)
   unfold Dirs.put
   rw [zL1 (by simp [h0]),zM1 h1]
  ·refine .inr (.inr ⟨h0,by omega,?_⟩)
   obtain ⟨k,d',h⟩:=qNV hd h0 (by omega)
   have h2:=h
   unfold Dirs.put at h2
   rw [zL1 (by simp [h0]),zL1 h1] at h2
   cases hm:makeAll d.t (qAe n) with
   | error e=>rw [hm] at h2;cases h2
   | ok q =>
    obtain ⟨f,t⟩:=q
    rw [hm] at h2
    refine ⟨f,t,rfl,?_⟩
    rw [h,← h2]
 ·refine .inl ⟨h0,?_⟩
  unfold Dirs.put
  rw [zM1 h0]
section
variable {w:World} {c:Nat→Col} {b:Nat} {d:Stl.Dirs} {p:Nat→Addr}
theorem qQA (h:DirsAt w c b d) (hd:DirsGood d) (hE:Env w c p) {n:Nd} {vs:List Value} (hn:NodeAt w n vs) {cd:Nat} (hb:d.put n=.error cd) :
  Calls Tryz.prog 78 #[.pointer (some ⟨b,0,none⟩),.agg vs.toArray] w (qQK p w cd):=by
 obtain ⟨bt,bm,nd,fm,h⟩:=h
 obtain ⟨k0,d0,e0,ks⟩:=n
 obtain ⟨A,cap,rfl,_⟩:=hn.open
 have hb1:Below w.heap.size w (w.alloc (.cells #[.string ⟨k0.toArray⟩,.string ⟨d0.toArray⟩,.bool e0,.slice A ks.length cap] 114)):=(zB _ w).alloc (zq _) _
 have HB1:=Hh hb1
 have HX:=Hh (zK1 w (.cells #[.string ⟨k0.toArray⟩,.string ⟨d0.toArray⟩,.bool e0,.slice A ks.length cap] 114))
 have HN1:=Hh (NodeAt.later hb1 _ _ hn)
 have HE1:=Hh (hE.errs.later hb1)
 have HI1:=Hh (h.below hb1)
 have HCK:=Hh (qDi p _ _ _ HE1.out HN1.out)
 have hbl:=qAa h.own
 have hdk:=hd.disk
 have HPC:=Hh (qIy hd.ok (.mk k0 d0 e0 ks))
 have HBD:=Hh hb
 clear h hd hE hn hb1 hb
 go_enter Tryz.func78,Tryz.ntmps78
 go_upto_region 1 with fail
 generalize w.alloc (.cells #[.string ⟨k0.toArray⟩,.string ⟨d0.toArray⟩,.bool e0,.slice A ks.length cap] 114)=w1 at *
 have q0:=ce0 HX.out
 have q1:=ce1 HX.out
 have q2:=ce2 HX.out
 have q3:=ce3 HX.out
 have HZ:=Hh (show w.heap.size<w1.heap.size from qAa HX.out)
 rcases HPC.out with ⟨hte,hp⟩ | ⟨hte,hfr,hp⟩ | ⟨hte,hfr,f,t,hm,hp⟩
 ·have hcd:treeErr (.mk k0 d0 e0 ks)=cd:=by have:=hp.symm.trans HBD.out;injection this
  rw [qAc p hte,hcd] at HCK
  rw [hcd] at hte
  have HTE:=Hh hte
  have HEO:=Hh (qAc p hte)
  clear hp hte hcd
  go_wp2_with (go_at_call 125;refine HCK.out.mono ?_;rintro ev w2 ⟨rfl,hb2⟩;have HB2:=Hh (HB1.out.trans (hb2.mono HB1.out.size));clear hb2)
  go_ret2
  exact ⟨by rw [HEO.out];rfl,HTE.out,HB2.out⟩
 ·have hcd:8=cd:=by have:=hp.symm.trans HBD.out;injection this
  subst hcd
  rw [hte,show qAB p 0=.nilIface from rfl] at HCK
  have i1:((d.t.free.length:Nat):Int)<((qCu (.mk k0 d0 e0 ks):Nat):Int):=by omega
  clear hp hte hfr
  go_upto_region 4 with (go_at_call 125;refine HCK.out.mono ?_;rintro ev w2 ⟨rfl,hb2⟩;have HB2:=Hh hb2;clear hb2)
  clear q0 q1 q2 q3
  have HX2:=Hh ((HB2.out.block _ HZ.out).trans HX.out)
  have q0:=ce0 HX2.out
  have q1:=ce1 HX2.out
  have q2:=ce2 HX2.out
  have q3:=ce3 HX2.out
  have HI2:=Hh (HI1.out.below HB2.out)
  have c0:=ce0 HI2.out.own
  have HND:=Hh (fun (W:World) (hb:Below w2.heap.size w2 W)=>qIr p _ _ W (HE1.out.later (HB2.out.trans (hb.mono HB2.out.size))) (NodeAt.later (HB2.out.trans (hb.mono HB2.out.size)) _ _ HN1.out))
  have HFR:=Hh (fun (W:World) (hb:Below w2.heap.size w2 W)=>qFY (HI2.out.tab.below hb) hdk)
  have HD0:=Hh (zB w2.heap.size w2).drew
  have hwl:w.heap.size<w2.heap.size:=zu HZ.out HB2.out.size
  have hbl2:b<w2.heap.size:=qAa HI2.out.own
  go_region_held3 (fun w'=>w'.cell? ⟨b,0,none⟩=some (.pointer (some ⟨bt,0,none⟩))∧w'.cell? ⟨w.heap.size,0,none⟩=some (.string ⟨k0.toArray⟩)∧w'.cell? ⟨w.heap.size,1,none⟩=some (.string ⟨d0.toArray⟩)∧w'.cell? ⟨w.heap.size,2,none⟩=some (.bool e0)∧w'.cell? ⟨w.heap.size,3,none⟩=some (.slice A ks.length cap))
   (first
    | exact ⟨c0,q0,q1,q2,q3⟩
    | exact HS3.out
    | exact HS4.out
    | go_keep)
   (first
    | (go_at_call 131;refine (HND.out _ HD0.out).mono ?_;rintro ev w3 ⟨rfl,hb3⟩;have HB3:=Hh (HD0.out.trans hb3);have HS3:=Hh (show w3.cell? ⟨b,0,none⟩=some (.pointer (some ⟨bt,0,none⟩))∧w3.cell? ⟨w.heap.size,0,none⟩=some (.string ⟨k0.toArray⟩)∧w3.cell? ⟨w.heap.size,1,none⟩=some (.string ⟨d0.toArray⟩)∧w3.cell? ⟨w.heap.size,2,none⟩=some (.bool e0)∧w3.cell? ⟨w.heap.size,3,none⟩=some (.slice A ks.length cap) from ⟨(HB3.out.cell hbl2).trans c0,(HB3.out.cell hwl).trans q0,(HB3.out.cell hwl).trans q1,(HB3.out.cell hwl).trans q2,(HB3.out.cell hwl).trans q3⟩);clear hb3)
    | (go_at_call 87;refine (HFR.out _ HB3.out).mono ?_;rintro ev w4 ⟨rfl,hb4⟩;have HB4:=Hh (HB3.out.trans (hb4.mono HB3.out.size));have HS4:=Hh (show w4.cell? ⟨b,0,none⟩=some (.pointer (some ⟨bt,0,none⟩))∧w4.cell? ⟨w.heap.size,0,none⟩=some (.string ⟨k0.toArray⟩)∧w4.cell? ⟨w.heap.size,1,none⟩=some (.string ⟨d0.toArray⟩)∧w4.cell? ⟨w.heap.size,2,none⟩=some (.bool e0)∧w4.cell? ⟨w.heap.size,3,none⟩=some (.slice A ks.length cap) from ⟨(HB4.out.cell hbl2).trans c0,(HB4.out.cell hwl).trans q0,(HB4.out.cell hwl).trans q1,(HB4.out.cell hwl).trans q2,(HB4.out.cell hwl).trans q3⟩);clear hb4)
    | fail)
  have hg:w4.cell? ⟨4,0,none⟩=some (.iface 377 (.pointer (some (p 8)))):=((HE1.out.later (HB2.out.trans (HB4.out.mono HB2.out.size))).cell 8 (by decide) (by decide)).trans (by rw [qAc p (by decide)])
  clear c0 q0 q1 q2 q3
  go_upto_region 5 with fail
  go_quiet (fail)
  go_wp2
  go_ret2
  refine ⟨by rw [qAc p (by decide)];rfl,by decide,?_⟩
  exact (HB1.out.trans (HB2.out.mono HB1.out.size)).trans ((Below.drewN HB4.out _).mono (zr HB1.out.size HB2.out.size))
 ·rw [HBD.out] at hp
  cases hp
structure PtSt (w6 wr:World) (c6 cr:Nat→Col) (b bt bm bf:Nat) (d:Stl.Dirs) (nd:Nat→List Value) (fm:Nat→Nat) (n:Nd) (i:Nat) (f:List (List UInt8×Nat)) (t:Tab):Prop where
 ext:Ext w6 wr c6 cr (fun y=>qMd y||decide (y=.free))
 but:DirsBut wr cr b d bt bm nd fm
 tab:TabAt wr cr bt t
 made:makeAll d.t ((qAe n).take i)=.ok (f,t)
 map:qBj wr bf i (fileAt f)
 fcol:cr bf=.free
theorem qKf {f:List (List UInt8×Nat)} {s:List UInt8} {m:Nat} (h:s∉f.map (·.1)) (x:List UInt8):fileAt (f++[(s,m)]) x=if x=s then some (.int .i64 (m:Int)) else fileAt f x:=by
 unfold fileAt
 rw [qG5 h]
 by_cases hx:x=s
 ·rw [zM1 hx,zM1 hx];rfl
 ·rw [zL1 hx,zL1 hx]
theorem qQJ (h:DirsAt w c b d) (hd:DirsGood d) (hroom:d.t.l.length≤900000) (hE:Env w c p) {n:Nd} {vs:List Value} (hn:RoNode w c n vs) {k:Nat} {d':Stl.Dirs} (hb:d.put n=.ok (k,d')) :
  Calls Tryz.prog 78 #[.pointer (some ⟨b,0,none⟩),.agg vs.toArray] w (qRo w c b k d'):=by
 obtain ⟨bt,bm,nd,fm,h⟩:=h
 obtain ⟨f0,t0,hte,hfr,hm0,rfl,rfl⟩:∃ f t,treeErr n=0∧qCu n≤d.t.free.length∧makeAll d.t (qAe n)=.ok (f,t)∧k=d.next∧d'={ t:=t,l:=d.l++[⟨d.next,qAo n,f⟩],next:=d.next+1 }:=by
  rcases qIy hd.ok n with ⟨_,hp⟩ | ⟨_,_,hp⟩ | ⟨h1,h2,f,t,h3,hp⟩
  ·rw [hb] at hp;cases hp
  ·rw [hb] at hp;cases hp
  ·rw [hb] at hp
   cases hp
   exact ⟨f,t,h1,h2,h3,rfl,rfl⟩
 have HN0:=Hh hn
 obtain ⟨k0,d0,e0,ks⟩:=n
 obtain ⟨A,cap,rfl⟩:=hn.open
 have hb1:Below w.heap.size w (w.alloc (.cells #[.string ⟨k0.toArray⟩,.string ⟨d0.toArray⟩,.bool e0,.slice A ks.length cap] 114)):=(zB _ w).alloc (zq _) _
 have HB1:=Hh hb1
 have HX:=Hh (zK1 w (.cells #[.string ⟨k0.toArray⟩,.string ⟨d0.toArray⟩,.bool e0,.slice A ks.length cap] 114))
 have HN1:=Hh (NodeAt.later hb1 _ _ (NodeP.at _ _ hn))
 have HE1:=Hh (hE.errs.later hb1)
 have HI0:=Hh h
 have HI1:=Hh (h.below hb1)
 have HCK:=Hh (qDi p _ _ _ HE1.out HN1.out)
 rw [hte,show qAB p 0=.nilIface from rfl] at HCK
 have hbl:=qAa h.own
 have hdk:=hd.disk
 have HD:=Hh hd
 have HE:=Hh hE
 have HTE:=Hh hte
 have HFR:=Hh hfr
 have HM0:=Hh hm0
 have i1:¬ ((d.t.free.length:Nat):Int)<((qCu (.mk k0 d0 e0 ks):Nat):Int):=by omega
 clear h hd hE hn hb1 hb hte hfr hm0
 go_enter Tryz.func78,Tryz.ntmps78
 go_upto_region 1 with fail
 generalize w.alloc (.cells #[.string ⟨k0.toArray⟩,.string ⟨d0.toArray⟩,.bool e0,.slice A ks.length cap] 114)=w1 at *
 have q0:=ce0 HX.out
 have q1:=ce1 HX.out
 have q2:=ce2 HX.out
 have q3:=ce3 HX.out
 have HZ:=Hh (show w.heap.size<w1.heap.size from qAa HX.out)
 go_upto_region 4 with (go_at_call 125;refine HCK.out.mono ?_;rintro ev w2 ⟨rfl,hb2⟩;have HB2:=Hh hb2;clear hb2)
 clear q0 q1 q2 q3
 have HX2:=Hh ((HB2.out.block _ HZ.out).trans HX.out)
 have q0:=ce0 HX2.out
 have q1:=ce1 HX2.out
 have q2:=ce2 HX2.out
 have q3:=ce3 HX2.out
 have HI2:=Hh (HI1.out.below HB2.out)
 have c0:=ce0 HI2.out.own
 have HND:=Hh (fun (W:World) (hb:Below w2.heap.size w2 W)=>qIr p _ _ W (HE1.out.later (HB2.out.trans (hb.mono HB2.out.size))) (NodeAt.later (HB2.out.trans (hb.mono HB2.out.size)) _ _ HN1.out))
 have HFRE:=Hh (fun (W:World) (hb:Below w2.heap.size w2 W)=>qFY (HI2.out.tab.below hb) hdk)
 have HD0:=Hh (zB w2.heap.size w2).drew
 have hwl:w.heap.size<w2.heap.size:=zu HZ.out HB2.out.size
 have hbl2:b<w2.heap.size:=qAa HI2.out.own
 go_region_held3 (fun w'=>w'.cell? ⟨b,0,none⟩=some (.pointer (some ⟨bt,0,none⟩))∧w'.cell? ⟨w.heap.size,0,none⟩=some (.string ⟨k0.toArray⟩)∧w'.cell? ⟨w.heap.size,1,none⟩=some (.string ⟨d0.toArray⟩)∧w'.cell? ⟨w.heap.size,2,none⟩=some (.bool e0)∧w'.cell? ⟨w.heap.size,3,none⟩=some (.slice A ks.length cap))
  (first
   | exact ⟨c0,q0,q1,q2,q3⟩
   | exact HS3.out
   | exact HS4.out
   | go_keep)
  (first
   | (go_at_call 131;refine (HND.out _ HD0.out).mono ?_;rintro ev w3 ⟨rfl,hb3⟩;have HB3:=Hh (HD0.out.trans hb3);have HS3:=Hh (show w3.cell? ⟨b,0,none⟩=some (.pointer (some ⟨bt,0,none⟩))∧w3.cell? ⟨w.heap.size,0,none⟩=some (.string ⟨k0.toArray⟩)∧w3.cell? ⟨w.heap.size,1,none⟩=some (.string ⟨d0.toArray⟩)∧w3.cell? ⟨w.heap.size,2,none⟩=some (.bool e0)∧w3.cell? ⟨w.heap.size,3,none⟩=some (.slice A ks.length cap) from ⟨(HB3.out.cell hbl2).trans c0,(HB3.out.cell hwl).trans q0,(HB3.out.cell hwl).trans q1,(HB3.out.cell hwl).trans q2,(HB3.out.cell hwl).trans q3⟩);clear hb3)
   | (go_at_call 87;refine (HFRE.out _ HB3.out).mono ?_;rintro ev w4 ⟨rfl,hb4⟩;have HB4:=Hh (HB3.out.trans (hb4.mono HB3.out.size));have HS4:=Hh (show w4.cell? ⟨b,0,none⟩=some (.pointer (some ⟨bt,0,none⟩))∧w4.cell? ⟨w.heap.size,0,none⟩=some (.string ⟨k0.toArray⟩)∧w4.cell? ⟨w.heap.size,1,none⟩=some (.string ⟨d0.toArray⟩)∧w4.cell? ⟨w.heap.size,2,none⟩=some (.bool e0)∧w4.cell? ⟨w.heap.size,3,none⟩=some (.slice A ks.length cap) from ⟨(HB4.out.cell hbl2).trans c0,(HB4.out.cell hwl).trans q0,(HB4.out.cell hwl).trans q1,(HB4.out.cell hwl).trans q2,(HB4.out.cell hwl).trans q3⟩);clear hb4)
   | fail)
 have HBW4:=Hh (HB1.out.trans (HB2.out.trans (HB4.out.mono HB2.out.size) |>.mono HB1.out.size))
 have hs4:w.heap.size<w4.heap.size:=zu hwl HB4.out.size
 have HX4:=Hh ((HB4.out.block _ hwl).trans HX2.out)
 have hmm:=@run_makeMap Tryz.prog
 have hb5:=(zB w4.heap.size w4).alloc (zq _) (.map #[] 0)
 have HBW5:=Hh (HBW4.out.alloc HBW4.out.size (.map #[] 0))
 have HX5:=Hh ((hb5.block _ hs4).trans HX4.out)
 have HM5:=Hh (zzMapAt.made w4 Tryz.prog 9 qLE)
 have hz5:(w4.alloc (.map #[] 0)).heap.size=w4.heap.size+1:=by simp
 clear c0 q0 q1 q2 q3 hb5
 go_upto_region 7 with fail
 generalize w4.alloc (.map #[] 0)=w5 at *
 have HZ5:=Hh hz5
 clear hz5
 have q0:=ce0 HX5.out
 have q1:=ce1 HX5.out
 have q2:=ce2 HX5.out
 have q3:=ce3 HX5.out
 have HFI:=Hh (qIJ p _ _ w5 (HE.out.errs.later HBW5.out) (NodeAt.later HBW5.out _ _ (NodeP.at _ _ HN0.out)))
 go_upto_region 8 with (go_at_call 132;refine HFI.out.mono ?_;rintro ev w6 ⟨A6,cap6,rfl,hr6,hb6⟩;have HR6:=Hh hr6;have HB56:=Hh hb6;have HB6:=Hh (HBW5.out.trans (hb6.mono HBW5.out.size));clear hr6 hb6)
 clear q0 q1 q2 q3
 have hfl:(qAv (.mk k0 d0 e0 ks)).length=(qAe (.mk k0 d0 e0 ks)).length:=by rw [← qBY,zT]
 have hfew:=qEj (.mk k0 d0 e0 ks)
 have hs6:=HB56.out.size
 obtain ⟨c6,hc6⟩:∃ c6:Nat→Col,c6=fun k=>if k<w.heap.size then c k else if k=w4.heap.size then .free else .ro:=⟨_,rfl⟩
 have HC6:=Hh hc6
 have e06:Ext w w6 c c6 S0:=(Ext.of_below HB6.out c S0).recolor fun k hk _=>by rw [hc6];exact zM1 hk
 have HE06:=Hh e06
 have hcf:c6 w4.heap.size=.free:=by
  rw [hc6]
  show (if w4.heap.size<w.heap.size then _ else if w4.heap.size=w4.heap.size then Col.free else _)=_
  rw [zL1 (by omega),zM1 rfl]
 have hcr:∀ k,w.heap.size≤k→k≠w4.heap.size→c6 k=.ro:=fun k h1 h2=>by
  rw [hc6]
  show (if k<w.heap.size then _ else if k=w4.heap.size then Col.free else Col.ro)=_
  rw [zL1 (by omega),zL1 h2]
 have HCR:=Hh hcr
 have HI6:=Hh (HI0.out.ext e06 rfl (fun _ _=>rfl))
 have HE6:=Hh (HE.out.ext e06 rfl)
 have HN6:=Hh (HN0.out.ext e06 rfl)
 have HX6:=Hh ((HB56.out.block _ (qAa HX5.out)).trans HX5.out)
 have HM6:=Hh (show qBj w6 w4.heap.size 0 (fileAt []) from (HM5.out.of_block (HB56.out.block _ HM5.out.lt)).congr fun x=>rfl)
 have H0:=Hh (show PtSt w6 w6 c6 c6 b bt bm w4.heap.size d nd fm (.mk k0 d0 e0 ks) 0 [] d.t from ⟨Ext.refl _ _ _,HI6.out.but,HI6.out.tab,rfl,HM6.out,hcf⟩)
 have HRS:=Hh (qAQ HR6.out)
 have HRG:=Hh (show ∀ g,(Value.slice A6 (qAv (.mk k0 d0 e0 ks)).length cap6).ownBlock=some g→c6 g=.ro from fun g hg=>HCR.out g (by have:=(HR6.out.lt g hg).1;have:=HZ5.out;omega) (by have:=(HR6.out.lt g hg).1;have:=HZ5.out;omega))
 rw [hfl] at *
 clear hc6 e06 hcf hcr hfl
 go_loopw [30] (fun a wr=>∃ (i:Nat) (cr:Nat→Col) (f:List (List UInt8×Nat)) (t:Tab),a=.int .i64 i∧i≤(qAe (.mk k0 d0 e0 ks)).length∧Hid (PtSt w6 wr c6 cr b bt bm w4.heap.size d nd fm (.mk k0 d0 e0 ks) i f t)) (fun a _=>(qAe (.mk k0 d0 e0 ks)).length-(intOf a).toNat)
 case atStart=>exact ⟨0,c6,[],d.t,rfl,zx _,H0⟩
 case round =>
  obtain ⟨i,cr,f,t,rfl,hi,HS⟩:=hrel
  have HXr:=Hh (HS.out.ext.kept HX6.out (HCR.out _ (zq _) (by omega)) rfl)
  have q0:=ce0 HXr.out.1
  have q1:=ce1 HXr.out.1
  have q2:=ce2 HXr.out.1
  have q3:=ce3 HXr.out.1
  have HEr:=Hh (HE6.out.ext HS.out.ext rfl)
  have HNr:=Hh (HN6.out.ext HS.out.ext rfl)
  have hszr:=HS.out.ext.size
  by_cases hil:i<(qAe (.mk k0 d0 e0 ks)).length
  ·have k1:(i:Int)<((qAe (.mk k0 d0 e0 ks)).length:Int):=by omega
   have k2:(0:Int)≤(i:Int):=by omega
   obtain ⟨m,t2,hmk,hmk2⟩:=qNm HD.out.ok HTE.out HFR.out hil HS.out.made
   obtain ⟨hgp,hdl,hpl⟩:=qNr HTE.out hil
   have HPN:=Hh (qOQ hil HS.out.made)
   have HMK2:=Hh hmk2
   have hti:(qAv (.mk k0 d0 e0 ks))[i]?=some (told (qAe (.mk k0 d0 e0 ks))[i].path):=by
    rw [← qBY,zN,zL hil]
    rfl
   obtain ⟨As,cs,es,hst⟩:=HRS.out
   injection es with es1 es2 es3
   subst es1 es3
   clear es2
   obtain ⟨g,off,rfl,hg,hgc⟩:=hst (by intro e;rw [e] at hti;simp at hti)
   have r0:wr.cell? ⟨g,off+i,none⟩=some (.string ⟨(told (qAe (.mk k0 d0 e0 ks))[i].path).toArray⟩):=(zD1 (w:=w6) (a:=⟨g,off+i,none⟩) (HS.out.ext.keep g hg (by rw [HRG.out g (by simp [Value.ownBlock])];rfl)).1).trans (hgc i _ hti)
   have hpth:(told (qAe (.mk k0 d0 e0 ks))[i].path).length≤4000000:=by
    unfold told
    split
    ·simp
    ·omega
   have HPG:=Hh (qKv (p:=p) _ _ (told (qAe (.mk k0 d0 e0 ks))[i].path) hpth wr HEr.out.errs HEr.out.max (NodeP.at _ _ HNr.out))
   rw [hgp] at HPG
   clear hgp hmk2 hti
   generalize hpth2:told (qAe (.mk k0 d0 e0 ks))[i].path=pth at *
   generalize hit:(qAe (.mk k0 d0 e0 ks))[i].n=it at *
   clear hpth2 hit hgc hst
   obtain ⟨k3,d3,e3,ks3⟩:=it
   simp only [Nd.data,Nd.exec] at hmk hdl
   go_upto_region 11 with (go_at_call 91;refine HPG.out.mono ?_;rintro ev w7 ⟨hb7,a0,a1,a2,A7,m7,cp7,er,rfl,rfl,hn7⟩;have HB7:=Hh hb7;have HN7:=Hh hn7;clear hb7 hn7)
   obtain ⟨A8,cp8,hn8⟩:=HN7.out.open
   simp only [zD,Value.string.injEq,Value.bool.injEq,zC1,and_true] at hn8
   obtain ⟨rfl,rfl,rfl,rfl,rfl,rfl⟩:=hn8
   have hb8:=(zB w7.heap.size w7).alloc (zq _) (.cells #[.string ⟨k3.toArray⟩,.string ⟨d3.toArray⟩,.bool a2,.slice A7 ks3.length cp7] 114)
   have HX8:=Hh (zK1 w7 (.cells #[.string ⟨k3.toArray⟩,.string ⟨d3.toArray⟩,.bool a2,.slice A7 ks3.length cp7] 114))
   have HB8:=Hh (HB7.out.trans (hb8.mono HB7.out.size))
   have hs7:=HB7.out.size
   have hs8:(w7.alloc (.cells #[.string ⟨k3.toArray⟩,.string ⟨d3.toArray⟩,.bool a2,.slice A7 ks3.length cp7] 114)).heap.size=w7.heap.size+1:=by simp
   clear q0 q1 q2 q3 r0 hb8 HN7
   go_upto_region 13 with fail
   generalize w7.alloc (.cells #[.string ⟨k3.toArray⟩,.string ⟨d3.toArray⟩,.bool a2,.slice A7 ks3.length cp7] 114)=w8 at *
   obtain ⟨c8,hc8⟩:∃ c8:Nat→Col,c8=fun k=>if k<wr.heap.size then cr k else .ro:=⟨_,rfl⟩
   have e8:Ext wr w8 cr c8 S0:=(Ext.of_below HB8.out cr S0).recolor fun k hk _=>by rw [hc8];exact zM1 hk
   have hc8x:c8 w7.heap.size=.ro:=by
    rw [hc8]
    show (if w7.heap.size<wr.heap.size then _ else Col.ro)=_
    rw [zL1 (by omega)]
   have HE8:=Hh e8
   have hbu8:=HS.out.but.ext e8 rfl rfl rfl (fun _=>rfl)
   have ht8:=(HS.out.tab.ext e8 rfl (fun _ _=>rfl)).below (zB w8.heap.size w8).drew
   have hm8:=HS.out.map.ext e8 HS.out.fcol rfl
   have HBU8:=Hh hbu8
   have HM8:=Hh hm8
   have HF8:=Hh (show c8 w4.heap.size=.free from e8.col HS.out.map.lt HS.out.fcol rfl)
   have hti2:((qAe (.mk k0 d0 e0 ks)).take i).length≤200:=zr (List.length_take_le _ _) (by omega)
   have HMK:=Hh (show Calls Tryz.prog 133 #[.pointer (some ⟨bt,0,none⟩),.string ⟨d3.toArray⟩,.bool a2] w8.drew _ from qQz ht8 (by rw [(qBv _ _ _ _ HS.out.made).1];exact hdk) (by have:=(qBv _ _ _ _ HS.out.made).2.1;omega) hmk)
   have b0:=ce0 hbu8.own
   have x1:=ce1 HX8.out
   have x2:=ce2 HX8.out
   have HCX:=Hh hc8x
   clear e8 hc8x hbu8 ht8 hm8 hc8
   go_region_held3 (fun w'=>w'.cell? ⟨b,0,none⟩=some (.pointer (some ⟨bt,0,none⟩))∧w'.cell? ⟨w7.heap.size,1,none⟩=some (.string ⟨d3.toArray⟩)∧w'.cell? ⟨w7.heap.size,2,none⟩=some (.bool a2))
    (first
     | exact ⟨b0,x1,x2⟩
     | exact HS9.out
     | exact HS10.out
     | go_keep)
    (first
     | (go_at_call 133;refine HMK.out.mono ?_;rintro ev w9 ⟨rfl,c9,he9',ht9⟩;have he9:Ext w8 w9 c8 c9 qMd:=(Ext.refl w8 c8 qMd).drew.trans he9';have hm9:=HM8.out.ext he9 HF8.out rfl;obtain ⟨W10,hput,hm10,hturn10⟩:=hm9.put (t:=132) (e:=3) okS Tryz.underlying132 (by unfold maxLen;omega) (i:=pth) (by unfold maxLen;omega) (.int .i64 (m:Int));simp only [mkS] at hput;have hf9:c9 w4.heap.size=.free:=he9.col HM8.out.lt HF8.out rfl;have he10:=Ext.turned hturn10 hf9;have HE9:=Hh he9;have HT9:=Hh ht9;have HM10:=Hh hm10;have HE10:=Hh he10;have HF9:=Hh hf9;have ho9:=he9.kept HBU8.out.own HBU8.out.col rfl;have hx9:=he9.kept HX8.out HCX.out rfl;have ho10:=he10.kept ho9.1 ho9.2 rfl;have hx10:=he10.kept hx9.1 hx9.2 rfl;have HS9:=Hh (show w9.cell? ⟨b,0,none⟩=some (.pointer (some ⟨bt,0,none⟩))∧w9.cell? ⟨w7.heap.size,1,none⟩=some (.string ⟨d3.toArray⟩)∧w9.cell? ⟨w7.heap.size,2,none⟩=some (.bool a2) from ⟨zJ1 w9 b 0 _ _ _ ho9.1,zJ1 w9 _ 1 _ _ _ hx9.1,zJ1 w9 _ 2 _ _ _ hx9.1⟩);have HS10:=Hh (show W10.cell? ⟨b,0,none⟩=some (.pointer (some ⟨bt,0,none⟩))∧W10.cell? ⟨w7.heap.size,1,none⟩=some (.string ⟨d3.toArray⟩)∧W10.cell? ⟨w7.heap.size,2,none⟩=some (.bool a2) from ⟨zJ1 W10 b 0 _ _ _ ho10.1,zJ1 W10 _ 1 _ _ _ hx10.1,zJ1 W10 _ 2 _ _ _ hx10.1⟩);clear he9 he9' ht9 hm9 hm10 hturn10 hf9 he10 ho9 hx9 ho10 hx10)
     | fail)
   clear b0 x1 x2 hput
   go_wp2
   go_roundw
   case rel =>
    refine ⟨i+1,c9,f++[(pth,m)],t2,by go_num,hil,Hh ⟨?_,?_,?_,HMK2.out,?_,HF9.out⟩⟩
    ·exact ((HS.out.ext.then HE8.out (fun _ _=>rfl)).then HE9.out (fun x hx=>by cases x<;>first | rfl | (cases hx))).then HE10.out (qAE rfl)
    ·exact (HBU8.out.ext HE9.out rfl rfl rfl (fun _=>rfl)).ext HE10.out rfl rfl rfl (fun _=>rfl)
    ·exact HT9.out.ext HE10.out rfl (fun x hx=>qBm (by intro e;subst e;cases hx))
    ·exact HM10.out.congr fun y=>qKf HPN.out y
   case measure=>simp [intOf];omega
  ·have k1:¬ (i:Int)<((qAe (.mk k0 d0 e0 ks)).length:Int):=by omega
   obtain rfl:i=(qAe (.mk k0 d0 e0 ks)).length:=by omega
   have hmd:=HS.out.made
   rw [zm,HM0.out] at hmd
   obtain ⟨rfl,rfl⟩:f0=f∧t0=t:=by
    injection hmd with hmd
    injection hmd with h1 h2
    exact ⟨h1,h2⟩
   have hsz:=(qBv _ _ _ _ HM0.out).2.2
   have hfl2:f0.length=(qAe (.mk k0 d0 e0 ks)).length:=by
    have:=congrArg List.length hsz
    simpa using this
   have HMP:=Hh (show qBj wr w4.heap.size f0.length (fileAt f0) by rw [hfl2];exact HS.out.map)
   have HWT:=Hh (qKJ _ _ _ (fun b=>cr b=.ro) wr.drew (zq (Stl.wt (.mk k0 d0 e0 ks))) (NodeP.go (w:=wr) (w':=wr.drew) (zq _) (fun b _ h=>⟨rfl,h⟩) _ _ HNr.out))
   have b1:=ce1 HS.out.but.own
   have b2:=ce2 HS.out.but.own
   have hnx:=HD.out.next
   have hen:=HD.out.ents
   have hblr:=qAa HS.out.but.own
   have hxr:=qAa HXr.out.1
   have HZW:=Hh (show wr.drew.heap.size=wr.heap.size from rfl)
   have hbare:qAo (.mk k0 d0 e0 ks)=.mk k0 (if k0=kFile then [] else d0) e0 (qAC ks):=by simp only [qAo]
   rw [hbare] at HWT
   have HBR:=Hh hbare
   generalize (if k0=kFile then [] else d0)=d9 at HWT HBR
   generalize qAC ks=ks9 at HWT HBR
   clear hmd hsz hbare
   go_upto_region 17 with fail
   go_region_held3 (fun w'=>w'.cell? ⟨b,1,none⟩=some (.map (some bm))∧w'.cell? ⟨b,2,none⟩=some (.int .i64 d.next)∧w'.cell? ⟨w.heap.size,0,none⟩=some (.string ⟨k0.toArray⟩)∧w'.cell? ⟨w.heap.size,1,none⟩=some (.string ⟨d0.toArray⟩)∧w'.cell? ⟨w.heap.size,2,none⟩=some (.bool e0)∧w'.cell? ⟨w.heap.size,3,none⟩=some (.slice A ks.length cap))
    (first
     | exact ⟨b1,b2,q0,q1,q2,q3⟩
     | exact HS9.out
     | exact HS10.out
     | go_keep)
    (first
     | (go_at_call 134;refine HWT.out.mono ?_;rintro ev w9 ⟨us,rfl,hn9,hb9'⟩;obtain ⟨A9,cp9,rfl⟩:=hn9.open;have hb9:Below wr.heap.size wr w9:=(zB _ wr).drew.trans hb9';obtain ⟨c9,hc9⟩:∃ c9:Nat→Col,c9=fun k=>if k<wr.heap.size then (if k=w4.heap.size then .files d.next else cr k) else .ro:=⟨_,rfl⟩;have he9:Ext wr w9 cr c9 (S1 .free):=(Ext.of_below hb9 cr (S1 .free)).recolor fun k hk hS=>by { rw [hc9];show (if k<wr.heap.size then (if k=w4.heap.size then Col.files d.next else cr k) else _)=_;rw [zM1 hk,zL1 (fun e=>by rw [e,HS.out.fcol] at hS;cases hS)] };have hn9':RoNode w9 c9 (.mk k0 d9 e0 ks9) _:=NodeP.go (zq _) (fun k hk hO=>⟨rfl,by { rw [hc9];show (if k<wr.heap.size then (if k=w4.heap.size then Col.files d.next else cr k) else Col.ro)=_;by_cases hkl:k<wr.heap.size;{ rw [zM1 hkl];rcases hO with hO | hO;{ rw [zL1 (fun e=>by rw [e,HS.out.fcol] at hO;cases hO)];exact hO };{ exact absurd hkl (Nat.not_lt.2 hO) } };{ rw [zL1 hkl] } }⟩) _ _ hn9;have hbu9:=HS.out.but.ext he9 rfl rfl rfl (fun _=>rfl);obtain ⟨W10,hput,hm10,hturn10⟩:=hbu9.map.put (t:=87) (e:=134) okN Tryz.underlying87 (by unfold maxLen;omega) (i:=d.next) (by omega) (.agg #[.string ⟨k0.toArray⟩,.string ⟨d9.toArray⟩,.bool e0,.slice A9 ks9.length cp9,.map (some w4.heap.size)]);simp only [mkN] at hput;have he10:=Ext.turned hturn10 hbu9.mcol;have HE9:=Hh he9;have HN9:=Hh hn9';have HB9:=Hh hb9;have HBU9:=Hh hbu9;have HM10:=Hh hm10;have HE10:=Hh he10;have HC9:=Hh hc9;have ho10:=he10.kept hbu9.own hbu9.col rfl;have hx9:=(hb9.block _ hxr).trans HXr.out.1;have hx10:=(hturn10.grown.block _ (zu hxr hb9.size) (fun h=>by { injection h with h;have h1:=(hb9.block _ hxr).trans HXr.out.1;have h2:=hbu9.mcol;rw [← h,hc9] at h2;revert h2;show (if w.heap.size<wr.heap.size then (if w.heap.size=w4.heap.size then Col.files d.next else cr w.heap.size) else Col.ro)=_→_;rw [zM1 hxr,zL1 (by omega),HXr.out.2];intro h2;cases h2 })).trans hx9;have HS9:=Hh (show w9.cell? ⟨b,1,none⟩=some (.map (some bm))∧w9.cell? ⟨b,2,none⟩=some (.int .i64 d.next)∧w9.cell? ⟨w.heap.size,0,none⟩=some (.string ⟨k0.toArray⟩)∧w9.cell? ⟨w.heap.size,1,none⟩=some (.string ⟨d0.toArray⟩)∧w9.cell? ⟨w.heap.size,2,none⟩=some (.bool e0)∧w9.cell? ⟨w.heap.size,3,none⟩=some (.slice A ks.length cap) from ⟨zJ1 w9 b 1 _ _ _ hbu9.own,zJ1 w9 b 2 _ _ _ hbu9.own,zJ1 w9 _ 0 _ _ _ hx9,zJ1 w9 _ 1 _ _ _ hx9,zJ1 w9 _ 2 _ _ _ hx9,zJ1 w9 _ 3 _ _ _ hx9⟩);have HS10:=Hh (show W10.cell? ⟨b,1,none⟩=some (.map (some bm))∧W10.cell? ⟨b,2,none⟩=some (.int .i64 d.next)∧W10.cell? ⟨w.heap.size,0,none⟩=some (.string ⟨k0.toArray⟩)∧W10.cell? ⟨w.heap.size,1,none⟩=some (.string ⟨d0.toArray⟩)∧W10.cell? ⟨w.heap.size,2,none⟩=some (.bool e0)∧W10.cell? ⟨w.heap.size,3,none⟩=some (.slice A ks.length cap) from ⟨zJ1 W10 b 1 _ _ _ ho10.1,zJ1 W10 b 2 _ _ _ ho10.1,zJ1 W10 _ 0 _ _ _ hx10,zJ1 W10 _ 1 _ _ _ hx10,zJ1 W10 _ 2 _ _ _ hx10,zJ1 W10 _ 3 _ _ _ hx10⟩);have HO10:=Hh ho10;clear hn9 hb9' he9 hn9' hbu9 hm10 hturn10 he10 ho10 hx9 hx10 hc9)
     | fail)
   clear b1 b2 q0 q1 q2 q3 hput
   have c2:=ce2 HO10.out.1
   have f2:W10.frozen? ⟨b,2,none⟩=false:=qAb HO10.out.1 2
   have hcf9:c9 w4.heap.size=.files d.next:=by
    rw [HC9.out]
    show (if w4.heap.size<wr.heap.size then (if w4.heap.size=w4.heap.size then Col.files d.next else _) else _)=_
    rw [zM1 HS.out.map.lt,zM1 rfl]
   obtain ⟨p1,p2⟩:=HBU9.out.put (fun x hx=>HD.out.ok.next x hx) HN9.out hcf9 (HMP.out.of_block (HB9.out.block _ HMP.out.lt)) HM10.out HE10.out
   rw [show ((d.next+1:Nat):Int)=(d.next:Int)+1 by omega] at p1 p2
   have HP1:=Hh p1
   have HP2:=Hh p2
   clear p1 p2
   go_wp2
   go_ret2
   have hlow:∀ x,qDz x=false→(fun y=>qMd y||decide (y=Col.free)) x=false:=fun x hx=>by cases x<;>first | rfl | (cases hx)
   have hfin:=HP1.out.full (((HS.out.tab.ext HE9.out rfl (fun x hx=>qBm (by intro e;subst e;cases hx))).ext HE10.out rfl (fun x hx=>qBm (by intro e;subst e;cases hx))).ext HP2.out rfl (fun x hx=>qBm (by intro e;subst e;cases hx)))
   rw [← HBR.out] at hfin
   refine ⟨rfl,c9,?_,bt,bm,_,_,hfin⟩
   exact ((((HE06.out.mono (fun _ _=>rfl):Ext w w6 c c6 qDz).then HS.out.ext hlow).then HE9.out (qAE rfl)).then HE10.out (qAE rfl)).then HP2.out (qAE rfl)
end
end Go.Proofs.YtceklhjomhjipaaGreatDoor
namespace Stl
theorem qBF {c:UInt8}:∀ {s d t:Bytes},cutAt c s=some (d,t)→s=d++c::t
 | [],d,t,h=>by simp [cutAt] at h
 | x::r,d,t,h=>by
  unfold cutAt at h
  split at h
  ·rename_i e
   cases h
   rw [e]
   rfl
  ·cases hc:cutAt c r with
   | none=>rw [hc] at h;cases h
   | some p =>
    rw [hc] at h
    cases h
    rw [qBF (show cutAt c r=some (p.1,p.2) from hc)]
    rfl
theorem qBK {s r:Bytes} {n:Nat} (h:qAW s=some (n,r)):∃ d t,cutAt 58 (s.take 7)=some (d,t)∧numberOf d 6=some n∧r=s.drop (d.length+1)∧d.length+1≤s.length∧n<1000000∧d.length≤6:=by
 unfold qAW at h
 cases hc:cutAt 58 (s.take 7) with
 | none=>rw [hc] at h;cases h
 | some p =>
  obtain ⟨d,t⟩:=p
  rw [hc] at h
  simp only at h
  cases hn:numberOf d 6 with
  | none=>rw [hn] at h;cases h
  | some m =>
   rw [hn] at h
   cases h
   have h1:=congrArg List.length (qBF hc)
   simp only [List.length_take,zP,zQ] at h1
   have h2:=qJu (by decide) hn
   exact ⟨d,t,rfl,hn,rfl,by omega,by omega,h2.2.1⟩
theorem qBc {s d r:Bytes} (h:qAl s=some (d,r)):d.length≤s.length∧r.length≤s.length∧r.length+1≤s.length:=by
 unfold qAl at h
 cases hc:qAW s with
 | none=>rw [hc] at h;cases h
 | some p =>
  obtain ⟨n,q⟩:=p
  rw [hc] at h
  simp only at h
  split at h
  ·cases h
  ·cases h
   obtain ⟨x,t,_,_,h3,h4,_,_⟩:=qBK hc
   have:q.length≤s.length-1:=by rw [h3,List.length_drop];omega
   simp only [List.length_take,List.length_drop]
   omega
def qPG (rd:Bytes→Nat→Rd Nd):Prop:=∀ s n x s2 n2,rd s n=.ok (x,s2,n2)→n<n2∧n2≤200∧s2.length≤s.length
theorem qGh {rd:Bytes→Nat→Rd Nd} (h:qPG rd):∀ (k:Nat) (s:Bytes) (n:Nat) l s' n',qA9 rd k s n=.ok (l,s',n')→l.length=k∧n+k≤n'∧(n≤200→n'≤200)∧s'.length≤s.length
 | 0,s,n,l,s',n',e=>by
  cases e
  simp
 | k+1,s,n,l,s',n',e=>by
  unfold qA9 at e
  cases h1:qAl s with
  | none=>rw [h1] at e;cases e
  | some p =>
   obtain ⟨nm,s1⟩:=p
   rw [h1] at e
   simp only at e
   cases h2:rd s1 n with
   | error c=>rw [h2] at e;cases e
   | ok q =>
    obtain ⟨x,s2,n2⟩:=q
    rw [h2] at e
    simp only at e
    cases h3:qA9 rd k s2 n2 with
    | error c=>rw [h3] at e;cases e
    | ok q3 =>
     obtain ⟨l3,s3,n3⟩:=q3
     rw [h3] at e
     cases e
     have a:=qGh h k s2 n2 _ _ _ h3
     have b:=h _ _ _ _ _ h2
     have c:=qBc h1
     refine ⟨by simp [a.1],by omega,fun _=>a.2.2.1 (by omega),by omega⟩
theorem qGq:∀ f,qPG (qAL f)
 | 0=>fun s n x s2 n2 h=>by cases h
 | f+1=>fun s n x s2 n2 h=>by
  unfold qAL at h
  split at h
  ·cases h
  ·rename_i hn
   cases s with
   | nil=>cases h
   | cons c r =>
    simp only at h
    split at h
    ·cases h1:qAW r with
     | none=>rw [h1] at h;cases h
     | some p =>
      obtain ⟨k,r1⟩:=p
      rw [h1] at h
      simp only at h
      cases h2:qA9 (qAL f) k r1 (n+1) with
      | error e=>rw [h2] at h;cases h
      | ok q =>
       obtain ⟨l,s3,n3⟩:=q
       rw [h2] at h
       cases h
       have a:=qGh (qGq f) _ _ _ _ _ _ h2
       obtain ⟨d,t,_,_,h5,h6,_,_⟩:=qBK h1
       have:r1.length≤r.length:=by rw [h5,List.length_drop];omega
       simp only [zQ]
       exact ⟨by omega,a.2.2.1 (by omega),by omega⟩
    ·split at h
     ·cases h1:qAl r with
      | none=>rw [h1] at h;cases h
      | some p =>
       obtain ⟨d,s3⟩:=p
       rw [h1] at h
       cases h
       have:=qBc h1
       simp only [zQ]
       omega
     ·cases h
def qN8 (l:List (Bytes×Nd)):Rd (List (Bytes×Nd))→Rd (List (Bytes×Nd))
 | .error e=>.error e
 | .ok (r,s,n)=>.ok (l++r,s,n)
theorem qOe (x:Rd (List (Bytes×Nd))):qN8 [] x=x:=by rcases x with e | ⟨r,s,n⟩<;>rfl
theorem qLs {rd:Bytes→Nat→Rd Nd} {k:Nat} {s:Bytes} {n:Nat} {l:List (Bytes×Nd)} (h:qAl s=none):qN8 l (qA9 rd (k+1) s n)=.error 1:=by
 unfold qA9
 rw [h]
 rfl
theorem qLy {rd:Bytes→Nat→Rd Nd} {k:Nat} {s nm s1:Bytes} {n e:Nat} {l:List (Bytes×Nd)} (h:qAl s=some (nm,s1)) (h2:rd s1 n=.error e):qN8 l (qA9 rd (k+1) s n)=.error e:=by
 unfold qA9
 rw [h]
 simp only
 rw [h2]
 rfl
theorem qJ9 {rd:Bytes→Nat→Rd Nd} {k:Nat} {s nm s1 s2:Bytes} {n n2:Nat} {x:Nd} {l:List (Bytes×Nd)} (h:qAl s=some (nm,s1)) (h2:rd s1 n=.ok (x,s2,n2)):qN8 l (qA9 rd (k+1) s n)=qN8 (l++[(nm,x)]) (qA9 rd k s2 n2):=by
 conv=>lhs;unfold qA9
 rw [h]
 simp only
 rw [h2]
 simp only
 cases qA9 rd k s2 n2 with
 | error e=>rfl
 | ok q=>simp [qN8]
end Stl
