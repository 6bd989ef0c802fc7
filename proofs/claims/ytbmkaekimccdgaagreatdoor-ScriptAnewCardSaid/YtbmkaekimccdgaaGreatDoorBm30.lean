/- Lemmas. -/
import Derived.Test.YtbmkaekimccdgaaGreatDoorBm29
set_option maxHeartbeats 16000000
set_option maxRecDepth 1000000
set_option linter.all false
namespace Stl
def Well (n:Nd):Prop:=∃ deep c,(chk ownErr n deep c).1=0
theorem pN {n:Nd}(h:treeErr n=0):Well n:=⟨0,0,h⟩
theorem Well.own {n:Nd}(h:Well n):ownErr n=0:=by
 obtain⟨deep,c,h⟩:=h;exact qGb n deep c [] 0 h ⟨[],0,n⟩ (flat_head n [] 0)
theorem qHp:∀ (l:List (qB×Nd)) (deep c:Nat),(chkL ownErr l deep c).1=0→∀ q∈l,Well q.2
 | [],_,_,_,q,hq=>by cases hq
 | (nm,y)::r,deep,c,h,q,hq=>by
  unfold chkL at h;split at h
  ·rename_i h1
   rcases zY.1 hq with rfl | hq
   ·exact⟨_,_,h1⟩
   ·exact qHp r _ _ h q hq
  ·rename_i h1
   exact absurd h h1
theorem Well.kid {k d:qB}{e:Bool}{ks:List (qB×Nd)}(h:Well (.mk k d e ks)){q:qB×Nd}(hq:q∈ks):Well q.2:=by
 obtain⟨deep,c,h⟩:=h;unfold chk at h;split at h
 ·simp at h
 ·split at h
  ·simp at h
  ·split at h
   ·exact qHp ks _ _ h q hq
   ·rename_i h3
    exact absurd h h3
theorem Well.rises {k d:qB}{e:Bool}{ks:List (qB×Nd)}(h:Well (.mk k d e ks)):(ks.map (·.1)).Pairwise (·<·):=by
 have:=h.own;exact qAj _ ((vS k d e _).1 this).2.2.2.2.2.2.2
theorem qDq:∀ (ks:List (qB×Nd)) (s:qB),(∀ q∈ks,q.1≠s)→hZ ks s=none
 | [],_,_=>rfl
 | (nm,x)::r,s,h=>by
  rw[hZ,zL1 (h (nm,x) (by simp)),qDq r s (fun q hq=>h q (by simp[hq]))]
theorem qHm:∀ (ks:List (qB×Nd)) (s:qB) (k:Nat) (h:k<ks.length),(ks.map (·.1)).Pairwise (·<·)→ks[k].1=s→hZ ks s=some ks[k].2
 | (nm,x)::r,s,0,_,_,h=>by
  simp only[List.getElem_cons_zero] at h;simp[hZ,h]
 | (nm,x)::r,s,k+1,hk,hp,h=>by
  simp only[zV,zi] at hp;simp only[List.getElem_cons_succ] at h ⊢;have hk':k<r.length:=by simpa using hk
  have:nm<s:=hp.1 s (by rw[← h];exact zb.2 ⟨r[k],zO hk',rfl⟩);rw[hZ,zL1 (fun e=>by subst e;exact absurd this (List.lt_irrefl _))];exact qHm r s k hk' hp.2 h
end Stl
namespace Go.Proofs.YtbmkaekimccdgaaGreatDoor
open Go.RowKit Go.Sort Go.Shelf Stl
def qOl (w0:World)(r:Option Nd)(ev:Ending):Prop :=
 ∃ (a0 a1:ByteArray) (a2:Bool) (A:Option Addr) (m cp:Nat) (b:Bool),ev=.returned (.tuple #[.agg #[.string a0,.string a1,.bool a2,.slice A m cp],.bool b]) ∧
  match r with
  | some x=>b=true∧NodeAt w0 x [.string a0,.string a1,.bool a2,.slice A m cp]
  | none=>b=false
theorem qM6 (n:Nd)(vs:List Value)(A:Option Addr)(c:Nat)(l:List (List UInt8))(hl:l.length≤1000000)(w0 w:World)(hb0:Below w0.heap.size w0 w)(hn:NodeAt w0 n vs)(hw:Well n)(hs:Strs w (.slice A l.length c) l) :
  Calls Tryz.prog 104 #[.agg vs.toArray,.slice A l.length c] w fun ev w'=>Below w.heap.size w w'∧qOl w0 (jJ n l) ev:=by
 obtain⟨k,d,e,ks⟩:=n;obtain⟨An,cn,rfl,_,_⟩:=hn.open;have HS:=Hh hs;have HN:=Hh hn;have HW:=Hh hw;have HB0:=Hh hb0;obtain⟨res,hres⟩:∃ res,res=jJ (.mk k d e ks) l:=⟨_,rfl⟩;rw[← hres];have HR:=Hh hres;clear hres hs hn hw hb0;have hb1:Below w.heap.size w ((w.alloc (.cells #[.string ⟨k.toArray⟩,.string ⟨d.toArray⟩,.bool e,.slice An ks.length cn] 134)).alloc (.cells #[.string ⟨#[]⟩,.string ⟨#[]⟩,.bool false,.slice none 0 0] 134)):=((zB _ w).alloc (zo _) _).alloc (by simp) _;have HX0:=Hh (qS (w.alloc (.cells #[.string ⟨k.toArray⟩,.string ⟨d.toArray⟩,.bool e,.slice An ks.length cn] 134)) (.cells #[.string ⟨#[]⟩,.string ⟨#[]⟩,.bool false,.slice none 0 0] 134) (zK1 w (.cells #[.string ⟨k.toArray⟩,.string ⟨d.toArray⟩,.bool e,.slice An ks.length cn] 134)));have hx1:=zK1 (w.alloc (.cells #[.string ⟨k.toArray⟩,.string ⟨d.toArray⟩,.bool e,.slice An ks.length cn] 134)) (.cells #[.string ⟨#[]⟩,.string ⟨#[]⟩,.bool false,.slice none 0 0] 134);rw[show (w.alloc (.cells #[.string ⟨k.toArray⟩,.string ⟨d.toArray⟩,.bool e,.slice An ks.length cn] 134)).heap.size=w.heap.size+1 by simp] at hx1;have HX1:=Hh hx1;have HB1:=Hh hb1;clear hx1 hb1;go_enter Tryz.func104,Tryz.ntmps104;go_upto_region 2 with fail
 go_loopw [12] (fun a wr=>∃ (j:Nat) (k' d':List UInt8) (e':Bool) (ks':List (List UInt8×Nd)) (A':Option Addr) (c':Nat),j≤l.length∧a=.int .i64 j∧Hg (Below w.heap.size w wr)∧Hg (wr.heap[w.heap.size]?=some (.cells #[.string ⟨k'.toArray⟩,.string ⟨d'.toArray⟩,.bool e',.slice A' ks'.length c'] 134 (0,0)))∧Hg (wr.heap[w.heap.size+1]?=some (.cells #[.string ⟨#[]⟩,.string ⟨#[]⟩,.bool false,.slice none 0 0] 134 (0,0)))∧Hg (NodeAt w0 (.mk k' d' e' ks') [.string ⟨k'.toArray⟩,.string ⟨d'.toArray⟩,.bool e',.slice A' ks'.length c'])∧Hg (Well (.mk k' d' e' ks'))∧Hg (res=jJ (.mk k' d' e' ks') (l.drop j))) (fun a _=>l.length-(intOf a).toNat)
 case atStart=>exact⟨0,k,d,e,ks,An,cn,zw _,rfl,HB1,HX0,HX1,HN,HW,HR⟩
 case round =>
  obtain⟨j,k',d',e',ks',A',c',hj,rfl,HB,HX,HO,HNJ,HWJ,HRJ⟩:=hrel;clear HX0 HX1 HN HW HR HB1;obtain⟨q0,q1,q2,q3⟩:=cq HX.o;by_cases hjl:j<l.length
  ·have i1:(j:Int)<(l.length:Int):=by omega
   have i2:(0:Int)≤(j:Int):=by omega
   obtain⟨b,off,rfl,hlt,h0⟩:=(HS.o.later HB.o).cellAt hjl;have HRN:=Hh (show res=jJ (.mk k' d' e' ks') (l[j]::l.drop (j+1)) by rw[HRJ.o,← zF hjl]);generalize l[j]=nm at h0 HRN;obtain⟨A2,c2,he,hbd,hko⟩:=HNJ.o.open;simp only[zD,zC1,and_true,true_and] at he;obtain⟨rfl,rfl⟩:=he;have HBD:=Hh hbd;have HKO:=Hh (hko.later (HB0.o.trans (HB.o.mono HB0.o.size)));have HKD:=Hh (qNP k' d' e' A' c' ks' hbd.1 hbd.2.1 nm wr HKO.o HWJ.o.rises);clear hko hbd;go_upto_region 5 with (go_at_call 159;refine HKD.o.mono ?_;rintro ev w2 ⟨kk,bb,rfl,h1,h2,hb2⟩;have H1:=Hh h1;have H2:=Hh h2;have HB2:=Hh hb2;clear h1 h2 hb2);have HX2:=Hh ((HB2.o.block _ (qA HX.o)).trans HX.o);have HO2:=Hh ((HB2.o.block _ (qA HO.o)).trans HO.o);have HBT:=Hh (HB.o.trans (HB2.o.mono HB.o.size));clear q0 q1 q2 q3 h0
   cases bb with
   | false =>
    have HRZ:=Hh (show res=none by rw[HRN.o,jJ];simp only[Nd.kids];rw[qDq ks' nm (H2.o rfl)]);obtain⟨z0,z1,z2,z3⟩:=cq HO2.o;have f0:w2.frozen? ⟨w.heap.size+1,0,none⟩=false:=qC HO2.o 0;have f1:w2.frozen? ⟨w.heap.size+1,1,none⟩=false:=qC HO2.o 1;have f2:w2.frozen? ⟨w.heap.size+1,2,none⟩=false:=qC HO2.o 2;have f3:w2.frozen? ⟨w.heap.size+1,3,none⟩=false:=qC HO2.o 3;go_wp2_with fail;obtain⟨wz,E9,HF,HBF⟩:=nJ HO2.o HBT.o (by simp) (.string ⟨#[]⟩) (.string ⟨#[]⟩) (.bool false) (.slice none 0 0);clear z0 z1 z2 z3 f0 f1 f2 f3;rw[E9.o];obtain⟨r0,r1,r2,r3⟩:=cq HF.o;refine zH1 (v:=.tuple #[.agg #[(.string ⟨#[]⟩),(.string ⟨#[]⟩),(.bool false),(.slice none 0 0)],.bool false]) ?_ rfl ⟨HBF.o,?_⟩
    ·simp[results,Tryz.results104,go_sem,r0,r1,r2,r3]
    ·rw[HRZ.o];exact⟨_,_,_,_,_,_,_,rfl,rfl⟩
   | true =>
    obtain⟨hkk,hkn⟩:=H1.o rfl;have HRZ:=Hh (show res=jJ ks'[kk].2 (l.drop (j+1)) by rw[HRN.o,jJ];simp only[Nd.kids];rw[qHm ks' nm kk hkk HWJ.o.rises hkn]);have HWK:=Hh (HWJ.o.kid (zO hkk));obtain⟨b3,off3,rfl,hl3,⟨_,_⟩,v0,v1,v2,v3,c1,c2',c3,c4,hn3⟩:=(HKO.o.later HB2.o).at hkk;have hn0:NodeAt w0 ks'[kk].2 [v0,v1,v2,v3]:=by
     obtain⟨A3,c3,he3,_,hk0⟩:=HNJ.o.open;simp only[zD,zC1,and_true,true_and] at he3;obtain⟨rfl,rfl⟩:=he3;obtain⟨b4,off4,e4,hl4,_,y0,y1,y2,y3,g1,g2,g3,g4,hn4⟩:=hk0.at hkk;simp only[zB1,Addr.mk.injEq,and_true] at e4;obtain⟨rfl,rfl⟩:=e4;have up:∀ i v,w0.cell? ⟨b3,i,none⟩=some v→w2.cell? ⟨b3,i,none⟩=some v:=fun i v hv=>((HB0.o.trans (HBT.o.mono HB0.o.size)).cell (p:=⟨b3,i,none⟩) hl4).trans hv
     rw[up _ _ g1] at c1;rw[up _ _ g2] at c2';rw[up _ _ g3] at c3;rw[up _ _ g4] at c4
     cases c1
     cases c2'
     cases c3
     cases c4
     exact hn4
    clear hn3;generalize ks'[kk]=kd at hn0 HRZ HWK hkn;obtain⟨nm2,x⟩:=kd;obtain⟨kx,dx,ex,ksx⟩:=x;simp only at hn0 HRZ HWK;obtain⟨A5,c5,e5,_,_⟩:=hn0.open;simp only[zD,and_true] at e5;obtain⟨rfl,rfl,rfl,rfl⟩:=e5;have HN0:=Hh hn0;obtain⟨q0,q1,q2,q3⟩:=cq HX2.o;have f0:w2.frozen? ⟨w.heap.size,0,none⟩=false:=qC HX2.o 0;have f1:w2.frozen? ⟨w.heap.size,1,none⟩=false:=qC HX2.o 1;have f2:w2.frozen? ⟨w.heap.size,2,none⟩=false:=qC HX2.o 2;have f3:w2.frozen? ⟨w.heap.size,3,none⟩=false:=qC HX2.o 3;have i3:(kk:Int)<(ks'.length:Int):=by omega
    have i4:(0:Int)≤(kk:Int):=by omega
    clear hn0;go_wp2_with fail;have HXF:=Hh (show ((((w2.setCell ⟨w.heap.size,0,none⟩ (.string ⟨kx.toArray⟩)).setCell ⟨w.heap.size,1,none⟩ (.string ⟨dx.toArray⟩)).setCell ⟨w.heap.size,2,none⟩ (.bool ex)).setCell ⟨w.heap.size,3,none⟩ (.slice A5 ksx.length c5)).heap[w.heap.size]?=some (.cells #[.string ⟨kx.toArray⟩,.string ⟨dx.toArray⟩,.bool ex,.slice A5 ksx.length c5] 134 (0,0)) from qH (qH (qH (qH HX2.o 0 (.string ⟨kx.toArray⟩)) 1 (.string ⟨dx.toArray⟩)) 2 (.bool ex)) 3 (.slice A5 ksx.length c5));have HBF:=Hh ((((HBT.o.setCell (p:=⟨w.heap.size,0,none⟩) (zo _) (.string ⟨kx.toArray⟩)).setCell (p:=⟨w.heap.size,1,none⟩) (zo _) (.string ⟨dx.toArray⟩)).setCell (p:=⟨w.heap.size,2,none⟩) (zo _) (.bool ex)).setCell (p:=⟨w.heap.size,3,none⟩) (zo _) (.slice A5 ksx.length c5));have HOF:=Hh (show ((((w2.setCell ⟨w.heap.size,0,none⟩ (.string ⟨kx.toArray⟩)).setCell ⟨w.heap.size,1,none⟩ (.string ⟨dx.toArray⟩)).setCell ⟨w.heap.size,2,none⟩ (.bool ex)).setCell ⟨w.heap.size,3,none⟩ (.slice A5 ksx.length c5)).heap[w.heap.size+1]?=some (.cells #[.string ⟨#[]⟩,.string ⟨#[]⟩,.bool false,.slice none 0 0] 134 (0,0)) by
     have hg:w.heap.size+1≠w.heap.size:=by omega
     rw[zA _ ⟨w.heap.size,3,none⟩ _ _ hg,zA _ ⟨w.heap.size,2,none⟩ _ _ hg,zA _ ⟨w.heap.size,1,none⟩ _ _ hg,zA _ ⟨w.heap.size,0,none⟩ _ _ hg]
     exact HO2.o)
    clear q0 q1 q2 q3 f0 f1 f2 f3 c1 c2' c3 c4;go_roundw
    case rel=>exact⟨j+1,kx,dx,ex,ksx,A5,c5,hjl,by go_num,HBF,HXF,HOF,HN0,HWK,HRZ⟩
    case measure=>simp[intOf];omega
  ·have i1:¬ (j:Int)<(l.length:Int):=by omega
   have HRZ:=Hh (show res=some (.mk k' d' e' ks') by rw[HRJ.o,zG (by omega)];rfl);obtain⟨z0,z1,z2,z3⟩:=cq HO.o;have f0:wr.frozen? ⟨w.heap.size+1,0,none⟩=false:=qC HO.o 0;have f1:wr.frozen? ⟨w.heap.size+1,1,none⟩=false:=qC HO.o 1;have f2:wr.frozen? ⟨w.heap.size+1,2,none⟩=false:=qC HO.o 2;have f3:wr.frozen? ⟨w.heap.size+1,3,none⟩=false:=qC HO.o 3;go_wp2_with fail;obtain⟨wz,E9,HF,HBF⟩:=nJ HO.o HB.o (by simp) (.string ⟨k'.toArray⟩) (.string ⟨d'.toArray⟩) (.bool e') (.slice A' ks'.length c');clear q0 q1 q2 q3 z0 z1 z2 z3 f0 f1 f2 f3;rw[E9.o];obtain⟨r0,r1,r2,r3⟩:=cq HF.o;refine zH1 (v:=.tuple #[.agg #[(.string ⟨k'.toArray⟩),(.string ⟨d'.toArray⟩),(.bool e'),(.slice A' ks'.length c')],.bool true]) ?_ rfl ⟨HBF.o,?_⟩
   ·simp[results,Tryz.results104,go_sem,r0,r1,r2,r3]
   ·rw[HRZ.o];exact⟨_,_,_,_,_,_,_,rfl,rfl,HNJ.o⟩
end Go.Proofs.YtbmkaekimccdgaaGreatDoor
namespace Go.Proofs.YtbmkaekimccdgaaGreatDoor
open Go.RowKit Go.Sort Go.Shelf Stl
def qKg (p:Nat→Addr)(n:Nd)(s:List UInt8)(ev:Ending)(w':World):Prop :=
 ∃ (A:Option Addr) (m c:Nat) (er:Value),ev=.returned (.tuple #[.slice A m c,er]) ∧
  ((treeErr n≠0∧er=jK p (treeErr n))∨(treeErr n=0∧((qQ s=none∧er=jK p 5)∨∃ l,qQ s=some l∧er=.nilIface∧m=l.length∧Strs w' (.slice A l.length c) l∧l.length≤c)))
theorem qFa {p:Nat→Addr}(n:Nd)(vs:List Value)(s:List UInt8)(hs:s.length≤4000000)(w:World)(hE:Errs w p)(hm:∃ m,w.cell? ⟨14,0,none⟩=some (.int .i64 m))(hn:NodeAt w n vs) :
  Calls Tryz.prog 102 #[.agg vs.toArray,.string ⟨s.toArray⟩] w fun ev w'=>Below w.heap.size w w'∧qKg p n s ev w':=by
 have HM:=Hh hm;have HE:=Hh hE;have HN:=Hh hn;obtain⟨k,d,e,ks⟩:=n;obtain⟨A,c,rfl,_,_⟩:=hn.open;have hb1:Below w.heap.size w (w.alloc (.cells #[.string ⟨k.toArray⟩,.string ⟨d.toArray⟩,.bool e,.slice A ks.length c] 134)):=(zB _ w).alloc (zo _) _;have HCK:=Hh (xV p (.mk k d e ks) _ _ (HE.o.later hb1) (NodeAt.later hb1 _ _ HN.o));have HB1:=Hh hb1;obtain⟨te,hte⟩:∃ te,treeErr (.mk k d e ks)=te:=⟨_,rfl⟩;rw[hte] at HCK;have HTE:=Hh hte;clear hm hE hn hb1 hte;go_enter Tryz.func102,Tryz.ntmps102;go_upto_region 2 with (go_at_call 99;refine HCK.o.mono ?_;rintro ev w2 ⟨rfl,hb2⟩;have HB2:=Hh (HB1.o.trans (hb2.mono HB1.o.size));clear hb2);by_cases ht:te=0
 ·subst ht;rw[xB];obtain⟨m,hm⟩:=HM.o;have HSP:=Hh (qFM s hs w2 (HE.o.later HB2.o) ⟨m,(HB2.o.cell (p:=⟨14,0,none⟩) (lt_of_cell hm)).trans hm⟩);clear hm;go_upto_region 4 with fail
  cases hsp:qQ s with
  | none =>
   rw[hsp] at HSP;have HSQ:=Hh hsp;clear hsp;go_wp2_with (go_at_call 157;refine HSP.o.mono ?_;rintro ev w3 ⟨hb3,rfl⟩;have HB3:=Hh (HB2.o.trans (hb3.mono HB2.o.size));clear hb3);go_ret2;exact⟨HB3.o,_,_,_,_,rfl,.inr ⟨HTE.o,.inl ⟨HSQ.o,rfl⟩⟩⟩
  | some l =>
   rw[hsp] at HSP;have HSQ:=Hh hsp;clear hsp;go_wp2_with (go_at_call 157;refine HSP.o.mono ?_;rintro ev w3 ⟨hb3,A3,c3,rfl,hst⟩;have HB3:=Hh (HB2.o.trans (hb3.mono HB2.o.size));have HST:=Hh hst;clear hb3 hst);go_ret2;exact⟨HB3.o,_,_,_,_,rfl,.inr ⟨HTE.o,.inr ⟨l,HSQ.o,rfl,rfl,HST.o⟩⟩⟩
 ·rw[qD p ht];have HT:=Hh ht;have HEO:=Hh (qD p ht);clear ht;go_wp2_with fail;go_ret2;exact⟨HB2.o,_,_,_,_,rfl,.inl ⟨by rw[HTE.o];exact HT.o,by rw[HTE.o,HEO.o];rfl⟩⟩
theorem qBb (s:List UInt8):∀ l,qQ s=some l→l.length≤8:=by
 intro l h;unfold qQ at h;split at h
 ·cases h;simp
 ·split at h
  ·split at h
   ·cases h
   ·rename_i h2
    cases h
    exact Nat.le_of_not_lt fun h3=>h2 (.inr (.inl h3))
  ·cases h
theorem qHy {p:Nat→Addr}(n:Nd)(vs:List Value)(s:List UInt8)(hs:s.length≤4000000)(w:World)(hE:Errs w p)(hm:∃ m,w.cell? ⟨14,0,none⟩=some (.int .i64 m))(hn:NodeAt w n vs) :
  Calls Tryz.prog 133 #[.agg vs.toArray,.string ⟨s.toArray⟩] w fun ev w'=>Below w.heap.size w w'∧nV p (fun _=>True) w (getPath n s) ev w':=by
 have HM:=Hh hm;have HE:=Hh hE;have HN:=Hh hn;obtain⟨k,d,e,ks⟩:=n;obtain⟨A,c,rfl,_,_⟩:=hn.open;have hb1:Below w.heap.size w ((w.alloc (.cells #[.string ⟨k.toArray⟩,.string ⟨d.toArray⟩,.bool e,.slice A ks.length c] 134)).alloc (.cells #[.string ⟨#[]⟩,.string ⟨#[]⟩,.bool false,.slice none 0 0] 134)):=((zB _ w).alloc (zo _) _).alloc (by simp) _;have HX0:=Hh (qS (w.alloc (.cells #[.string ⟨k.toArray⟩,.string ⟨d.toArray⟩,.bool e,.slice A ks.length c] 134)) (.cells #[.string ⟨#[]⟩,.string ⟨#[]⟩,.bool false,.slice none 0 0] 134) (zK1 w (.cells #[.string ⟨k.toArray⟩,.string ⟨d.toArray⟩,.bool e,.slice A ks.length c] 134)));have hx1:=zK1 (w.alloc (.cells #[.string ⟨k.toArray⟩,.string ⟨d.toArray⟩,.bool e,.slice A ks.length c] 134)) (.cells #[.string ⟨#[]⟩,.string ⟨#[]⟩,.bool false,.slice none 0 0] 134);rw[show (w.alloc (.cells #[.string ⟨k.toArray⟩,.string ⟨d.toArray⟩,.bool e,.slice A ks.length c] 134)).heap.size=w.heap.size+1 by simp] at hx1;have HX1:=Hh hx1;have HE1:=Hh (HE.o.later hb1);have HN1:=Hh (NodeAt.later hb1 _ _ HN.o);have HM1:=Hh (show ∃ m,((w.alloc (.cells #[.string ⟨k.toArray⟩,.string ⟨d.toArray⟩,.bool e,.slice A ks.length c] 134)).alloc (.cells #[.string ⟨#[]⟩,.string ⟨#[]⟩,.bool false,.slice none 0 0] 134)).cell? ⟨14,0,none⟩=some (.int .i64 m) by
  obtain⟨m,hm⟩:=HM.o
  exact⟨m,(hb1.cell (p:=⟨14,0,none⟩) (lt_of_cell hm)).trans hm⟩)
 have HB1:=Hh hb1;have HG:=Hh (show getPath (.mk k d e ks) s=if treeErr (.mk k d e ks)≠0 then .error (treeErr (.mk k d e ks)) else match qQ s with
  | none=>.error 5
  | some l=>match jJ (.mk k d e ks) l with | none=>.error 6 | some x=>.ok x from rfl)
 generalize getPath (.mk k d e ks) s=res at HG ⊢;clear hm hE hn hb1 hx1;go_enter Tryz.func133,Tryz.ntmps133;go_upto_region 1 with fail;generalize (w.alloc (.cells #[.string ⟨k.toArray⟩,.string ⟨d.toArray⟩,.bool e,.slice A ks.length c] 134)).alloc (.cells #[.string ⟨#[]⟩,.string ⟨#[]⟩,.bool false,.slice none 0 0] 134)=w1 at *;obtain⟨q0,q1,q2,q3⟩:=cq HX0.o;have HNM:=Hh (qFa (.mk k d e ks) _ s hs w1 HE1.o HM1.o HN1.o);go_upto_region 2 with (go_at_call 102;refine HNM.o.mono ?_;rintro ev w2 ⟨hb2,A2,m2,c2,er,rfl,hpost⟩;have HB2:=Hh hb2;have HPO:=Hh hpost;clear hb2 hpost);have HO2:=Hh ((HB2.o.block _ (qA HX1.o)).trans HX1.o);have HX2:=Hh ((HB2.o.block _ (qA HX0.o)).trans HX0.o);have HBT:=Hh (HB1.o.trans (HB2.o.mono HB1.o.size));clear q0 q1 q2 q3;obtain⟨z0,z1,z2,z3⟩:=cq HO2.o;have f0:w2.frozen? ⟨w.heap.size+1,0,none⟩=false:=qC HO2.o 0;have f1:w2.frozen? ⟨w.heap.size+1,1,none⟩=false:=qC HO2.o 1;have f2:w2.frozen? ⟨w.heap.size+1,2,none⟩=false:=qC HO2.o 2;have f3:w2.frozen? ⟨w.heap.size+1,3,none⟩=false:=qC HO2.o 3;have HLS:=Hh (qBb s)
 rcases (show (∃ cd,cd≠0∧res=.error cd∧er=jK p cd)∨∃ l,l.length≤8∧treeErr (.mk k d e ks)=0∧res=(match jJ (.mk k d e ks) l with | none=>.error 6 | some x=>.ok x)∧er=.nilIface∧m2=l.length∧Strs w2 (.slice A2 l.length c2) l from by
  rcases HPO.o with ⟨h1,h2⟩ | ⟨h1,⟨h2,h3⟩ | ⟨l,h2,h3,h4,h5⟩⟩
  ·exact .inl ⟨_,h1,by rw[HG.o,zM1 h1],h2⟩
  ·exact .inl ⟨5,by decide,by rw[HG.o,zL1 (by rw[h1];decide),h2],h3⟩
  ·exact .inr ⟨l,HLS.o l h2,h1,by rw[HG.o,zL1 (by rw[h1];decide),h2],h3,h4,h5.1⟩) with ⟨cd,hcd,hres,rfl⟩ | ⟨l,hl8,hte,hres,rfl,rfl,hst⟩
 ·rw[qD p hcd];have HEO:=Hh (qD p hcd);have HCD:=Hh hcd;have HRS:=Hh hres;clear hcd hres HPO;go_wp2_with fail;obtain⟨wz,E9,HF,HBF⟩:=nJ HO2.o HBT.o (by simp) (.string ⟨#[]⟩) (.string ⟨#[]⟩) (.bool false) (.slice none 0 0);clear z0 z1 z2 z3 f0 f1 f2 f3;rw[E9.o];obtain⟨r0,r1,r2,r3⟩:=cq HF.o;refine zH1 (v:=.tuple #[.agg #[(.string ⟨#[]⟩),(.string ⟨#[]⟩),(.bool false),(.slice none 0 0)],(.iface 376 (.pointer (some (p cd))))]) ?_ rfl ⟨HBF.o,?_⟩
  ·simp[results,Tryz.results133,go_sem,r0,r1,r2,r3]
  ·rw[HRS.o];exact⟨_,_,_,_,_,_,_,rfl,HEO.o.symm,HCD.o⟩
 ·have HTE:=Hh hte;have HRS:=Hh hres;have HST:=Hh hst;clear hte hres hst HPO;obtain⟨q0,q1,q2,q3⟩:=cq HX2.o;have hll:l.length≤1000000:=by omega
  have HAT:=Hh (qM6 (.mk k d e ks) _ A2 c2 l hll w w2 HBT.o HN.o (pN HTE.o) HST.o);clear z0 z1 z2 z3 f0 f1 f2 f3;go_upto_region 5 with (go_at_call 104;refine HAT.o.mono ?_;rintro ev w3 ⟨hb3,a0,a1,a2,A5,m5,c5,bb,rfl,hpost⟩;have HB3:=Hh hb3;have HPO:=Hh hpost;clear hb3 hpost);have hb4:=(zB w3.heap.size w3).alloc (zo _) (.cells #[.string a0,.string a1,.bool a2,.slice A5 m5 c5] 134);have HNX:=Hh (zK1 w3 (.cells #[.string a0,.string a1,.bool a2,.slice A5 m5 c5] 134));have HO4:=Hh ((hb4.block _ (zt (qA HO2.o) HB3.o.size)).trans ((HB3.o.block _ (qA HO2.o)).trans HO2.o));have HL3:=Hh (show w.heap.size+1<w3.heap.size from zt (qA HO2.o) HB3.o.size);have HB24:=Hh (HB3.o.trans (hb4.mono HB3.o.size));have HB4:=Hh (HBT.o.trans (HB24.o.mono HBT.o.size));clear q0 q1 q2 q3 hb4;generalize w3.alloc (.cells #[.string a0,.string a1,.bool a2,.slice A5 m5 c5] 134)=w4 at *
  cases hat:jJ (.mk k d e ks) l with
  | none =>
   rw[hat] at HPO HRS;have hbb:bb=false:=HPO.o;subst hbb;have ER:=Hh (HE.o.later HB4.o);have hg5:=ER.o.cell 6 (by omega) (by omega);rw[qD p (by omega)] at hg5;have HGN:=Hh (lt_of_cell (HE.o.cell 6 (by omega) (by omega)));have hg6:w4.cell? ⟨5,0,none⟩=some (.iface 376 (.pointer (some (p 6)))):=hg5;have hgne:w.heap.size+1≠5:=by have:=HGN.o;simp[wA] at this;omega
   have hgne':5≠w.heap.size+1:=hgne.symm;have HRT:=Hh (show res=.error 6 from HRS.o);clear hat HPO HRS hg5;obtain⟨z0,z1,z2,z3⟩:=cq HO4.o;have f0:w4.frozen? ⟨w.heap.size+1,0,none⟩=false:=qC HO4.o 0;have f1:w4.frozen? ⟨w.heap.size+1,1,none⟩=false:=qC HO4.o 1;have f2:w4.frozen? ⟨w.heap.size+1,2,none⟩=false:=qC HO4.o 2;have f3:w4.frozen? ⟨w.heap.size+1,3,none⟩=false:=qC HO4.o 3;go_upto_region 6 with fail
   go_region
   obtain⟨wz,E9,HF,HBF⟩:=qGI HO4.o HB4.o (by simp) (.string ⟨#[]⟩) (.string ⟨#[]⟩) (.bool false) (.slice none 0 0);clear hgne hgne' hg6 z0 z1 z2 z3 f0 f1 f2 f3;go_wp2_with fail;rw[E9.o];obtain⟨r0,r1,r2,r3⟩:=cq HF.o;refine zH1 (v:=.tuple #[.agg #[(.string ⟨#[]⟩),(.string ⟨#[]⟩),(.bool false),(.slice none 0 0)],(.iface 376 (.pointer (some (p 6))))]) ?_ rfl ⟨HBF.o,?_⟩
   ·simp[results,Tryz.results133,go_sem,r0,r1,r2,r3]
   ·rw[HRT.o];exact⟨_,_,_,_,_,_,_,rfl,(qD p (by decide)).symm,by decide⟩
  | some x =>
   rw[hat] at HPO HRS;obtain⟨hbb,hx⟩:=HPO.o;subst hbb;have HRT:=Hh (show res=.ok x from HRS.o);obtain⟨n0,n1,n2,n3⟩:=cq HNX.o;have HCP:=Hh (nK (Stl.wt x) x _ (fun b=>b≠w.heap.size+1) w4 (zo _) (NodeP.go HB4.o.size (fun b hb _=>⟨HB4.o.block b hb,by omega⟩) _ _ (NodeP.of_at _ _ hx)));clear hat HPO HRS hx;go_wp2_with (go_at_call 156;refine HCP.o.mono ?_;rintro ev w6 ⟨us,rfl,hn6,hb6⟩;have HB6:=Hh (HB4.o.trans (hb6.mono HB4.o.size));have HO6:=Hh ((hb6.block _ (qA HO4.o)).trans HO4.o);obtain⟨b0,b1,b2,b3,bm,bc,rfl⟩:=kF hn6;have HN6:=Hh hn6;clear hn6 hb6 n0 n1 n2 n3;have z0:w6.cell? ⟨w.heap.size+1,0,none⟩=some (.string ⟨#[]⟩):=zJ1 w6 _ 0 _ _ _ HO6.o;have z1:w6.cell? ⟨w.heap.size+1,1,none⟩=some (.string ⟨#[]⟩):=zJ1 w6 _ 1 _ _ _ HO6.o;have z2:w6.cell? ⟨w.heap.size+1,2,none⟩=some (.bool false):=zJ1 w6 _ 2 _ _ _ HO6.o;have z3:w6.cell? ⟨w.heap.size+1,3,none⟩=some (.slice none 0 0):=zJ1 w6 _ 3 _ _ _ HO6.o;have f0:w6.frozen? ⟨w.heap.size+1,0,none⟩=false:=qC HO6.o 0;have f1:w6.frozen? ⟨w.heap.size+1,1,none⟩=false:=qC HO6.o 1;have f2:w6.frozen? ⟨w.heap.size+1,2,none⟩=false:=qC HO6.o 2;have f3:w6.frozen? ⟨w.heap.size+1,3,none⟩=false:=qC HO6.o 3);obtain⟨wz,E9,HF,HBF⟩:=nJ HO6.o HB6.o (by simp) (.string b0) (.string b1) (.bool b2) (.slice b3 bm bc);have HNF:=Hh (NodeP.set4 (x:=w.heap.size+1) (u0:=.string b0) (u1:=.string b1) (u2:=.bool b2) (u3:=.slice b3 bm bc) HN6.o (fun b hb=>by
    rcases hb with h | h
    ·exact h
    ·have:=qA HO4.o
     omega))
   clear z0 z1 z2 z3 f0 f1 f2 f3;rw[E9.o];rw[E9.o] at HNF;obtain⟨r0,r1,r2,r3⟩:=cq HF.o;refine zH1 (v:=.tuple #[.agg #[.string b0,.string b1,.bool b2,.slice b3 bm bc],.nilIface]) ?_ rfl ⟨HBF.o,?_⟩
   ·simp[results,Tryz.results133,go_sem,r0,r1,r2,r3]
   ·rw[HRT.o];exact⟨_,_,_,_,_,_,_,rfl,rfl,NodeP.go (zo _) (fun _ _ _=>⟨rfl,.inl trivial⟩) _ _ HNF.o⟩
def TlPost (p:Nat→Addr)(w:World)(r:Except Nat (List UInt8))(ev:Ending)(w':World):Prop :=
 ∃ (a:ByteArray) (er:Value),ev=.returned (.tuple #[.string a,er])∧Below w.heap.size w w' ∧
  match r with
  | .error cd=>er=jK p cd∧cd≠0
  | .ok x=>er=.nilIface∧a=⟨x.toArray⟩
section
variable {w:World}{A:Option Addr}{zs:List PkX}{c:Nat→Col}{b:Nat}{s:Sto}{bd:Nat}{cap:Nat}{R:Option Addr}{rc tp:Nat}{p:Nat→Addr}
theorem qJ7 (h:StoX w c b s bd A cap zs R rc tp)(hg:vB s)(hE:Env w c p)(rest:List UInt8)(hr:rest.length≤1000000) :
  Calls Tryz.prog 79 #[.pointer (some ⟨b,0,none⟩),.string ⟨rest.toArray⟩] w (TlPost p w (s.read rest)):=by
 have H:=Hh h;have HG:=Hh hg;have HE:=Hh hE;obtain⟨res,hres⟩:∃ res,res=s.read rest:=⟨_,rfl⟩;rw[← hres];unfold Sto.read at hres;clear h hg hE
 cases hc:cutAt 32 rest with
 | none =>
  rw[hc] at hres;have HRS:=Hh (show res=.error 1 from hres);have HCUT:=Hh (pS 32 hc (by omega) w HE.o.max);clear hc hres;go_enter Tryz.func79,Tryz.ntmps79;go_upto_region 3 with (go_at_call 72;refine HCUT.o.mono ?_;rintro ev w1 ⟨rfl,hb1⟩;have HB1:=Hh hb1;clear hb1);have hg:w1.cell? ⟨1,0,none⟩=some (.iface 376 (.pointer (some (p 1)))):=((HE.o.errs.later HB1.o).cell 1 (by decide) (by decide)).trans (by rw[qD p (by decide)]);go_quiet (fail);go_wp2;go_ret2;rw[HRS.o];exact⟨_,_,rfl,Below.drewN HB1.o _,by rw[qD p (by decide)];rfl,by decide⟩
 | some q =>
  obtain⟨name,pt⟩:=q;rw[hc] at hres;simp only at hres;have hnl:=nC 32 hc;have HCUT:=Hh (gU 32 hc (by omega) w HE.o.max);clear hc;go_enter Tryz.func79,Tryz.ntmps79;go_upto_region 4 with (go_at_call 72;refine HCUT.o.mono ?_;rintro ev w1 ⟨rfl,hb1⟩;have HB1:=Hh hb1;clear hb1);have HTR:=Hh (qLZ (H.o.below HB1.o) HG.o (HE.o.below HB1.o) name)
  cases ht:s.tree name with
  | error cd =>
   rw[ht] at hres HTR;have HRS:=Hh (show res=.error cd from hres);clear ht hres;go_upto_region 5 with (go_at_call 59;refine HTR.o.mono ?_;rintro ev w2 ⟨hb2,a0,a1,a2,A4,m4,cp4,er,rfl,rfl,hcd⟩;have HB2:=Hh (HB1.o.trans (hb2.mono HB1.o.size));have HEO:=Hh (qD p hcd);have HCD:=Hh hcd;clear hb2 hcd);have HB3:=Hh (HB2.o.alloc HB2.o.size (.cells #[.string a0,.string a1,.bool a2,.slice A4 m4 cp4] 134));rw[HEO.o];go_wp2;go_ret2;rw[HRS.o];exact⟨_,_,rfl,HB3.o,by rw[HEO.o];rfl,HCD.o⟩
  | ok n =>
   rw[ht] at hres HTR;simp only at hres;clear ht;go_upto_region 5 with (go_at_call 59;refine HTR.o.mono ?_;rintro ev w2 ⟨hb2,a0,a1,a2,A4,m4,cp4,er,rfl,rfl,hn2⟩;have HB2:=Hh (HB1.o.trans (hb2.mono HB1.o.size));have HN2:=Hh (NodeP.at _ _ hn2);clear hb2 hn2);have hb3:=(zB w2.heap.size w2).alloc (zo _) (.cells #[.string a0,.string a1,.bool a2,.slice A4 m4 cp4] 134);have HY3:=Hh (zK1 w2 (.cells #[.string a0,.string a1,.bool a2,.slice A4 m4 cp4] 134));have HN3:=Hh (NodeAt.later hb3 _ _ HN2.o);have HB3:=Hh (HB2.o.alloc HB2.o.size (.cells #[.string a0,.string a1,.bool a2,.slice A4 m4 cp4] 134));clear hb3;go_upto_region 7 with fail;generalize w2.alloc (.cells #[.string a0,.string a1,.bool a2,.slice A4 m4 cp4] 134)=w3 at *;obtain⟨q0,q1,q2,q3⟩:=cq HY3.o;have HPG:=Hh (qHy (p:=p) n _ pt (by omega) w3 (HE.o.errs.later HB3.o) (HE.o.below HB3.o).max HN3.o)
   cases hgp:getPath n pt with
   | error cd =>
    rw[hgp] at hres HPG;have HRS:=Hh (show res=.error cd from hres);clear hgp hres;go_upto_region 8 with (go_at_call 133;refine HPG.o.mono ?_;rintro ev w4 ⟨hb4,e0,e1,e2,A5,m5,cp5,er,rfl,rfl,hcd⟩;have HB4:=Hh (HB3.o.trans (hb4.mono HB3.o.size));have HEO:=Hh (qD p hcd);have HCD:=Hh hcd;clear hb4 hcd);have HB5:=Hh (HB4.o.alloc HB4.o.size (.cells #[.string e0,.string e1,.bool e2,.slice A5 m5 cp5] 134));rw[HEO.o];clear q0 q1 q2 q3;go_wp2;go_ret2;rw[HRS.o];exact⟨_,_,rfl,HB5.o,by rw[HEO.o];rfl,HCD.o⟩
   | ok x =>
    rw[hgp] at hres HPG;have HRS:=Hh (show res=.ok (pT x) from hres);have hkk:=qMy hgp;obtain⟨k,d,e,ks⟩:=x;have HKL:=Hh (show ∀ q∈ks,q.1.length≤12 from hkk.2);have hkl:ks.length≤200:=hkk.1;clear hgp hres hkk;go_upto_region 8 with (go_at_call 133;refine HPG.o.mono ?_;rintro ev w4 ⟨hb4,e0,e1,e2,A5,m5,cp5,er,rfl,rfl,hn4⟩;have HB4:=Hh (HB3.o.trans (hb4.mono HB3.o.size));have HN4:=Hh (NodeP.at _ _ hn4);clear hb4 hn4);obtain⟨A6,cp6,hq,_,hks⟩:=NodeAt.open HN4.o;simp only[zD,Value.string.injEq,Value.bool.injEq,zC1,and_true] at hq;obtain⟨rfl,rfl,rfl,rfl,rfl,rfl⟩:=hq;have hb5:=(zB w4.heap.size w4).alloc (zo _) (.cells #[.string ⟨k.toArray⟩,.string ⟨d.toArray⟩,.bool e2,.slice A5 ks.length cp5] 134);have HY5:=Hh (zK1 w4 (.cells #[.string ⟨k.toArray⟩,.string ⟨d.toArray⟩,.bool e2,.slice A5 ks.length cp5] 134));have HN5:=Hh (NodeAt.later hb5 _ _ HN4.o);have HB5:=Hh (HB4.o.alloc HB4.o.size (.cells #[.string ⟨k.toArray⟩,.string ⟨d.toArray⟩,.bool e2,.slice A5 ks.length cp5] 134));clear hb5 q0 q1 q2 q3 hks;go_upto_region 10 with fail;generalize w4.alloc (.cells #[.string ⟨k.toArray⟩,.string ⟨d.toArray⟩,.bool e2,.slice A5 ks.length cp5] 134)=w5 at *;have q0:=ce0 HY5.o;have q1:=ce1 HY5.o;have q3:=ce3 HY5.o
    cases h1:k==[102,105,108,101] with
    | true =>
     have HT:=Hh (show pT (.mk k d e2 ks)=d from (show pT (.mk k d e2 ks)=(if k=kFile then d else if k=kLink then 45::62::d else qT (ks.map (·.1))) from rfl).trans (zM1 (eq_of_beq h1)));go_wp2;go_ret2;rw[HRS.o,HT.o];exact⟨_,_,rfl,HB5.o,rfl,rfl⟩
    | false =>
     cases h2:k==[108,105,110,107] with
     | true =>
      have HT:=Hh (show pT (.mk k d e2 ks)=45::62::d from (show pT (.mk k d e2 ks)=(if k=kFile then d else if k=kLink then 45::62::d else qT (ks.map (·.1))) from rfl).trans ((zL1 (fun hk=>by rw[hk] at h1;exact absurd h1 (by decide))).trans (zM1 (eq_of_beq h2))));go_wp2;go_ret2;rw[HRS.o,HT.o];exact⟨_,_,rfl,HB5.o,rfl,ByteArray.ext (by simp)⟩
     | false =>
      have HT:=Hh (show pT (.mk k d e2 ks)=qT (ks.map (·.1)) from (show pT (.mk k d e2 ks)=(if k=kFile then d else if k=kLink then 45::62::d else qT (ks.map (·.1))) from rfl).trans ((zL1 (fun hk=>by rw[hk] at h1;exact absurd h1 (by decide))).trans (zL1 (fun hk=>by rw[hk] at h2;exact absurd h2 (by decide)))));go_upto_region 17 with fail;clear q0 q1 q3;obtain⟨i0,hi,hz0,hz1,hz2⟩:=pO;have Hi:=Hh hi;have Hz0:=Hh hz0;have Hz1:=Hh hz1;have Hz2:=Hh hz2;clear hi hz0 hz1 hz2
      go_loopw [12,56] (fun v a wr=>∃ (j:Nat),a=.int .i64 j∧j≤ks.length∧Hg (Below w5.heap.size w5 wr)∧Hg (wr.ownsRow w5.heap.size 9 1 v j (((ks.take j).map (·.1)).map encStr))) (fun _ a _=>ks.length-(intOf a).toNat)
      case atStart=>exact⟨0,rfl,zw _,Hh (zB _ _),Hh (zF1 _ _ _ _)⟩
      case round =>
       obtain⟨j,rfl,hj,HB,HO⟩:=hrel;by_cases hjl:j<ks.length
       ·have i1:(j:Int)<(ks.length:Int):=by omega
        have i2:(0:Int)≤(j:Int):=by omega
        obtain⟨A7,c7,hq,_,hks⟩:=NodeAt.open (NodeAt.later HB.o _ _ HN5.o);simp only[zD,zC1,and_true,true_and] at hq;obtain⟨rfl,rfl⟩:=hq;obtain⟨g,off,rfl,hgl,hka⟩:=hks (by intro e;rw[e] at hjl;simp at hjl);obtain⟨⟨s0,_⟩,v0,v1,v2,v3,s1,s2,s3,s4,hsub⟩:=KidsAt.at ks off j ks[j].1 ks[j].2 hka (zL hjl);have HTK:=Hh (show ((ks.take (j+1)).map (·.1)).map encStr=((ks.take j).map (·.1)).map encStr++[.string ⟨ks[j].1.toArray⟩] by
         rw[zn hjl,zU,zU];rfl)
        generalize ks[j].2=x8 at hsub;obtain⟨k8,d8,e8,ks8⟩:=x8;obtain⟨A8,c8,hq8,_⟩:=NodeAt.open hsub;simp only[zD,and_true] at hq8;obtain⟨rfl,rfl,rfl,rfl⟩:=hq8;clear hsub hka hks;generalize ks[j].1=nm at *;have hb6:=(zB wr.heap.size wr).alloc (zo _) (.cells #[.string ⟨nm.toArray⟩,.string ⟨k8.toArray⟩,.string ⟨d8.toArray⟩,.bool e8,.slice A8 ks8.length c8] 224);have HY6:=Hh (zK1 wr (.cells #[.string ⟨nm.toArray⟩,.string ⟨k8.toArray⟩,.string ⟨d8.toArray⟩,.bool e8,.slice A8 ks8.length c8] 224));have HB6:=Hh (HB.o.trans (hb6.mono HB.o.size));have HO6:=Hh (HO.o.alloc (.cells #[.string ⟨nm.toArray⟩,.string ⟨k8.toArray⟩,.string ⟨d8.toArray⟩,.bool e8,.slice A8 ks8.length c8] 224));clear hb6;go_upto_region 19 with fail;clear s0 s1 s2 s3 s4;generalize wr.alloc (.cells #[.string ⟨nm.toArray⟩,.string ⟨k8.toArray⟩,.string ⟨d8.toArray⟩,.bool e8,.slice A8 ks8.length c8] 224)=w6 at *;have r0:=ce0 HY6.o;have HO7:=Hh (HO6.o.alloc (.cells #[.string ⟨nm.toArray⟩] 9));have HB7:=Hh (HB6.o.alloc HB6.o.size (.cells #[.string ⟨nm.toArray⟩] 9));go_wp2_with (at_builtin;refine Stl.wpList_app _ rfl _ _ 22 rfl w5.heap.size 9 i0 (.string ByteArray.empty) 1 16 Tryz.underlying22 Hi.o Hz0.o Hz1.o Hz2.o rfl (by decide) u12 j _ rfl HO7.o (some ⟨w6.heap.size,0,none⟩) 1 1 [.string ⟨nm.toArray⟩] rfl rfl (fun h=>by cases h) (jD _ _ _) (by simp[Value.oneCell']) (by unfold maxLen;omega) (by omega) (zq HB6.o.size (by simp)) ?_;intro A7 c7 w7 hown7 hgr7 hat7;have HO8:=Hh hown7;have HB8:=Hh (HB7.o.grown hgr7 HB7.o.size (fun k hk=>(HO7.o.lt k hk).1));clear hown7 hgr7 hat7);go_roundw
        case rel=>exact⟨j+1,by go_num,hjl,HB8,Hh (by rw[HTK.o];exact HO8.o)⟩
        case measure=>simp[intOf];omega
       ·have i1:¬ (j:Int)<(ks.length:Int):=by omega
        obtain rfl:j=ks.length:=by omega
        obtain⟨A3,c3,e3⟩:=Stl.owns_slice _ HO.o;subst e3;have ho:=HO.o;rw[zk] at ho;have HJ:=Hh (show Calls Tryz.prog 61 #[.slice A3 ks.length c3] wr _ from by
         have h1:=yE (w:=wr) (A:=A3) (cap:=c3) (l:=ks.map (·.1)) (by have:=vF ho;rwa [zT]) (by rw[zT];exact yG ho) (by rw[zT];omega) (by
          have:=kB 12 (ks.map (·.1)) (fun x hx=>by obtain⟨q,hq,rfl⟩:=zb.1 hx;exact HKL.o q hq)
          rw[zT] at this
          omega)
         rw[zT] at h1
         exact h1)
        clear ho;go_wp2_with (go_at_call 61;refine HJ.o.mono ?_;rintro ev w9 ⟨rfl,hb9⟩;have HB9:=Hh (HB5.o.trans ((HB.o.trans (hb9.mono HB.o.size)).mono HB5.o.size));clear hb9);go_ret2;rw[HRS.o,HT.o];exact⟨_,_,rfl,HB9.o,rfl,rfl⟩
end
end Go.Proofs.YtbmkaekimccdgaaGreatDoor
