/- Texts of this claim, merged: At, PGet, ReadPure. -/
import Derived.Test.YtceklhjomhjipaaGreatDoorKm31
set_option maxHeartbeats 16000000
set_option maxRecDepth 1000000
set_option linter.all false
namespace Stl
def Well (n:Nd):Prop:=∃ deep c,(chk ownErr n deep c).1=0
theorem qQB {n:Nd} (h:treeErr n=0):Well n:=⟨0,0,h⟩
theorem Well.own {n:Nd} (h:Well n):ownErr n=0:=by
 obtain ⟨deep,c,h⟩:=h
 exact qJQ n deep c [] 0 h ⟨[],0,n⟩ (flat_head n [] 0)
theorem qK4:∀ (l:List (Bytes×Nd)) (deep c:Nat),(chkL ownErr l deep c).1=0→∀ q∈l,Well q.2
 | [],_,_,_,q,hq=>by cases hq
 | (nm,y)::r,deep,c,h,q,hq=>by
  unfold chkL at h
  split at h
  ·rename_i h1
   rcases zY.1 hq with rfl | hq
   ·exact ⟨_,_,h1⟩
   ·exact qK4 r _ _ h q hq
  ·rename_i h1
   exact absurd h h1
theorem Well.kid {k d:Bytes} {e:Bool} {ks:List (Bytes×Nd)} (h:Well (.mk k d e ks)) {q:Bytes×Nd} (hq:q∈ks):Well q.2:=by
 obtain ⟨deep,c,h⟩:=h
 unfold chk at h
 split at h
 ·simp at h
 ·split at h
  ·simp at h
  ·split at h
   ·exact qK4 ks _ _ h q hq
   ·rename_i h3
    exact absurd h h3
theorem Well.rises {k d:Bytes} {e:Bool} {ks:List (Bytes×Nd)} (h:Well (.mk k d e ks)):(ks.map (·.1)).Pairwise (·<·):=by
 have:=h.own
 exact qCf _ ((qBM k d e _).1 this).2.2.2.2.2.2.2
theorem qHe:∀ (ks:List (Bytes×Nd)) (s:Bytes),(∀ q∈ks,q.1≠s)→qEz ks s=none
 | [],_,_=>rfl
 | (nm,x)::r,s,h=>by
  rw [qEz,zL1 (h (nm,x) (by simp)),qHe r s (fun q hq=>h q (by simp [hq]))]
theorem qKx:∀ (ks:List (Bytes×Nd)) (s:Bytes) (k:Nat) (h:k<ks.length),(ks.map (·.1)).Pairwise (·<·)→ks[k].1=s→qEz ks s=some ks[k].2
 | (nm,x)::r,s,0,_,_,h=>by
  simp only [List.getElem_cons_zero] at h
  simp [qEz,h]
 | (nm,x)::r,s,k+1,hk,hp,h=>by
  simp only [zV,zj] at hp
  simp only [List.getElem_cons_succ] at h ⊢
  have hk':k<r.length:=by simpa using hk
  have:nm<s:=hp.1 s (by rw [← h];exact ze.2 ⟨r[k],zO hk',rfl⟩)
  rw [qEz,zL1 (fun e=>by subst e;exact absurd this (List.lt_irrefl _))]
  exact qKx r s k hk' hp.2 h
end Stl
namespace Go.Proofs.YtceklhjomhjipaaGreatDoor
open Go.RowKit Go.Sort Go.Shelf Stl
def qQU (w0:World) (r:Option Nd) (ev:Ending):Prop :=
 ∃ (a0 a1:ByteArray) (a2:Bool) (A:Option Addr) (m cp:Nat) (b:Bool),ev=.returned (.tuple #[.agg #[.string a0,.string a1,.bool a2,.slice A m cp],.bool b]) ∧
  match r with
  | some x=>b=true∧NodeAt w0 x [.string a0,.string a1,.bool a2,.slice A m cp]
  | none=>b=false
theorem qQ0 (n:Nd) (vs:List Value) (A:Option Addr) (c:Nat) (l:List (List UInt8)) (hl:l.length≤1000000) (w0 w:World) (hb0:Below w0.heap.size w0 w) (hn:NodeAt w0 n vs) (hw:Well n) (hs:Strs w (.slice A l.length c) l) :
  Calls Tryz.prog 148 #[.agg vs.toArray,.slice A l.length c] w fun ev w'=>Below w.heap.size w w'∧qQU w0 (qA2 n l) ev:=by
 obtain ⟨k,d,e,ks⟩:=n
 obtain ⟨An,cn,rfl,_,_⟩:=hn.open
 have HS:=Hh hs
 have HN:=Hh hn
 have HW:=Hh hw
 have HB0:=Hh hb0
 obtain ⟨res,hres⟩:∃ res,res=qA2 (.mk k d e ks) l:=⟨_,rfl⟩
 rw [← hres]
 have HR:=Hh hres
 clear hres hs hn hw hb0
 have hb1:Below w.heap.size w ((w.alloc (.cells #[.string ⟨k.toArray⟩,.string ⟨d.toArray⟩,.bool e,.slice An ks.length cn] 114)).alloc (.cells #[.string ⟨#[]⟩,.string ⟨#[]⟩,.bool false,.slice none 0 0] 114)):=((zB _ w).alloc (zq _) _).alloc (by simp) _
 have HX0:=Hh (qAj (w.alloc (.cells #[.string ⟨k.toArray⟩,.string ⟨d.toArray⟩,.bool e,.slice An ks.length cn] 114)) (.cells #[.string ⟨#[]⟩,.string ⟨#[]⟩,.bool false,.slice none 0 0] 114) (zK1 w (.cells #[.string ⟨k.toArray⟩,.string ⟨d.toArray⟩,.bool e,.slice An ks.length cn] 114)))
 have hx1:=zK1 (w.alloc (.cells #[.string ⟨k.toArray⟩,.string ⟨d.toArray⟩,.bool e,.slice An ks.length cn] 114)) (.cells #[.string ⟨#[]⟩,.string ⟨#[]⟩,.bool false,.slice none 0 0] 114)
 rw [show (w.alloc (.cells #[.string ⟨k.toArray⟩,.string ⟨d.toArray⟩,.bool e,.slice An ks.length cn] 114)).heap.size=w.heap.size+1 by simp] at hx1
 have HX1:=Hh hx1
 have HB1:=Hh hb1
 clear hx1 hb1
 go_enter Tryz.func148,Tryz.ntmps148
 go_upto_region 2 with fail
 go_loopw [12] (fun a wr=>∃ (j:Nat) (k' d':List UInt8) (e':Bool) (ks':List (List UInt8×Nd)) (A':Option Addr) (c':Nat),j≤l.length∧a=.int .i64 j∧Hid (Below w.heap.size w wr)∧Hid (wr.heap[w.heap.size]?=some (.cells #[.string ⟨k'.toArray⟩,.string ⟨d'.toArray⟩,.bool e',.slice A' ks'.length c'] 114 (0,0)))∧Hid (wr.heap[w.heap.size+1]?=some (.cells #[.string ⟨#[]⟩,.string ⟨#[]⟩,.bool false,.slice none 0 0] 114 (0,0)))∧Hid (NodeAt w0 (.mk k' d' e' ks') [.string ⟨k'.toArray⟩,.string ⟨d'.toArray⟩,.bool e',.slice A' ks'.length c'])∧Hid (Well (.mk k' d' e' ks'))∧Hid (res=qA2 (.mk k' d' e' ks') (l.drop j))) (fun a _=>l.length-(intOf a).toNat)
 case atStart=>exact ⟨0,k,d,e,ks,An,cn,zx _,rfl,HB1,HX0,HX1,HN,HW,HR⟩
 case round =>
  obtain ⟨j,k',d',e',ks',A',c',hj,rfl,HB,HX,HO,HNJ,HWJ,HRJ⟩:=hrel
  clear HX0 HX1 HN HW HR HB1
  have q0:=ce0 HX.out
  have q1:=ce1 HX.out
  have q2:=ce2 HX.out
  have q3:=ce3 HX.out
  by_cases hjl:j<l.length
  ·have i1:(j:Int)<(l.length:Int):=by omega
   have i2:(0:Int)≤(j:Int):=by omega
   obtain ⟨b,off,rfl,hlt,h0⟩:=(HS.out.later HB.out).cellAt hjl
   have HRN:=Hh (show res=qA2 (.mk k' d' e' ks') (l[j]::l.drop (j+1)) by rw [HRJ.out,← zF hjl])
   generalize l[j]=nm at h0 HRN
   obtain ⟨A2,c2,he,hbd,hko⟩:=HNJ.out.open
   simp only [zD,zC1,and_true,true_and] at he
   obtain ⟨rfl,rfl⟩:=he
   have HBD:=Hh hbd
   have HKO:=Hh (hko.later (HB0.out.trans (HB.out.mono HB0.out.size)))
   have HKD:=Hh (qQp k' d' e' A' c' ks' hbd.1 hbd.2.1 nm wr HKO.out HWJ.out.rises)
   clear hko hbd
   go_upto_region 5 with (go_at_call 205;refine HKD.out.mono ?_;rintro ev w2 ⟨kk,bb,rfl,h1,h2,hb2⟩;have H1:=Hh h1;have H2:=Hh h2;have HB2:=Hh hb2;clear h1 h2 hb2)
   have HX2:=Hh ((HB2.out.block _ (qAa HX.out)).trans HX.out)
   have HO2:=Hh ((HB2.out.block _ (qAa HO.out)).trans HO.out)
   have HBT:=Hh (HB.out.trans (HB2.out.mono HB.out.size))
   clear q0 q1 q2 q3 h0
   cases bb with
   | false =>
    have HRZ:=Hh (show res=none by rw [HRN.out,qA2];simp only [Nd.kids];rw [qHe ks' nm (H2.out rfl)])
    have z0:=ce0 HO2.out
    have z1:=ce1 HO2.out
    have z2:=ce2 HO2.out
    have z3:=ce3 HO2.out
    have f0:w2.frozen? ⟨w.heap.size+1,0,none⟩=false:=qAb HO2.out 0
    have f1:w2.frozen? ⟨w.heap.size+1,1,none⟩=false:=qAb HO2.out 1
    have f2:w2.frozen? ⟨w.heap.size+1,2,none⟩=false:=qAb HO2.out 2
    have f3:w2.frozen? ⟨w.heap.size+1,3,none⟩=false:=qAb HO2.out 3
    go_wp2_with fail
    have HF:=Hh (show ((((w2.setCell ⟨w.heap.size+1,0,none⟩ (.string ⟨#[]⟩)).setCell ⟨w.heap.size+1,1,none⟩ (.string ⟨#[]⟩)).setCell ⟨w.heap.size+1,2,none⟩ (.bool false)).setCell ⟨w.heap.size+1,3,none⟩ (.slice none 0 0)).heap[w.heap.size+1]?=some (.cells #[(.string ⟨#[]⟩),(.string ⟨#[]⟩),(.bool false),(.slice none 0 0)] 114 (0,0)) from qAd (qAd (qAd (qAd HO2.out 0 (.string ⟨#[]⟩)) 1 (.string ⟨#[]⟩)) 2 (.bool false)) 3 (.slice none 0 0))
    have HBF:=Hh ((((HBT.out.setCell (p:=⟨w.heap.size+1,0,none⟩) (by simp) (.string ⟨#[]⟩)).setCell (p:=⟨w.heap.size+1,1,none⟩) (by simp) (.string ⟨#[]⟩)).setCell (p:=⟨w.heap.size+1,2,none⟩) (by simp) (.bool false)).setCell (p:=⟨w.heap.size+1,3,none⟩) (by simp) (.slice none 0 0))
    clear z0 z1 z2 z3 f0 f1 f2 f3
    generalize (((w2.setCell ⟨w.heap.size+1,0,none⟩ (.string ⟨#[]⟩)).setCell ⟨w.heap.size+1,1,none⟩ (.string ⟨#[]⟩)).setCell ⟨w.heap.size+1,2,none⟩ (.bool false)).setCell ⟨w.heap.size+1,3,none⟩ (.slice none 0 0)=wz at *
    have r0:=ce0 HF.out
    have r1:=ce1 HF.out
    have r2:=ce2 HF.out
    have r3:=ce3 HF.out
    refine zH1 (v:=.tuple #[.agg #[(.string ⟨#[]⟩),(.string ⟨#[]⟩),(.bool false),(.slice none 0 0)],.bool false]) ?_ rfl ⟨HBF.out,?_⟩
    ·simp [results,Tryz.results148,go_sem,r0,r1,r2,r3]
    ·rw [HRZ.out]
     exact ⟨_,_,_,_,_,_,_,rfl,rfl⟩
   | true =>
    obtain ⟨hkk,hkn⟩:=H1.out rfl
    have HRZ:=Hh (show res=qA2 ks'[kk].2 (l.drop (j+1)) by rw [HRN.out,qA2];simp only [Nd.kids];rw [qKx ks' nm kk hkk HWJ.out.rises hkn])
    have HWK:=Hh (HWJ.out.kid (zO hkk))
    obtain ⟨b3,off3,rfl,hl3,⟨_,_⟩,v0,v1,v2,v3,c1,c2',c3,c4,hn3⟩:=(HKO.out.later HB2.out).at hkk
    have hn0:NodeAt w0 ks'[kk].2 [v0,v1,v2,v3]:=by
     obtain ⟨A3,c3,he3,_,hk0⟩:=HNJ.out.open
     simp only [zD,zC1,and_true,true_and] at he3
     obtain ⟨rfl,rfl⟩:=he3
     obtain ⟨b4,off4,e4,hl4,_,y0,y1,y2,y3,g1,g2,g3,g4,hn4⟩:=hk0.at hkk
     simp only [zB1,Addr.mk.injEq,and_true] at e4
     obtain ⟨rfl,rfl⟩:=e4
     have up:∀ i v,w0.cell? ⟨b3,i,none⟩=some v→w2.cell? ⟨b3,i,none⟩=some v:=fun i v hv=>((HB0.out.trans (HBT.out.mono HB0.out.size)).cell (p:=⟨b3,i,none⟩) hl4).trans hv
     rw [up _ _ g1] at c1
     rw [up _ _ g2] at c2'
     rw [up _ _ g3] at c3
     rw [up _ _ g4] at c4
     cases c1
     cases c2'
     cases c3
     cases c4
     exact hn4
    clear hn3
    generalize ks'[kk]=kd at hn0 HRZ HWK hkn
    obtain ⟨nm2,x⟩:=kd
    obtain ⟨kx,dx,ex,ksx⟩:=x
    simp only at hn0 HRZ HWK
    obtain ⟨A5,c5,e5,_,_⟩:=hn0.open
    simp only [zD,and_true] at e5
    obtain ⟨rfl,rfl,rfl,rfl⟩:=e5
    have HN0:=Hh hn0
    have q0:=ce0 HX2.out
    have q1:=ce1 HX2.out
    have q2:=ce2 HX2.out
    have q3:=ce3 HX2.out
    have f0:w2.frozen? ⟨w.heap.size,0,none⟩=false:=qAb HX2.out 0
    have f1:w2.frozen? ⟨w.heap.size,1,none⟩=false:=qAb HX2.out 1
    have f2:w2.frozen? ⟨w.heap.size,2,none⟩=false:=qAb HX2.out 2
    have f3:w2.frozen? ⟨w.heap.size,3,none⟩=false:=qAb HX2.out 3
    have i3:(kk:Int)<(ks'.length:Int):=by omega
    have i4:(0:Int)≤(kk:Int):=by omega
    clear hn0
    go_wp2_with fail
    have HXF:=Hh (show ((((w2.setCell ⟨w.heap.size,0,none⟩ (.string ⟨kx.toArray⟩)).setCell ⟨w.heap.size,1,none⟩ (.string ⟨dx.toArray⟩)).setCell ⟨w.heap.size,2,none⟩ (.bool ex)).setCell ⟨w.heap.size,3,none⟩ (.slice A5 ksx.length c5)).heap[w.heap.size]?=some (.cells #[.string ⟨kx.toArray⟩,.string ⟨dx.toArray⟩,.bool ex,.slice A5 ksx.length c5] 114 (0,0)) from qAd (qAd (qAd (qAd HX2.out 0 (.string ⟨kx.toArray⟩)) 1 (.string ⟨dx.toArray⟩)) 2 (.bool ex)) 3 (.slice A5 ksx.length c5))
    have HBF:=Hh ((((HBT.out.setCell (p:=⟨w.heap.size,0,none⟩) (zq _) (.string ⟨kx.toArray⟩)).setCell (p:=⟨w.heap.size,1,none⟩) (zq _) (.string ⟨dx.toArray⟩)).setCell (p:=⟨w.heap.size,2,none⟩) (zq _) (.bool ex)).setCell (p:=⟨w.heap.size,3,none⟩) (zq _) (.slice A5 ksx.length c5))
    have HOF:=Hh (show ((((w2.setCell ⟨w.heap.size,0,none⟩ (.string ⟨kx.toArray⟩)).setCell ⟨w.heap.size,1,none⟩ (.string ⟨dx.toArray⟩)).setCell ⟨w.heap.size,2,none⟩ (.bool ex)).setCell ⟨w.heap.size,3,none⟩ (.slice A5 ksx.length c5)).heap[w.heap.size+1]?=some (.cells #[.string ⟨#[]⟩,.string ⟨#[]⟩,.bool false,.slice none 0 0] 114 (0,0)) by
     have hg:w.heap.size+1≠w.heap.size:=by omega
     rw [zA _ ⟨w.heap.size,3,none⟩ _ _ hg,zA _ ⟨w.heap.size,2,none⟩ _ _ hg,zA _ ⟨w.heap.size,1,none⟩ _ _ hg,zA _ ⟨w.heap.size,0,none⟩ _ _ hg]
     exact HO2.out)
    clear q0 q1 q2 q3 f0 f1 f2 f3 c1 c2' c3 c4
    go_roundw
    case rel=>exact ⟨j+1,kx,dx,ex,ksx,A5,c5,hjl,by go_num,HBF,HXF,HOF,HN0,HWK,HRZ⟩
    case measure=>simp [intOf];omega
  ·have i1:¬ (j:Int)<(l.length:Int):=by omega
   have HRZ:=Hh (show res=some (.mk k' d' e' ks') by rw [HRJ.out,zG (by omega)];rfl)
   have z0:=ce0 HO.out
   have z1:=ce1 HO.out
   have z2:=ce2 HO.out
   have z3:=ce3 HO.out
   have f0:wr.frozen? ⟨w.heap.size+1,0,none⟩=false:=qAb HO.out 0
   have f1:wr.frozen? ⟨w.heap.size+1,1,none⟩=false:=qAb HO.out 1
   have f2:wr.frozen? ⟨w.heap.size+1,2,none⟩=false:=qAb HO.out 2
   have f3:wr.frozen? ⟨w.heap.size+1,3,none⟩=false:=qAb HO.out 3
   go_wp2_with fail
   have HF:=Hh (show ((((wr.setCell ⟨w.heap.size+1,0,none⟩ (.string ⟨k'.toArray⟩)).setCell ⟨w.heap.size+1,1,none⟩ (.string ⟨d'.toArray⟩)).setCell ⟨w.heap.size+1,2,none⟩ (.bool e')).setCell ⟨w.heap.size+1,3,none⟩ (.slice A' ks'.length c')).heap[w.heap.size+1]?=some (.cells #[(.string ⟨k'.toArray⟩),(.string ⟨d'.toArray⟩),(.bool e'),(.slice A' ks'.length c')] 114 (0,0)) from qAd (qAd (qAd (qAd HO.out 0 (.string ⟨k'.toArray⟩)) 1 (.string ⟨d'.toArray⟩)) 2 (.bool e')) 3 (.slice A' ks'.length c'))
   have HBF:=Hh ((((HB.out.setCell (p:=⟨w.heap.size+1,0,none⟩) (by simp) (.string ⟨k'.toArray⟩)).setCell (p:=⟨w.heap.size+1,1,none⟩) (by simp) (.string ⟨d'.toArray⟩)).setCell (p:=⟨w.heap.size+1,2,none⟩) (by simp) (.bool e')).setCell (p:=⟨w.heap.size+1,3,none⟩) (by simp) (.slice A' ks'.length c'))
   clear q0 q1 q2 q3 z0 z1 z2 z3 f0 f1 f2 f3
   generalize (((wr.setCell ⟨w.heap.size+1,0,none⟩ (.string ⟨k'.toArray⟩)).setCell ⟨w.heap.size+1,1,none⟩ (.string ⟨d'.toArray⟩)).setCell ⟨w.heap.size+1,2,none⟩ (.bool e')).setCell ⟨w.heap.size+1,3,none⟩ (.slice A' ks'.length c')=wz at *
   have r0:=ce0 HF.out
   have r1:=ce1 HF.out
   have r2:=ce2 HF.out
   have r3:=ce3 HF.out
   refine zH1 (v:=.tuple #[.agg #[(.string ⟨k'.toArray⟩),(.string ⟨d'.toArray⟩),(.bool e'),(.slice A' ks'.length c')],.bool true]) ?_ rfl ⟨HBF.out,?_⟩
   ·simp [results,Tryz.results148,go_sem,r0,r1,r2,r3]
   ·rw [HRZ.out]
    exact ⟨_,_,_,_,_,_,_,rfl,rfl,HNJ.out⟩
end Go.Proofs.YtceklhjomhjipaaGreatDoor
namespace Go.Proofs.YtceklhjomhjipaaGreatDoor
open Go.RowKit Go.Sort Go.Shelf Stl
def qNa (p:Nat→Addr) (n:Nd) (s:List UInt8) (ev:Ending) (w':World):Prop :=
 ∃ (A:Option Addr) (m c:Nat) (er:Value),ev=.returned (.tuple #[.slice A m c,er]) ∧
  ((treeErr n≠0∧er=qAB p (treeErr n))∨(treeErr n=0∧((qAy s=none∧er=qAB p 5)∨∃ l,qAy s=some l∧er=.nilIface∧m=l.length∧Strs w' (.slice A l.length c) l)))
theorem qNz {p:Nat→Addr} (n:Nd) (vs:List Value) (s:List UInt8) (hs:s.length≤4000000) (w:World) (hE:Errs w p) (hm:∃ m,w.cell? ⟨10,0,none⟩=some (.int .i64 m)) (hn:NodeAt w n vs) :
  Calls Tryz.prog 147 #[.agg vs.toArray,.string ⟨s.toArray⟩] w fun ev w'=>Below w.heap.size w w'∧qNa p n s ev w':=by
 have HM:=Hh hm
 have HE:=Hh hE
 have HN:=Hh hn
 obtain ⟨k,d,e,ks⟩:=n
 obtain ⟨A,c,rfl,_,_⟩:=hn.open
 have hb1:Below w.heap.size w (w.alloc (.cells #[.string ⟨k.toArray⟩,.string ⟨d.toArray⟩,.bool e,.slice A ks.length c] 114)):=(zB _ w).alloc (zq _) _
 have HCK:=Hh (qDi p (.mk k d e ks) _ _ (HE.out.later hb1) (NodeAt.later hb1 _ _ HN.out))
 have HB1:=Hh hb1
 obtain ⟨te,hte⟩:∃ te,treeErr (.mk k d e ks)=te:=⟨_,rfl⟩
 rw [hte] at HCK
 have HTE:=Hh hte
 clear hm hE hn hb1 hte
 go_enter Tryz.func147,Tryz.ntmps147
 go_upto_region 2 with (go_at_call 125;refine HCK.out.mono ?_;rintro ev w2 ⟨rfl,hb2⟩;have HB2:=Hh (HB1.out.trans (hb2.mono HB1.out.size));clear hb2)
 by_cases ht:te=0
 ·subst ht
  rw [qDc]
  obtain ⟨m,hm⟩:=HM.out
  have HSP:=Hh (qIU s hs w2 (HE.out.later HB2.out) ⟨m,(HB2.out.cell (p:=⟨10,0,none⟩) (lt_of_cell hm)).trans hm⟩)
  clear hm
  go_upto_region 4 with fail
  cases hsp:qAy s with
  | none =>
   rw [hsp] at HSP
   have HSQ:=Hh hsp
   clear hsp
   go_wp2_with (go_at_call 154;refine HSP.out.mono ?_;rintro ev w3 ⟨hb3,rfl⟩;have HB3:=Hh (HB2.out.trans (hb3.mono HB2.out.size));clear hb3)
   go_ret2
   exact ⟨HB3.out,_,_,_,_,rfl,.inr ⟨HTE.out,.inl ⟨HSQ.out,rfl⟩⟩⟩
  | some l =>
   rw [hsp] at HSP
   have HSQ:=Hh hsp
   clear hsp
   go_wp2_with (go_at_call 154;refine HSP.out.mono ?_;rintro ev w3 ⟨hb3,A3,c3,rfl,hst⟩;have HB3:=Hh (HB2.out.trans (hb3.mono HB2.out.size));have HST:=Hh hst;clear hb3 hst)
   go_ret2
   exact ⟨HB3.out,_,_,_,_,rfl,.inr ⟨HTE.out,.inr ⟨l,HSQ.out,rfl,rfl,HST.out⟩⟩⟩
 ·rw [qAc p ht]
  have HT:=Hh ht
  have HEO:=Hh (qAc p ht)
  clear ht
  go_wp2_with fail
  go_ret2
  exact ⟨HB2.out,_,_,_,_,rfl,.inl ⟨by rw [HTE.out];exact HT.out,by rw [HTE.out,HEO.out];rfl⟩⟩
theorem qHu (s:List UInt8):∀ l,qAy s=some l→l.length≤8:=by
 intro l h
 unfold qAy at h
 split at h
 ·cases h;simp
 ·split at h
  ·split at h
   ·cases h
   ·rename_i h2
    cases h
    exact Nat.le_of_not_lt fun h3=>h2 (.inr (.inl h3))
  ·cases h
theorem qKv {p:Nat→Addr} (n:Nd) (vs:List Value) (s:List UInt8) (hs:s.length≤4000000) (w:World) (hE:Errs w p) (hm:∃ m,w.cell? ⟨10,0,none⟩=some (.int .i64 m)) (hn:NodeAt w n vs) :
  Calls Tryz.prog 91 #[.agg vs.toArray,.string ⟨s.toArray⟩] w fun ev w'=>Below w.heap.size w w'∧qDu p (fun _=>True) w (getPath n s) ev w':=by
 have HM:=Hh hm
 have HE:=Hh hE
 have HN:=Hh hn
 obtain ⟨k,d,e,ks⟩:=n
 obtain ⟨A,c,rfl,_,_⟩:=hn.open
 have hb1:Below w.heap.size w ((w.alloc (.cells #[.string ⟨k.toArray⟩,.string ⟨d.toArray⟩,.bool e,.slice A ks.length c] 114)).alloc (.cells #[.string ⟨#[]⟩,.string ⟨#[]⟩,.bool false,.slice none 0 0] 114)):=((zB _ w).alloc (zq _) _).alloc (by simp) _
 have HX0:=Hh (qAj (w.alloc (.cells #[.string ⟨k.toArray⟩,.string ⟨d.toArray⟩,.bool e,.slice A ks.length c] 114)) (.cells #[.string ⟨#[]⟩,.string ⟨#[]⟩,.bool false,.slice none 0 0] 114) (zK1 w (.cells #[.string ⟨k.toArray⟩,.string ⟨d.toArray⟩,.bool e,.slice A ks.length c] 114)))
 have hx1:=zK1 (w.alloc (.cells #[.string ⟨k.toArray⟩,.string ⟨d.toArray⟩,.bool e,.slice A ks.length c] 114)) (.cells #[.string ⟨#[]⟩,.string ⟨#[]⟩,.bool false,.slice none 0 0] 114)
 rw [show (w.alloc (.cells #[.string ⟨k.toArray⟩,.string ⟨d.toArray⟩,.bool e,.slice A ks.length c] 114)).heap.size=w.heap.size+1 by simp] at hx1
 have HX1:=Hh hx1
 have HE1:=Hh (HE.out.later hb1)
 have HN1:=Hh (NodeAt.later hb1 _ _ HN.out)
 have HM1:=Hh (show ∃ m,((w.alloc (.cells #[.string ⟨k.toArray⟩,.string ⟨d.toArray⟩,.bool e,.slice A ks.length c] 114)).alloc (.cells #[.string ⟨#[]⟩,.string ⟨#[]⟩,.bool false,.slice none 0 0] 114)).cell? ⟨10,0,none⟩=some (.int .i64 m) by
  obtain ⟨m,hm⟩:=HM.out
  exact ⟨m,(hb1.cell (p:=⟨10,0,none⟩) (lt_of_cell hm)).trans hm⟩)
 have HB1:=Hh hb1
 have HG:=Hh (show getPath (.mk k d e ks) s=if treeErr (.mk k d e ks)≠0 then .error (treeErr (.mk k d e ks)) else match qAy s with
  | none=>.error 5
  | some l=>match qA2 (.mk k d e ks) l with | none=>.error 6 | some x=>.ok x from rfl)
 generalize getPath (.mk k d e ks) s=res at HG ⊢
 clear hm hE hn hb1 hx1
 go_enter Tryz.func91,Tryz.ntmps91
 go_upto_region 1 with fail
 generalize (w.alloc (.cells #[.string ⟨k.toArray⟩,.string ⟨d.toArray⟩,.bool e,.slice A ks.length c] 114)).alloc (.cells #[.string ⟨#[]⟩,.string ⟨#[]⟩,.bool false,.slice none 0 0] 114)=w1 at *
 have q0:=ce0 HX0.out
 have q1:=ce1 HX0.out
 have q2:=ce2 HX0.out
 have q3:=ce3 HX0.out
 have HNM:=Hh (qNz (.mk k d e ks) _ s hs w1 HE1.out HM1.out HN1.out)
 go_upto_region 2 with (go_at_call 147;refine HNM.out.mono ?_;rintro ev w2 ⟨hb2,A2,m2,c2,er,rfl,hpost⟩;have HB2:=Hh hb2;have HPO:=Hh hpost;clear hb2 hpost)
 have HO2:=Hh ((HB2.out.block _ (qAa HX1.out)).trans HX1.out)
 have HX2:=Hh ((HB2.out.block _ (qAa HX0.out)).trans HX0.out)
 have HBT:=Hh (HB1.out.trans (HB2.out.mono HB1.out.size))
 clear q0 q1 q2 q3
 have z0:=ce0 HO2.out
 have z1:=ce1 HO2.out
 have z2:=ce2 HO2.out
 have z3:=ce3 HO2.out
 have f0:w2.frozen? ⟨w.heap.size+1,0,none⟩=false:=qAb HO2.out 0
 have f1:w2.frozen? ⟨w.heap.size+1,1,none⟩=false:=qAb HO2.out 1
 have f2:w2.frozen? ⟨w.heap.size+1,2,none⟩=false:=qAb HO2.out 2
 have f3:w2.frozen? ⟨w.heap.size+1,3,none⟩=false:=qAb HO2.out 3
 have HLS:=Hh (qHu s)
 rcases (show (∃ cd,cd≠0∧res=.error cd∧er=qAB p cd)∨∃ l,l.length≤8∧treeErr (.mk k d e ks)=0∧res=(match qA2 (.mk k d e ks) l with | none=>.error 6 | some x=>.ok x)∧er=.nilIface∧m2=l.length∧Strs w2 (.slice A2 l.length c2) l from by
  rcases HPO.out with ⟨h1,h2⟩ | ⟨h1,⟨h2,h3⟩ | ⟨l,h2,h3,h4,h5⟩⟩
  ·exact .inl ⟨_,h1,by rw [HG.out,zM1 h1],h2⟩
  ·exact .inl ⟨5,by decide,by rw [HG.out,zL1 (by rw [h1];decide),h2],h3⟩
  ·exact .inr ⟨l,HLS.out l h2,h1,by rw [HG.out,zL1 (by rw [h1];decide),h2],h3,h4,h5⟩) with ⟨cd,hcd,hres,rfl⟩ | ⟨l,hl8,hte,hres,rfl,rfl,hst⟩
 ·rw [qAc p hcd]
  have HEO:=Hh (qAc p hcd)
  have HCD:=Hh hcd
  have HRS:=Hh hres
  clear hcd hres HPO
  go_wp2_with fail
  have HF:=Hh (show ((((w2.setCell ⟨w.heap.size+1,0,none⟩ (.string ⟨#[]⟩)).setCell ⟨w.heap.size+1,1,none⟩ (.string ⟨#[]⟩)).setCell ⟨w.heap.size+1,2,none⟩ (.bool false)).setCell ⟨w.heap.size+1,3,none⟩ (.slice none 0 0)).heap[w.heap.size+1]?=some (.cells #[(.string ⟨#[]⟩),(.string ⟨#[]⟩),(.bool false),(.slice none 0 0)] 114 (0,0)) from qAd (qAd (qAd (qAd HO2.out 0 (.string ⟨#[]⟩)) 1 (.string ⟨#[]⟩)) 2 (.bool false)) 3 (.slice none 0 0))
  have HBF:=Hh ((((HBT.out.setCell (p:=⟨w.heap.size+1,0,none⟩) (by simp) (.string ⟨#[]⟩)).setCell (p:=⟨w.heap.size+1,1,none⟩) (by simp) (.string ⟨#[]⟩)).setCell (p:=⟨w.heap.size+1,2,none⟩) (by simp) (.bool false)).setCell (p:=⟨w.heap.size+1,3,none⟩) (by simp) (.slice none 0 0))
  clear z0 z1 z2 z3 f0 f1 f2 f3
  generalize ((((w2.setCell ⟨w.heap.size+1,0,none⟩ (.string ⟨#[]⟩)).setCell ⟨w.heap.size+1,1,none⟩ (.string ⟨#[]⟩)).setCell ⟨w.heap.size+1,2,none⟩ (.bool false)).setCell ⟨w.heap.size+1,3,none⟩ (.slice none 0 0))=wz at *
  have r0:=ce0 HF.out
  have r1:=ce1 HF.out
  have r2:=ce2 HF.out
  have r3:=ce3 HF.out
  refine zH1 (v:=.tuple #[.agg #[(.string ⟨#[]⟩),(.string ⟨#[]⟩),(.bool false),(.slice none 0 0)],(.iface 377 (.pointer (some (p cd))))]) ?_ rfl ⟨HBF.out,?_⟩
  ·simp [results,Tryz.results91,go_sem,r0,r1,r2,r3]
  ·rw [HRS.out]
   exact ⟨_,_,_,_,_,_,_,rfl,HEO.out.symm,HCD.out⟩
 ·have HTE:=Hh hte
  have HRS:=Hh hres
  have HST:=Hh hst
  clear hte hres hst HPO
  have q0:=ce0 HX2.out
  have q1:=ce1 HX2.out
  have q2:=ce2 HX2.out
  have q3:=ce3 HX2.out
  have hll:l.length≤1000000:=by omega
  have HAT:=Hh (qQ0 (.mk k d e ks) _ A2 c2 l hll w w2 HBT.out HN.out (qQB HTE.out) HST.out)
  clear z0 z1 z2 z3 f0 f1 f2 f3
  go_upto_region 5 with (go_at_call 148;refine HAT.out.mono ?_;rintro ev w3 ⟨hb3,a0,a1,a2,A5,m5,c5,bb,rfl,hpost⟩;have HB3:=Hh hb3;have HPO:=Hh hpost;clear hb3 hpost)
  have hb4:=(zB w3.heap.size w3).alloc (zq _) (.cells #[.string a0,.string a1,.bool a2,.slice A5 m5 c5] 114)
  have HNX:=Hh (zK1 w3 (.cells #[.string a0,.string a1,.bool a2,.slice A5 m5 c5] 114))
  have HO4:=Hh ((hb4.block _ (zu (qAa HO2.out) HB3.out.size)).trans ((HB3.out.block _ (qAa HO2.out)).trans HO2.out))
  have HL3:=Hh (show w.heap.size+1<w3.heap.size from zu (qAa HO2.out) HB3.out.size)
  have HB24:=Hh (HB3.out.trans (hb4.mono HB3.out.size))
  have HB4:=Hh (HBT.out.trans (HB24.out.mono HBT.out.size))
  clear q0 q1 q2 q3 hb4
  generalize w3.alloc (.cells #[.string a0,.string a1,.bool a2,.slice A5 m5 c5] 114)=w4 at *
  cases hat:qA2 (.mk k d e ks) l with
  | none =>
   rw [hat] at HPO HRS
   have hbb:bb=false:=HPO.out
   subst hbb
   have ER:=Hh (HE.out.later HB4.out)
   have hg5:=ER.out.cell 6 (by omega) (by omega)
   rw [qAc p (by omega)] at hg5
   have HGN:=Hh (lt_of_cell (HE.out.cell 6 (by omega) (by omega)))
   have hg6:w4.cell? ⟨7,0,none⟩=some (.iface 377 (.pointer (some (p 6)))):=hg5
   have hgne:w.heap.size+1≠7:=by have:=HGN.out;simp [qCq] at this;omega
   have hgne':7≠w.heap.size+1:=hgne.symm
   have HRT:=Hh (show res=.error 6 from HRS.out)
   clear hat HPO HRS hg5
   have z0:=ce0 HO4.out
   have z1:=ce1 HO4.out
   have z2:=ce2 HO4.out
   have z3:=ce3 HO4.out
   have f0:w4.frozen? ⟨w.heap.size+1,0,none⟩=false:=qAb HO4.out 0
   have f1:w4.frozen? ⟨w.heap.size+1,1,none⟩=false:=qAb HO4.out 1
   have f2:w4.frozen? ⟨w.heap.size+1,2,none⟩=false:=qAb HO4.out 2
   have f3:w4.frozen? ⟨w.heap.size+1,3,none⟩=false:=qAb HO4.out 3
   go_upto_region 6 with fail
   go_region
   have HF:=Hh (show ((((w4.setCell ⟨w.heap.size+1,0,none⟩ (.string ⟨#[]⟩)).setCell ⟨w.heap.size+1,1,none⟩ (.string ⟨#[]⟩)).setCell ⟨w.heap.size+1,2,none⟩ (.bool false)).setCell ⟨w.heap.size+1,3,none⟩ (.slice none 0 0)).drew.heap[w.heap.size+1]?=some (.cells #[(.string ⟨#[]⟩),(.string ⟨#[]⟩),(.bool false),(.slice none 0 0)] 114 (0,0)) from qAd (qAd (qAd (qAd HO4.out 0 (.string ⟨#[]⟩)) 1 (.string ⟨#[]⟩)) 2 (.bool false)) 3 (.slice none 0 0))
   have HBF:=Hh (((((HB4.out.setCell (p:=⟨w.heap.size+1,0,none⟩) (by simp) (.string ⟨#[]⟩)).setCell (p:=⟨w.heap.size+1,1,none⟩) (by simp) (.string ⟨#[]⟩)).setCell (p:=⟨w.heap.size+1,2,none⟩) (by simp) (.bool false)).setCell (p:=⟨w.heap.size+1,3,none⟩) (by simp) (.slice none 0 0)).drew)
   clear hgne hgne' hg6 z0 z1 z2 z3 f0 f1 f2 f3
   go_wp2_with fail
   generalize ((((w4.setCell ⟨w.heap.size+1,0,none⟩ (.string ⟨#[]⟩)).setCell ⟨w.heap.size+1,1,none⟩ (.string ⟨#[]⟩)).setCell ⟨w.heap.size+1,2,none⟩ (.bool false)).setCell ⟨w.heap.size+1,3,none⟩ (.slice none 0 0)).drew=wz at *
   have r0:=ce0 HF.out
   have r1:=ce1 HF.out
   have r2:=ce2 HF.out
   have r3:=ce3 HF.out
   refine zH1 (v:=.tuple #[.agg #[(.string ⟨#[]⟩),(.string ⟨#[]⟩),(.bool false),(.slice none 0 0)],(.iface 377 (.pointer (some (p 6))))]) ?_ rfl ⟨HBF.out,?_⟩
   ·simp [results,Tryz.results91,go_sem,r0,r1,r2,r3]
   ·rw [HRT.out]
    exact ⟨_,_,_,_,_,_,_,rfl,(qAc p (by decide)).symm,by decide⟩
  | some x =>
   rw [hat] at HPO HRS
   obtain ⟨hbb,hx⟩:=HPO.out
   subst hbb
   have HRT:=Hh (show res=.ok x from HRS.out)
   have n0:=ce0 HNX.out
   have n1:=ce1 HNX.out
   have n2:=ce2 HNX.out
   have n3:=ce3 HNX.out
   have HCP:=Hh (qK6 (Stl.wt x) x _ (fun b=>b≠w.heap.size+1) w4 (zq _) (NodeP.go HB4.out.size (fun b hb _=>⟨HB4.out.block b hb,by omega⟩) _ _ (NodeP.of_at _ _ hx)))
   clear hat HPO HRS hx
   go_wp2_with (go_at_call 149;refine HCP.out.mono ?_;rintro ev w6 ⟨us,rfl,hn6,hb6⟩;have HB6:=Hh (HB4.out.trans (hb6.mono HB4.out.size));have HO6:=Hh ((hb6.block _ (qAa HO4.out)).trans HO4.out);obtain ⟨b0,b1,b2,b3,bm,bc,rfl⟩:=qDs hn6;have HN6:=Hh hn6;clear hn6 hb6 n0 n1 n2 n3;have z0:w6.cell? ⟨w.heap.size+1,0,none⟩=some (.string ⟨#[]⟩):=zJ1 w6 _ 0 _ _ _ HO6.out;have z1:w6.cell? ⟨w.heap.size+1,1,none⟩=some (.string ⟨#[]⟩):=zJ1 w6 _ 1 _ _ _ HO6.out;have z2:w6.cell? ⟨w.heap.size+1,2,none⟩=some (.bool false):=zJ1 w6 _ 2 _ _ _ HO6.out;have z3:w6.cell? ⟨w.heap.size+1,3,none⟩=some (.slice none 0 0):=zJ1 w6 _ 3 _ _ _ HO6.out;have f0:w6.frozen? ⟨w.heap.size+1,0,none⟩=false:=qAb HO6.out 0;have f1:w6.frozen? ⟨w.heap.size+1,1,none⟩=false:=qAb HO6.out 1;have f2:w6.frozen? ⟨w.heap.size+1,2,none⟩=false:=qAb HO6.out 2;have f3:w6.frozen? ⟨w.heap.size+1,3,none⟩=false:=qAb HO6.out 3)
   have HF:=Hh (show ((((w6.setCell ⟨w.heap.size+1,0,none⟩ (.string b0)).setCell ⟨w.heap.size+1,1,none⟩ (.string b1)).setCell ⟨w.heap.size+1,2,none⟩ (.bool b2)).setCell ⟨w.heap.size+1,3,none⟩ (.slice b3 bm bc)).heap[w.heap.size+1]?=some (.cells #[.string b0,.string b1,.bool b2,.slice b3 bm bc] 114 (0,0)) from qAd (qAd (qAd (qAd HO6.out 0 (.string b0)) 1 (.string b1)) 2 (.bool b2)) 3 (.slice b3 bm bc))
   have HBF:=Hh ((((HB6.out.setCell (p:=⟨w.heap.size+1,0,none⟩) (by simp) (.string b0)).setCell (p:=⟨w.heap.size+1,1,none⟩) (by simp) (.string b1)).setCell (p:=⟨w.heap.size+1,2,none⟩) (by simp) (.bool b2)).setCell (p:=⟨w.heap.size+1,3,none⟩) (by simp) (.slice b3 bm bc))
   have HNF:=Hh (NodeP.set4 (x:=w.heap.size+1) (u0:=.string b0) (u1:=.string b1) (u2:=.bool b2) (u3:=.slice b3 bm bc) HN6.out (fun b hb=>by
    rcases hb with h | h
    ·exact h
    ·have:=qAa HO4.out
     omega))
   clear z0 z1 z2 z3 f0 f1 f2 f3
   generalize (((w6.setCell ⟨w.heap.size+1,0,none⟩ (.string b0)).setCell ⟨w.heap.size+1,1,none⟩ (.string b1)).setCell ⟨w.heap.size+1,2,none⟩ (.bool b2)).setCell ⟨w.heap.size+1,3,none⟩ (.slice b3 bm bc)=wz at *
   have r0:=ce0 HF.out
   have r1:=ce1 HF.out
   have r2:=ce2 HF.out
   have r3:=ce3 HF.out
   refine zH1 (v:=.tuple #[.agg #[.string b0,.string b1,.bool b2,.slice b3 bm bc],.nilIface]) ?_ rfl ⟨HBF.out,?_⟩
   ·simp [results,Tryz.results91,go_sem,r0,r1,r2,r3]
   ·rw [HRT.out]
    exact ⟨_,_,_,_,_,_,_,rfl,rfl,NodeP.go (zq _) (fun _ _ _=>⟨rfl,.inl trivial⟩) _ _ HNF.out⟩
end Go.Proofs.YtceklhjomhjipaaGreatDoor
namespace Stl
theorem qJb:∀ (l:List (Bytes×Nd)) (s:Bytes) (x:Nd),qEz l s=some x→(s,x)∈l
 | [],_,_,h=>by unfold qEz at h;cases h
 | (nm,y)::r,s,x,h=>by
  unfold qEz at h
  by_cases hn:nm=s
  ·rw [zM1 hn] at h
   cases h
   rw [hn]
   exact List.mem_cons_self
  ·rw [zL1 hn] at h
   exact List.mem_cons_of_mem _ (qJb r s x h)
theorem qJv {α β:Type} (f:α→List β) {l:List α} {x:α} (h:x∈l):(f x).length≤(l.flatMap f).length:=by
 obtain ⟨a,b,rfl⟩:=List.append_of_mem h
 simp only [List.flatMap_append,List.flatMap_cons,zP]
 omega
theorem qJU (n:Nd) (p:Bytes) (d:Nat):flat n p d=(⟨p,d,n⟩:It)::(n.kids.map fun q=>(⟨p++47::q.1,d+1,q.2⟩:It)).flatMap fun x=>flat x.n x.path x.deep:=qQv ⟨p,d,n⟩
theorem qE5:∀ (l:List Bytes) (n:Nd) (p:Bytes) (d:Nat) (x:Nd),qA2 n l=some x→∃ p' d',(∀ it∈flat x p' d',it∈flat n p d)∧(flat x p' d').length≤(flat n p d).length
 | [],n,p,d,x,h=>by
  unfold qA2 at h
  cases h
  exact ⟨p,d,fun _ h=>h,zq _⟩
 | s::l,n,p,d,x,h=>by
  unfold qA2 at h
  cases hk:qEz n.kids s with
  | none=>rw [hk] at h;cases h
  | some y =>
   rw [hk] at h
   have hm:=qJb _ _ _ hk
   obtain ⟨p',d',h1,h2⟩:=qE5 l y (p++47::s) (d+1) x h
   have hq:(⟨p++47::s,d+1,y⟩:It)∈(n.kids.map fun q=>(⟨p++47::q.1,d+1,q.2⟩:It)):=ze.2 ⟨_,hm,rfl⟩
   refine ⟨p',d',fun it hi=>?_,?_⟩
   ·rw [qJU n p d]
    exact List.mem_cons_of_mem _ (zb.2 ⟨_,hq,h1 it hi⟩)
   ·rw [qJU n p d]
    have:=qJv (fun x:It=>flat x.n x.path x.deep) hq
    simp only [zQ]
    have h3:(flat y (p++47::s) (d+1)).length≤((n.kids.map fun q=>(⟨p++47::q.1,d+1,q.2⟩:It)).flatMap fun x=>flat x.n x.path x.deep).length:=this
    omega
theorem qDO {α β:Type} (f:α→List β):∀ (l:List α),(∀ x∈l,1≤(f x).length)→l.length≤(l.flatMap f).length
 | [],_=>zq _
 | x::r,h=>by
  have h1:=qDO f r (fun y hy=>h y (List.mem_cons_of_mem _ hy))
  have h2:=h x List.mem_cons_self
  simp only [List.flatMap_cons,zP,zQ]
  omega
theorem qNS (n:Nd) (p:Bytes) (d:Nat):n.kids.length≤(flat n p d).length:=by
 rw [qJU n p d]
 have h1:=qDO (fun x:It=>flat x.n x.path x.deep) (n.kids.map fun q=>(⟨p++47::q.1,d+1,q.2⟩:It)) (fun x _=>List.length_pos_iff.2 (List.ne_nil_of_mem (flat_head x.n x.path x.deep)))
 rw [zT] at h1
 simp only [zQ]
 omega
theorem qPe {n x:Nd} {p:Bytes} (h:getPath n p=.ok x):x.kids.length≤200∧∀ q∈x.kids,q.1.length≤12:=by
 unfold getPath at h
 by_cases h0:treeErr n≠0
 ·rw [zM1 h0] at h;cases h
 ·rw [zL1 h0] at h
  have h0:treeErr n=0:=Decidable.of_not_not h0
  cases hs:qAy p with
  | none=>rw [hs] at h;cases h
  | some l =>
   rw [hs] at h
   simp only at h
   cases ha:qA2 n l with
   | none=>rw [ha] at h;cases h
   | some y =>
    rw [ha] at h
    cases h
    obtain ⟨p',d',h1,h2⟩:=qE5 l n [] 0 x ha
    obtain ⟨h3,h4⟩:=items_well h0
    refine ⟨by have:=qNS x p' d';omega,fun q hq=>?_⟩
    have h5:=(h4 _ (h1 _ (flat_head x p' d'))).1
    have h6:ownErr x=0:=h5
    unfold ownErr ownErrP at h6
    have h7:(x.kids.map (·.1)).all isName=true:=by
     repeat' split at h6
     all_goals first | omega | skip
     rename_i h _
     simpa using h
    exact qBO (List.all_eq_true.1 h7 q.1 (ze.2 ⟨q,hq,rfl⟩))
theorem qBV (m:Nat):∀ (l:List Bytes),(∀ x∈l,x.length≤m)→(qAx l).length≤7+l.length*(m+1)
 | [],_=>by show 7≤_;omega
 | [x],h=>by
  have:=h x (by simp)
  show x.length≤7+1*(m+1)
  omega
 | x::y::r,h=>by
  have h1:=qBV m (y::r) (fun z hz=>h z (List.mem_cons_of_mem _ hz))
  have h2:=h x (by simp)
  show (x++32::qAx (y::r)).length≤_
  simp only [zP,zQ] at h1 ⊢
  rw [Nat.add_mul (r.length+1) 1]
  omega
end Stl
