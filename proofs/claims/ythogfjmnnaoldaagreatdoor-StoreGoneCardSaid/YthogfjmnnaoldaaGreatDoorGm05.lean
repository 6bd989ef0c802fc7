/- Texts of this claim, merged: Disk, Space, Take. -/
import Derived.Deep.CutBlock
import Derived.Deep.CutRange
import Derived.Deep.DeepCutAuto
import Derived.Deep.RegionHeld3
import Derived.Test.YthogfjmnnaoldaaGreatDoorGm04
set_option maxHeartbeats 16000000
set_option maxRecDepth 1000000
set_option linter.all false
namespace Go.Proofs.YthogfjmnnaoldaaGreatDoor
open Go.RowKit Go.Sort Stl
theorem qK9 (x:UInt8) (r:Nat) (hr:r<8):bits BinOp.xor IntKind.u8 (x.toNat:Int) (2 ^ r%256)=((x ^^^ ((1:UInt8) <<< r.toUInt8)).toNat:Int):=by
 have h1:∀ r:Nat,r<8→2 ^ r%256=((1:UInt8) <<< r.toUInt8).toNat:=by decide
 have h2:((2:Int) ^ r%256)=(((1:UInt8) <<< r.toUInt8).toNat:Int):=by
  rw [← h1 r hr]
  simp
 rw [h2]
 generalize (1:UInt8) <<< r.toUInt8=y
 show IntKind.wrap .u8 ((BitVec.ofInt 8 (x.toNat:Int) ^^^ BitVec.ofInt 8 (y.toNat:Int)).toNat:Int)=_
 have e1:∀ z:UInt8,BitVec.ofInt 8 (z.toNat:Int)=z.toBitVec:=fun z=>by rw [BitVec.ofInt_natCast];simp
 rw [e1,e1]
 have h3:(x.toBitVec ^^^ y.toBitVec).toNat=(x ^^^ y).toNat:=rfl
 rw [h3]
 generalize x ^^^ y=z
 have h4:z.toNat<256:=z.toNat_lt
 simp [IntKind.wrap,IntKind.bits,IntKind.signed]
 omega
section
variable {w:World} {c:Nat→Col} {b:Nat} {D:List (List UInt8)}
theorem qOZ (h:DiskAt w c b D) :
  Calls Tryz.prog 37 #[.pointer (some ⟨b,0,none⟩)] w fun e w'=>e=.returned (.int .i64 D.length)∧w'=w:=by
 obtain ⟨v,hb,hc,hr⟩:=h
 obtain ⟨A,cap,rfl⟩:=hr.slice
 have c0:=zK1 w b 0 _ _ _ hb
 clear hb hr
 go_enter Tryz.func37,Tryz.ntmps37
 go_wp2
 go_ret
 exact ⟨rfl,rfl⟩
def qK3:Col→Bool:=fun x=>decide (x=.disk)||decide (x=.wait)
theorem qLN {W:List (Nat×List UInt8)} (h:DiskW w c b D W) (k:Nat) (hk:k<D.length) (hW:W.length≤1000000) (s:List UInt8) (hs:s.length=16) :
  Calls Tryz.prog 238 #[.pointer (some ⟨b,0,none⟩),.int .i64 k,.string ⟨s.toArray⟩] w fun e w'=>e=.returned .nilIface∧∃ c2,Ext w w' c c2 qK3∧DiskW w' c2 b D (W++[(k,s)]):=by
 obtain ⟨v,vw,hb,hc,hr,hw⟩:=h
 obtain ⟨A,cap,rfl⟩:=hr.slice
 obtain ⟨A2,cap2,rfl⟩:=hw.slice
 have c0:=zK1 w b 0 _ _ _ hb
 have c1:=zK1 w b 1 _ _ _ hb
 have i1:(k:Int)<(D.length:Int):=by omega
 have i2:(0:Int)≤(k:Int):=by omega
 have i3:¬ (k:Int)<0:=by omega
 have i4:¬ (D.length:Int)≤(k:Int):=by omega
 have HB:=Hh hb
 have HC:=Hh hc
 have HR:=Hh hr
 have HW:=Hh hw
 have hs2:(s.length:Int)=16:=by omega
 clear hb hc hr hw
 go_enter Tryz.func238,Tryz.ntmps238
 go_upto_region 3 with go_in
 have e0:=(Ext.refl w c S0).alloc (.cells #[.int .i64 k,.string ⟨s.toArray⟩] 217)
 have HW1:=Hh (HW.out.ext e0 rfl)
 have HR1:=Hh (HR.out.ext e0 rfl)
 have HB1:=Hh (e0.kept HB.out HC.out rfl)
 have HE:=Hh e0
 clear e0
 go_wp2_with (at_builtin;refine qEv rfl _ _ 85 rfl qQY Tryz.underlying85 rfl HW1.out (some ⟨w.heap.size,0,none⟩) 1 1 [.int .i64 k,.string ⟨s.toArray⟩] rfl rfl (fun h=>by cases h) (qAw _ _ _) (by simp [Value.oneCell']) (by unfold maxLen;omega) (by omega) ?_;intro A' c' w' hrow hext _ _;have hb2:=hext.kept HB1.out.1 HB1.out.2 rfl;have g1:=zK1 w' b 1 _ _ _ hb2.1;have f1:=qAb hb2.1 1)
 go_ret
 obtain ⟨h3,e3⟩:=Ext.cell hb2.1 hb2.2 1 (.slice A' (W.length+1) c')
 refine ⟨rfl,_,((HE.out.mono (S':=qK3) (fun _ _=>rfl)).then hext (qAF rfl)).then e3 (qAF rfl),_,_,h3,hb2.2,(HR1.out.ext hext rfl).ext e3 rfl,?_⟩
 have:=hrow.ext e3 rfl
 simpa [qPS] using this
structure DiskV (w:World) (c:Nat→Col) (b:Nat) (v vw:Value) (N:Nat) (D:List (List UInt8)) (W:List (Nat×List UInt8)):Prop where
 own:w.heap[b]?=some (.cells #[v,vw] 87 (0,0))
 col:c b=.disk
 row:RowAt w c .diskL 9 1 v N (D.map encStr)
 wait:RowAt w c .wait 217 2 vw W.length (W.flatMap qPS)
theorem DiskV.ext {w w2:World} {c c2:Nat→Col} {S:Col→Bool} {b:Nat} {v vw:Value} {N:Nat} {D:List (List UInt8)} {W:List (Nat×List UInt8)} (h:DiskV w c b v vw N D W) (e:Ext w w2 c c2 S) (h1:S .disk=false) (h2:S .diskL=false) (h3:S .wait=false):DiskV w2 c2 b v vw N D W :=
 ⟨(e.kept h.own h.col h1).1,(e.kept h.own h.col h1).2,h.row.ext e h2,h.wait.ext e h3⟩
def qCZ:Col→Bool:=fun x=>decide (x=.disk)||decide (x=.diskL)||decide (x=.wait)
def qCi (D:List (List UInt8)) (W:List (Nat×List UInt8)):List (List UInt8):=W.foldl (fun D x=>D.set x.1 x.2) D
theorem qDH:∀ (W:List (Nat×List UInt8)) (D:List (List UInt8)),(qCi D W).length=D.length
 | [],_=>rfl
 | x::r,D=>by
  have:=qDH r (D.set x.1 x.2)
  simpa [qCi] using this
theorem qIO (D:List (List UInt8)) (W:List (Nat×List UInt8)) (i:Nat) (h:i<W.length):qCi D (W.take (i+1))=(qCi D (W.take i)).set W[i].1 W[i].2:=by
 unfold qCi
 rw [zq h,List.foldl_append]
 rfl
theorem qMc:∀ (W:List (Nat×List UInt8)) (i:Nat) (h:i<W.length),(W.flatMap qPS)[i*2]?=some (.int .i64 W[i].1)∧(W.flatMap qPS)[i*2+1]?=some (.string ⟨W[i].2.toArray⟩)
 | [],_,h=>by simp at h
 | x::r,0,_=>by simp [qPS]
 | x::r,i+1,h=>by
  have:=qMc r i (by simpa using h)
  rw [show (i+1)*2=i*2+2 by omega]
  simpa [qPS,List.flatMap_cons] using this
theorem qI0 {W:List (Nat×List UInt8)} (h:DiskW w c b D W) (hk:∀ x∈W,x.1<D.length) (hD:D.length≤1000000) (hW:W.length≤1000000) :
  Calls Tryz.prog 239 #[.pointer (some ⟨b,0,none⟩)] w fun e w'=>e=.returned (.tuple #[])∧Ext w w' c c qCZ∧DiskAt w' c b (qCi D W):=by
 obtain ⟨v,vw,hb,hc,hr,hw⟩:=h
 have HK:=Hh hk
 obtain ⟨A,cap,rfl⟩:=hr.slice
 obtain ⟨A2,cap2,rfl⟩:=hw.slice
 have c1:=zK1 w b 1 _ _ _ hb
 have HV:=Hh (DiskV.mk hb hc hr hw)
 clear hb hc hr hw hk
 go_enter Tryz.func239,Tryz.ntmps239
 go_wp2_with fail
 clear c1
 go_loopw [9] (fun a wr=>∃ i:Nat,i≤W.length∧a=.int .i64 i∧Hid (Ext w wr c c qCZ)∧Hid (DiskV wr c b (.slice A D.length cap) (.slice A2 W.length cap2) D.length (qCi D (W.take i)) W)) (fun a _=>W.length-(intOf a).toNat)
 case atStart=>exact ⟨0,zy _,rfl,Hh (Ext.refl _ _ _),by simpa [qCi] using HV⟩
 case round =>
  obtain ⟨i,hi,rfl,HE,HV2⟩:=hrel
  by_cases hil:i<W.length
  ·have i1:(i:Int)<(W.length:Int):=by omega
   have i2:(0:Int)≤(i:Int):=by omega
   obtain ⟨g2,cap2',e2,hg2,hg2l,_,_⟩:=HV2.out.wait.pos (by omega)
   simp only [zD1] at e2
   obtain ⟨rfl,_,rfl⟩:=e2
   have hWi:=qMc W i hil
   have q0:=(HV2.out.wait.cellAt (i*2) (by omega)).trans hWi.1
   have q1:=(HV2.out.wait.cellAt (i*2+1) (by omega)).trans hWi.2
   have HD:=Hh (qIO D W i hil)
   have HKI:=Hh (HK.out _ (zP hil))
   generalize W[i]=x at *
   obtain ⟨k,s⟩:=x
   simp only at q0 q1 HKI
   clear hWi
   go_upto_region 3 with fail
   have e0:=(Ext.refl wr c qCZ).alloc (.cells #[.int .i64 k,.string ⟨s.toArray⟩] 217)
   have HB:=Hh (zL1 wr (.cells #[.int .i64 k,.string ⟨s.toArray⟩] 217))
   have HV3:=Hh (HV2.out.ext ((Ext.refl wr c S0).alloc (.cells #[.int .i64 k,.string ⟨s.toArray⟩] 217)) rfl rfl rfl)
   have HE0:=Hh (HE.out.trans e0)
   clear e0 q0 q1
   generalize wr.alloc (.cells #[.int .i64 k,.string ⟨s.toArray⟩] 217)=W1 at *
   obtain ⟨g,cap',e2,hg,hgl,_,_⟩:=HV3.out.row.pos (by have:=HKI.out;omega)
   simp only [zD1] at e2
   obtain ⟨rfl,_,rfl⟩:=e2
   have hkD:=HKI.out
   have c0:=zK1 W1 b 0 _ _ _ HV3.out.own
   have q0:=zK1 W1 _ 0 _ _ _ HB.out
   have q1:=zK1 W1 _ 1 _ _ _ HB.out
   have r0:∃ u,W1.cell? ⟨g,k,none⟩=some u:=by
    have hl:=HV3.out.row.length
    have:=HV3.out.row.cellAt k (by omega)
    rw [zM (by omega)] at this
    exact ⟨_,this⟩
   obtain ⟨u0,r0⟩:=r0
   have f0:=HV3.out.row.frozenAt k
   have j1:(k:Int)<(D.length:Int):=by omega
   have j2:(0:Int)≤(k:Int):=by omega
   go_region
   go_wp2
   go_roundw
   case rel =>
    obtain ⟨h3,e3⟩:=HV3.out.row.stored k (.string ⟨s.toArray⟩)
    have e4:=e3.drew
    refine ⟨i+1,hil,by go_num,Hh (HE0.out.then e4 (qAF rfl)),Hh ⟨?_,HV3.out.col,?_,HV3.out.wait.ext e4 rfl⟩⟩
    ·exact (e4.kept HV3.out.own HV3.out.col rfl).1
    ·rw [HD.out,List.map_set]
     exact h3
   case measure=>simp [intOf];omega
  ·have i1:¬ (i:Int)<(W.length:Int):=by omega
   have hT:W.take i=W:=zo (by omega)
   rw [hT] at HV2
   have g1:=zK1 wr b 1 _ _ _ HV2.out.own
   have f1:=qAb HV2.out.own 1
   go_wp2
   go_end0
   obtain ⟨h3,e3⟩:=Ext.cell HV2.out.own HV2.out.col 1 (.slice none 0 0)
   exact ⟨rfl,HE.out.then e3 (qAF rfl),_,h3,HV2.out.col,by rw [qDH];exact HV2.out.row.ext e3 rfl⟩
theorem qLa (l:List UInt8) (bit:Nat) (hl:l.length=16) (hb:bit<128) (w:World) :
  Calls Tryz.prog 134 #[.string ⟨l.toArray⟩,.int .i64 bit] w fun e w'=>e=.returned (.string ⟨(Stl.turnBit l bit).toArray⟩)∧Below w.heap.size w w':=by
 have i1:(0:Int)≤(bit:Int):=by omega
 have hcv:=run_bytes_of_string (P:=Tryz.prog) w 9 98 5 ⟨l.toArray⟩ Tryz.underlying9 Tryz.underlying98 Tryz.underlying5
 generalize hcap:grownCap w (ByteArray.mk l.toArray).size 0 5=cap at hcv
 have HB:=Hh (zL1 w.drew (.cells (bytesRow ⟨l.toArray⟩ cap) 5 ((bytesRow ⟨l.toArray⟩ cap).size,(bytesRow ⟨l.toArray⟩ cap).size+1)))
 go_enter Tryz.func134,Tryz.ntmps134
 have hsz:(ByteArray.mk l.toArray).size=16:=by simpa [ByteArray.size] using hl
 have hC:∀ j (hj:j<l.length),(bytesRow ⟨l.toArray⟩ cap)[j]?=some (.int .u8 (l[j].toNat:Int)):=fun j hj=>by
  have:=bytesRow_at ⟨l.toArray⟩ cap j (by simpa using hj)
  simpa using this
 have hR:16≤(bytesRow ⟨l.toArray⟩ cap).size:=by
  have:=(Array.getElem?_eq_some_iff.1 (hC 15 (by omega))).1
  omega
 have HC:=Hh hC
 go_upto_region 2 with fail
 clear hC hcv
 have HBl:=Hh (((zC _ w).alloc (zr _) (.cells (bytesRow ⟨l.toArray⟩ cap) 5 ((bytesRow ⟨l.toArray⟩ cap).size,(bytesRow ⟨l.toArray⟩ cap).size+1))).drew)
 have HB1:=Hh (show ((w.alloc (.cells (bytesRow ⟨l.toArray⟩ cap) 5 ((bytesRow ⟨l.toArray⟩ cap).size,(bytesRow ⟨l.toArray⟩ cap).size+1))).drew).heap[w.heap.size]?=_ from HB.out)
 clear HB
 generalize (w.alloc (.cells (bytesRow ⟨l.toArray⟩ cap) 5 ((bytesRow ⟨l.toArray⟩ cap).size,(bytesRow ⟨l.toArray⟩ cap).size+1))).drew=W1 at *
 obtain ⟨q,hq,hq2⟩:∃ q:Nat,bit/8=q∧q<l.length:=⟨bit/8,rfl,by omega⟩
 obtain ⟨r,hr,hr2⟩:∃ r:Nat,bit%8=r∧r<8:=⟨bit%8,rfl,by omega⟩
 have k0:W1.cell? ⟨w.heap.size,q,none⟩=some (.int .u8 (l[q].toNat:Int)):=by rw [zK1 W1 _ q _ _ _ HB1.out];exact HC.out q hq2
 have f0:W1.frozen? ⟨w.heap.size,q,none⟩=false:=by
  simp only [World.frozen?,HB1.out]
  have:¬ (bytesRow ⟨l.toArray⟩ cap).size≤q:=by omega
  simp [this]
 have j1:(bit:Int)/8=(q:Int):=by omega
 have j2:(bit:Int)%8=(r:Int):=by omega
 have j3:(q:Int)<16:=by omega
 have j4:(0:Int)≤(q:Int):=by omega
 have j5:(0:Int)≤(r:Int):=by omega
 have hx:=qK9 l[q] r hr2
 have HX:=Hh (show Stl.turnBit l bit=l.set q (l[q] ^^^ ((1:UInt8) <<< r.toUInt8)) by
  unfold Stl.turnBit
  rw [hq,hr,List.getD_eq_getElem?_getD,zM hq2]
  rfl)
 have HL:=Hh (show (l.set q (l[q] ^^^ ((1:UInt8) <<< r.toUInt8))).length=16 by simp [hl])
 have HCL:=Hh (show ∀ j,j<16→(l.set q (l[q] ^^^ ((1:UInt8) <<< r.toUInt8)))[j]?=if j=q then some (l[q] ^^^ ((1:UInt8) <<< r.toUInt8)) else l[j]? from fun j hj=>by
  rw [List.getElem?_set]
  by_cases e:j=q
  ·subst e;simp [hq2]
  ·simp [e,Ne.symm e])
 have HLQ:=Hh (show (l[q] ^^^ ((1:UInt8) <<< r.toUInt8))=l[q] ^^^ ((1:UInt8) <<< r.toUInt8) from rfl)
 generalize l.set q (l[q] ^^^ ((1:UInt8) <<< r.toUInt8))=l2 at HX HL HCL
 generalize (l[q] ^^^ ((1:UInt8) <<< r.toUInt8))=u at hx HCL HLQ
 go_region
 have HS:=Hh (show ((W1.setCell ⟨w.heap.size,q,none⟩ (.int .u8 (u.toNat:Int))).drew).heap[w.heap.size]?=_ from qAd HB1.out q (.int .u8 (u.toNat:Int)))
 have HBl2:=Hh ((HBl.out.setCell (p:=⟨w.heap.size,q,none⟩) (zr _) (.int .u8 (u.toNat:Int))).drew)
 generalize (W1.setCell ⟨w.heap.size,q,none⟩ (.int .u8 (u.toNat:Int))).drew=W2 at *
 have hcb:=run_convert_bytes_back (P:=Tryz.prog) W2 98 9 5 ⟨w.heap.size,0,none⟩ cap l2 Tryz.underlying98 Tryz.underlying5 Tryz.underlying9 (fun j hj=>by
  have hj2:j<l.length:=by rw [HL.out] at hj;omega
  have e1:(⟨w.heap.size,0,none⟩:Addr).add j=⟨w.heap.size,j,none⟩:=by unfold Addr.add;split<;>simp_all
  rw [e1,zK1 W2 _ j _ _ _ HS.out]
  have h2:=HCL.out j (by omega)
  rw [zM hj] at h2
  rw [Array.getElem?_setIfInBounds]
  by_cases e:j=q
  ·subst e
   rw [zN1 rfl] at h2
   have:j<(bytesRow ⟨l.toArray⟩ cap).size:=by omega
   simp only [zC1] at h2
   simp [this,h2]
  ·rw [zM1 e,zM hj2] at h2
   simp only [zC1] at h2
   rw [zM1 (Ne.symm e),HC.out j hj2,h2])
 rw [HL.out] at hcb
 go_wp2
 go_ret
 exact ⟨by rw [HX.out];rfl,HBl2.out⟩
end
end Go.Proofs.YthogfjmnnaoldaaGreatDoor
namespace Stl
theorem qNV (U:List Bool) (i:Nat) (h:i<U.length):qFq 0 (U.take (i+1))=qFq 0 (U.take i)++(if U[i]=true then [i] else []):=by
 rw [zq h,qDU]
 congr 1
 simp only [zx,List.length_take,Nat.min_eq_left (Nat.le_of_lt h)]
 cases U[i]<;>rfl
theorem qJI:∀ (U:List Bool) (i:Nat),(qFq i U).length≤U.length
 | [],_=>by simp [qFq]
 | true::r,i=>by have:=qJI r (i+1);simp [qFq];omega
 | false::r,i=>by have:=qJI r (i+1);simp [qFq];omega
end Stl
namespace Go.Proofs.YthogfjmnnaoldaaGreatDoor
open Go.RowKit Go.Sort Stl
section
variable {w:World} {c:Nat→Col} {b:Nat} {U:List Bool}
theorem qOu (h:SpaceAt w c b U) (hU:U.length≤1000000) :
  Calls Tryz.prog 197 #[.pointer (some ⟨b,0,none⟩)] w fun e w'=>∃ A cap,e=.returned (.slice A (ons U).length cap)∧w'.ownsRow w.heap.size 3 1 (.slice A (ons U).length cap) (ons U).length ((ons U).map qJq)∧Below w.heap.size w w':=by
 obtain ⟨v,hb,hc,hr⟩:=h
 obtain ⟨A,cap,rfl⟩:=hr.slice
 have c0:=zK1 w b 0 _ _ _ hb
 have HR:=Hh hr
 obtain ⟨i0,hi,hz0,hz1,hz2⟩:=qJK.info
 have Hi:=Hh hi
 have Hz0:=Hh hz0
 have Hz1:=Hh hz1
 have Hz2:=Hh hz2
 clear hb hr hi hz0 hz1 hz2
 go_enter Tryz.func197,Tryz.ntmps197
 go_wp2_with fail
 clear c0
 go_loopw [3,11] (fun v a wr=>∃ i:Nat,i≤U.length∧a=.int .i64 i∧Hid (wr.ownsRow w.heap.size 3 1 v (qFq 0 (U.take i)).length ((qFq 0 (U.take i)).map qJq))∧Hid (Below w.heap.size w wr)) (fun _ a _=>U.length-(intOf a).toNat)
 case atStart=>exact ⟨0,zy _,rfl,Hh (zG1 _ _ _ _),Hh (zC _ _)⟩
 case round =>
  obtain ⟨i,hi,rfl,HO,HB⟩:=hrel
  obtain ⟨A2,c2,rfl⟩:=Stl.owns_slice _ HO.out
  by_cases hil:i<U.length
  ·have i1:(i:Int)<(U.length:Int):=by omega
   have i2:(0:Int)≤(i:Int):=by omega
   obtain ⟨g,cap',e2,hg,hgl,_,_⟩:=HR.out.pos (by omega)
   simp only [zD1] at e2
   obtain ⟨rfl,_,rfl⟩:=e2
   have q0:wr.cell? ⟨g,i,none⟩=some (.bool U[i]):=by
    rw [HB.out.cell (p:=⟨g,i,none⟩) hgl,HR.out.cellAt i (by omega)]
    simp [hil]
   have HT:=Hh (qNV U i hil)
   have hle:(qFq 0 (U.take i)).length≤i:=zt (qJI _ _) (by simp;omega)
   generalize qFq 0 (U.take i)=l at *
   cases hu:U[i] with
   | true =>
    rw [hu] at q0 HT
    clear hu
    go_wp2_with (at_builtin;refine Stl.wpList_app _ rfl _ _ 158 rfl w.heap.size 3 i0 (.int .i64 0) 1 8 Tryz.underlying158 Hi.out Hz0.out Hz1.out Hz2.out rfl (by decide) _ _ _ rfl (HO.out.alloc _) (some ⟨wr.heap.size,0,none⟩) 1 1 [.int .i64 i] rfl rfl (fun h=>by cases h) (qAw _ _ _) (by simp [Value.oneCell']) (by unfold maxLen;omega) (by omega) (by have:=HB.out.size;simp;omega) ?_;intro A4 c4 w4 hown4 hgrow hat4)
    have HO4:=Hh hown4
    have HB4:=Hh (((HB.out.alloc HB.out.size (.cells #[.int .i64 i] 3))).grown hgrow (by have:=HB.out.size;simp;omega) (fun k hk=>(HO.out.lt k hk).1))
    clear hown4 hgrow hat4
    go_roundw
    case rel =>
     refine ⟨i+1,hil,by go_num,Hh ?_,HB4⟩
     rw [HT.out]
     simpa using HO4.out
    case measure=>simp [intOf];omega
   | false =>
    rw [hu] at q0 HT
    clear hu
    go_wp2
    go_roundw
    case rel =>
     refine ⟨i+1,hil,by go_num,Hh ?_,HB⟩
     rw [HT.out]
     simpa using HO.out
    case measure=>simp [intOf];omega
  ·have i1:¬ (i:Int)<(U.length:Int):=by omega
   have hT:U.take i=U:=zo (by omega)
   have HT:=Hh (show qFq 0 (U.take i)=ons U by rw [hT];rfl)
   clear hT
   go_wp2
   go_ret
   refine ⟨A2,c2,?_,?_,HB.out⟩
   ·rw [← HT.out];rfl
   ·rw [← HT.out];exact HO.out
theorem qHU (h:SpaceAt w c b U) (hU:U.length≤1000000) :
  Calls Tryz.prog 140 #[.pointer (some ⟨b,0,none⟩)] w fun e w'=>e=.returned (.int .i64 (qHb U).length)∧Below w.heap.size w w':=by
 have H:=Hh h
 obtain ⟨v,hb,hc,hr⟩:=h
 obtain ⟨A,cap,rfl⟩:=hr.slice
 have hbl:=qAa hb
 have c0:w.cell? ⟨b,0,none⟩=some (.slice A U.length cap):=zK1 w b 0 _ _ _ hb
 have hlen:(ons U).length+(qHb U).length=U.length:=qBS U 0
 clear hb hr
 go_enter Tryz.func140,Tryz.ntmps140
 go_upto_region 1 with fail
 have HD:=Hh (H.out.ext ((Ext.refl w c S0).drew) rfl rfl)
 go_region_held3 (fun w'=>w'.cell? ⟨b,0,none⟩=some (.slice A U.length cap))
  (first
   | go_keep)
  (first
   | (go_at_call 197;refine (qOu HD.out hU).mono ?_;rintro ev w2 ⟨Au,cu,rfl,hou,hbu⟩;have c0':=(hbu.cell (p:=⟨b,0,none⟩) hbl).trans c0))
 have HB:=Hh (show Below w.heap.size w w2 from ⟨hbu.os,hbu.tape,hbu.output,hbu.size,hbu.block⟩)
 clear hbu hou c0'
 have HW:=Hh (show IntKind.i64.wrap ((U.length:Int)-((ons U).length:Int))=((qHb U).length:Int) by rw [wrap_i64 (by omega) (by omega)];omega)
 go_wp2
 go_ret
 exact ⟨by rw [← HW.out];rfl,HB.out⟩
end
end Go.Proofs.YthogfjmnnaoldaaGreatDoor
namespace Stl
theorem qNr (U:List Bool) (i:Nat) (h:i<U.length):qBi 0 (U.take (i+1))=qBi 0 (U.take i)++(if U[i]=true then [] else [i]):=by
 rw [zq h,qB7]
 congr 1
 simp only [zx,List.length_take,Nat.min_eq_left (Nat.le_of_lt h)]
 cases U[i]<;>rfl
theorem qLn (U:List Bool) (i:Nat):∃ r,qHb U=qBi 0 (U.take i)++r :=
 ⟨_,by unfold qHb;conv=>lhs;rw [← List.take_append_drop i U,qB7]⟩
theorem qGW:∀ (U:List Bool) (i k:Nat),k∈qBi i U→i≤k∧k<i+U.length
 | [],_,_,h=>by simp [qBi] at h
 | true::r,i,k,h=>by have:=qGW r (i+1) k h;simp;omega
 | false::r,i,k,h=>by
  simp only [qBi,za] at h
  rcases h with rfl | h
  ·simp
  ·have:=qGW r (i+1) k h;simp;omega
theorem qCF:∀ (a b:List Nat) (U:List Bool) (v:Bool),qBl U v (a++b)=qBl (qBl U v a) v b
 | [],_,_,_=>rfl
 | x::a,b,U,v=>qCF a b (U.set x v) v
end Stl
namespace Go.Proofs.YthogfjmnnaoldaaGreatDoor
open Go.RowKit Go.Sort Stl
theorem qKG (n:Nat) (hn:n≤1000000) (w:World) :
  Calls Tryz.prog 187 #[.int .i64 n] w fun e w'=>e=.returned (.int .i64 (qAA n))∧w'=w:=by
 rcases Nat.eq_zero_or_pos n with h0 | h0
 ·subst h0
  go_enter Tryz.func187,Tryz.ntmps187
  go_wp2
  go_ret
  exact ⟨rfl,rfl⟩
 ·have i1:¬ (n:Int)<1:=by omega
  have i2:((n:Int)-1)/16+1=((qAA n:Nat):Int):=by unfold qAA;omega
  have HN:=Hh i2
  clear i2
  go_enter Tryz.func187,Tryz.ntmps187
  go_wp2
  go_ret
  exact ⟨by rw [← HN.out];rfl,rfl⟩
section
variable {w:World} {c:Nat→Col} {b:Nat} {U:List Bool}
theorem lt_of_cell {w:World} {a:Addr} {v:Value} (h:w.cell? a=some v):a.block<w.heap.size:=by
 rcases zw a.block w.heap.size with h1 | h1
 ·exact h1
 ·simp [World.cell?,Array.getElem?_eq_none h1] at h
structure SpaceV (w:World) (c:Nat→Col) (b:Nat) (v:Value) (N:Nat) (U:List Bool):Prop where
 own:w.heap[b]?=some (.cells #[v] 134 (0,0))
 col:c b=.space
 row:RowAt w c .used 4 1 v N (U.map Value.bool)
theorem SpaceV.ext {w w2:World} {c c2:Nat→Col} {S:Col→Bool} {b:Nat} {v:Value} {N:Nat} {U:List Bool} (h:SpaceV w c b v N U) (e:Ext w w2 c c2 S) (h1:S .space=false) (h2:S .used=false):SpaceV w2 c2 b v N U :=
 ⟨(e.kept h.own h.col h1).1,(e.kept h.own h.col h1).2,h.row.ext e h2⟩
theorem SpaceV.at' {w:World} {c:Nat→Col} {b:Nat} {v:Value} {N:Nat} {U:List Bool} (h:SpaceV w c b v N U) (e:U.length=N):SpaceAt w c b U:=⟨v,h.own,h.col,by rw [e];exact h.row⟩
theorem SpaceV.at {w:World} {c:Nat→Col} {b:Nat} {v:Value} {U:List Bool} (h:SpaceV w c b v U.length U):SpaceAt w c b U:=⟨v,h.own,h.col,h.row⟩
theorem qPW (h:SpaceAt w c b U) (hU:U.length≤1000000) (k:Nat) (hk:k≤(qHb U).length) :
  Calls Tryz.prog 189 #[.pointer (some ⟨b,0,none⟩),.int .i64 k] w fun e w'=>∃ A cap c2,e=.returned (.tuple #[.slice A ((qHb U).take k).length cap,.nilIface])∧Ext w w' c c2 (S1 .used)∧SpaceAt w' c2 b (qBl U true ((qHb U).take k))∧RoInts w' c2 A ((qHb U).take k)∧((qHb U).take k).length≤cap:=by
 have H:=Hh h
 have i1:¬ (k:Int)<0:=by omega
 have i2:¬ ((qHb U).length:Int)<(k:Int):=by omega
 have hlen:(ons U).length+(qHb U).length=U.length:=qBS U 0
 clear h
 go_enter Tryz.func189,Tryz.ntmps189
 go_upto_region 4 with (go_at_call 140;refine (qHU H.out hU).mono ?_;rintro ev w0 ⟨rfl,hb⟩)
 obtain ⟨v,hb',hc,hr⟩:=H.out.ext (Ext.of_below hb c S0) rfl rfl
 obtain ⟨A,cap,rfl⟩:=hr.slice
 have HS:=Hh (SpaceV.mk hb' hc hr)
 have HE0:=Hh (Ext.of_below hb c (S1 .used))
 have hws:=hb.size
 clear hb' hr hb
 go_wp2_with fail
 rw [show decide ((qHb U).length<k)=false by simpa using hk]
 go_loopw [6,7] (fun v a wr=>∃ (i:Nat) (cr:Nat→Col),i≤U.length∧(qBi 0 (U.take i)).length≤k∧a=.int .i64 i∧Hid (Ext w wr c cr (S1 .used))∧Hid (SpaceV wr cr b (.slice A U.length cap) U.length (qBl U true (qBi 0 (U.take i))))∧Hid (RowAt wr cr .free 3 1 v (qBi 0 (U.take i)).length ((qBi 0 (U.take i)).map qJq))∧Hid (∀ g,v.ownBlock=some g→w.heap.size≤g)) (fun _ a _=>U.length-(intOf a).toNat)
 case atStart=>exact ⟨0,c,zy _,zy _,rfl,HE0,HS,Hh (RowAt.nil _ _ _ _ _),Hh (fun g hg=>by simp [Value.ownBlock] at hg)⟩
 case round =>
  obtain ⟨i,cr,hi,hik,rfl,HE,HV,HO,HN⟩:=hrel
  obtain ⟨A2,c2,rfl⟩:=HO.out.slice
  by_cases hlk:(qBi 0 (U.take i)).length<k
  ·have hil:i<U.length:=by
    rcases zw i U.length with h1 | h1
    ·exact h1
    ·rw [zo h1] at hlk
     have:(qHb U).length<k:=hlk
     omega
   have i3:(i:Int)<(U.length:Int):=by omega
   have i4:(0:Int)≤(i:Int):=by omega
   have HT:=Hh (qNr U i hil)
   have HLT:=Hh (show ∀ j∈qBi 0 (U.take i),j<i from fun j hj=>by have:=qGW _ _ _ hj;simp at this;omega)
   have i5:((qBi 0 (U.take i)).length:Int)<(k:Int):=by omega
   generalize qBi 0 (U.take i)=l at *
   obtain ⟨g,cap',e2,hg,hgl,_,_⟩:=HV.out.row.pos (by omega)
   simp only [zD1] at e2
   obtain ⟨rfl,_,rfl⟩:=e2
   have c0:=zK1 wr b 0 _ _ _ HV.out.own
   have hUi:(qBl U true l)[i]?=some U[i]:=by
    rw [qEp l U true i hil,zM1 (fun hm=>by have:=HLT.out i hm;omega),zM hil]
   have q0:wr.cell? ⟨g,i,none⟩=some (.bool U[i]):=by
    rw [HV.out.row.cellAt i (by omega),zO,hUi]
    rfl
   have f0:=HV.out.row.frozenAt i
   cases hu:U[i] with
   | true =>
    rw [hu] at q0 HT
    clear hu hUi
    go_wp2
    go_roundw
    case rel =>
     refine ⟨i+1,cr,hil,?_,by go_num,HE,?_,?_,HN⟩
     ·rw [HT.out];simpa using hik
     ·rw [HT.out];simpa using HV
     ·rw [HT.out];simpa using HO
    case measure=>simp [intOf];omega
   | false =>
    rw [hu] at q0 HT
    clear hu hUi
    go_upto_region 11 with fail
    obtain ⟨h3,e3⟩:=HV.out.row.stored i (.bool true)
    have HV1:=Hh (show SpaceV (wr.setCell ⟨g,i,none⟩ (.bool true)) cr b (.slice (some ⟨g,0,none⟩) U.length cap) U.length (qBl U true (l++[i])) from
     ⟨(e3.kept HV.out.own HV.out.col rfl).1,HV.out.col,by
      rw [qCF]
      simpa [qBl,List.map_set] using h3⟩)
    have HO1:=Hh (HO.out.ext e3 rfl)
    have HE1:=Hh (HE.out.trans e3)
    clear h3 e3 c0 q0 f0
    generalize wr.setCell ⟨g,i,none⟩ (.bool true)=W1 at *
    have HEa:=Hh ((Ext.refl W1 cr S0).alloc (.cells #[.int .i64 i] 3))
    have HO2:=Hh (HO1.out.ext HEa.out rfl)
    have hkm:l.length≤1000000:=by omega
    go_wp2_with (at_builtin;refine qEv rfl _ _ 158 rfl qJK Tryz.underlying158 rfl HO2.out (some ⟨W1.heap.size,0,none⟩) 1 1 [.int .i64 i] rfl rfl (fun h=>by cases h) (qAw _ _ _) (by simp [Value.oneCell']) (by unfold maxLen;omega) (by omega) ?_;intro A4 c4 w4 hrow hext hgr hat)
    have HO4:=Hh hrow
    have HX:=Hh ((HEa.out.mono (S':=S1 .free) (fun _ _=>rfl)).trans hext)
    have HE4:=Hh (Ext.appended (HE1.out.alloc (.cells #[.int .i64 i] 3)) hgr HN.out .free)
    have HN4:=Hh (qIu hat HN.out (HE1.out.alloc (.cells #[.int .i64 i] 3)).size)
    have hT:qBi 0 (U.take (i+1))=l++[i]:=by simpa using HT.out
    have HT':=Hh hT
    clear hrow hext hat hgr hT
    go_roundw
    case rel =>
     refine ⟨i+1,_,hil,?_,by go_num,HE4,?_,?_,HN4⟩
     ·rw [HT'.out];simp;omega
     ·rw [HT'.out];exact Hh (HV1.out.ext HX.out rfl rfl)
     ·rw [HT'.out];simpa using HO4
    case measure=>simp [intOf];omega
  ·have i3:¬ ((qBi 0 (U.take i)).length:Int)<(k:Int):=by omega
   obtain ⟨r,hsp⟩:=qLn U i
   have HK:=Hh (show (qHb U).take k=qBi 0 (U.take i) by
    rw [hsp,zm (by omega),zo (by omega)])
   clear hsp
   have HKL:=Hh (show (qBi 0 (U.take i)).length=k by omega)
   generalize qBi 0 (U.take i)=l at *
   go_wp2
   go_ret2
   rw [HK.out]
   rcases HO.out.1.2 with ⟨h1,h2⟩ | ⟨g,cap2,cur,h1,_,h3,h4,h5,h6,h7⟩
   ·have:l=[]:=zI h2
    subst this
    simp only [List.length_nil,zD1] at h1
    obtain ⟨rfl,_,rfl⟩:=h1
    exact ⟨none,0,by rw [← HKL.out];rfl,cr,HE.out,HV.out.at' (qBe _ _ _),fun h=>absurd rfl h,by simpa using hlk⟩
   ·simp only [zD1] at h1
    obtain ⟨rfl,_,rfl⟩:=h1
    have hkc:k≤c2:=by omega
    have hp:=Ext.paint wr (HO.out.2 g rfl) .ro
    refine ⟨some ⟨g,0,none⟩,c2,by rw [← HKL.out];rfl,qAz cr g .ro,HE.out.recolor fun b hb _=>qEA (by have:=HN.out g rfl;omega),(HV.out.ext hp rfl rfl).at' (qBe _ _ _),fun _=>⟨g,0,rfl,qAa h3,qAl _ _ _,fun j x hx=>?_⟩,hkc⟩
    rw [zx,HO.out.cellAt j (by have:=(zN.1 hx).1;omega),zO,hx]
    rfl
end
end Go.Proofs.YthogfjmnnaoldaaGreatDoor
