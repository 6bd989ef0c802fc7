/- Texts of this claim, merged: Repeat, DiskNew, RunPure, StoNew, StoPks. -/
import Derived.Laws.CopyOwn
import Derived.Test.YthogfjmnnaoldaaGreatDoorGm44
set_option maxHeartbeats 16000000
set_option maxRecDepth 1000000
set_option linter.all false
namespace Go.Proofs.YthogfjmnnaoldaaGreatDoor
open Go.RowKit Go.Sort Stl
theorem qQe:∀ n:Nat,n≤512→bits BinOp.and IntKind.u64 (n:Int) 4294967295=(n:Int):=by decide +kernel
theorem qMX (n:Nat) (hn:n≤512) (w:World):Calls Tryz.prog 103 #[.int .u64 1,.int .u64 n] w fun e w'=>e=.returned (.tuple #[.int .u64 0,.int .u64 n])∧w'=w:=by
 have b0:bits BinOp.and IntKind.u64 0 4294967295=0:=qQe 0 (by omega)
 have b1:bits BinOp.and IntKind.u64 1 4294967295=1:=qQe 1 (by omega)
 have b2:=qQe n hn
 have d1:(n:Int)/4294967296=0:=by omega
 have d2:IntKind.u64.wrap (n:Int)=(n:Int):=by simp [IntKind.wrap,IntKind.bits,IntKind.signed];omega
 go_enter Tryz.func103,Tryz.ntmps103
 go_wp2
 go_ret2
 exact ⟨by simp,rfl⟩
theorem mul_one (n:Nat) (hn:n≤512) (w:World):Calls Tryz.prog 58 #[.int .u64 1,.int .u64 n] w fun e w'=>e=.returned (.tuple #[.int .u64 0,.int .u64 n])∧w'=w:=by
 have HM:=Hh (qMX n hn w)
 go_enter Tryz.func58,Tryz.ntmps58
 go_wp2_with (go_at_call 103;refine HM.out.mono ?_;rintro ev w2 ⟨rfl,rfl⟩)
 go_ret2
 exact ⟨rfl,rfl⟩
theorem qPy:(Tryz.prog.info? 9).map (·.size)=some 1:=by kernel_rfl
def qQx (w0 w:World) (g n m:Nat) (z:List UInt8):Prop :=
 ∃ L:List Value,w.heap[g]?=some (.cells L.toArray 9 (0,0))∧L.length=n∧L.take m=List.replicate m (encStr z)∧Below w0.heap.size w0 w
theorem qOF {n m k:Nat} {L:List Value} {v:Value} (hL:L.length=n) (ht:L.take m=List.replicate m v) (hk:m+k≤n) (hkm:k≤m):(splice L m (L.take k)).length=n∧(splice L m (L.take k)).take (m+k)=List.replicate (m+k) v:=by
 have hkl:(L.take k).length=k:=by simp;omega
 refine ⟨by rw [length_splice _ _ _ (by omega),hL],?_⟩
 have e:L.take k=List.replicate k v:=by
  have:=congrArg (List.take k) ht
  rw [List.take_take,Nat.min_eq_left hkm,List.take_replicate,Nat.min_eq_left hkm] at this
  exact this
 unfold splice
 rw [ht,e,← List.append_assoc,List.replicate_append_replicate,List.take_left' (by simp)]
theorem qK7 (z:List UInt8) (n:Nat) (h1:1≤n) (h2:n≤512) (w:World) (bx:Nat) (hbx:bx<w.heap.size) (hc:w.cell? ⟨bx,0,none⟩=some (.string ⟨z.toArray⟩)) :
  Calls Tryz.prog 34 #[.slice (some ⟨bx,0,none⟩) 1 1,.int .i64 n] w fun e w'=>e=.returned (.slice (some ⟨w.heap.size,0,none⟩) n n)∧w'.ownsRow w.heap.size 9 1 (.slice (some ⟨w.heap.size,0,none⟩) n n) n (List.replicate n (encStr z))∧Below w.heap.size w w':=by
 have i1:¬ (n:Int)<0:=by omega
 have i2:¬ (9223372036854775807:Int)<(n:Int):=by omega
 have i3:IntKind.u64.wrap (n:Int)=(n:Int):=by simp [IntKind.wrap,IntKind.bits,IntKind.signed];omega
 have HM:=Hh (mul_one n h2 w)
 obtain ⟨i0,hi,hz0,hz1,hz2⟩:=qEO.info
 obtain ⟨w1,hmk,hown,hg⟩:=run_makeSlice_full (P:=Tryz.prog) w 0 22 9 i0 (.string ByteArray.empty) 1 Tryz.underlying22 hi hz0 hz1 .i64 .i64 n (by omega) (by rw [hz2];omega) (by unfold maxLen;omega) (zy _)
 have HB1:=Hh ((zC w.heap.size w).grown hg (zr _) (fun k hk=>by cases hk))
 have hrow:∃ L:List Value,w1.heap[w.heap.size]?=some (.cells L.toArray 9 (0,0))∧L.length=n:=by
  rcases hown.2 with ⟨h3,h4⟩ | ⟨g,cap,cur,e1,_,h3,_,_,h4,_⟩
  ·omega
  ·injection e1 with e1 e2 e3
   injection e1 with e1
   injection e1 with e1
   subst e1 e3
   exact ⟨cur.toList,by simpa using h3,by simpa using h4⟩
 obtain ⟨L0,hL0,hL1⟩:=hrow
 have HL0:=Hh hL0
 have HL1:=Hh hL1
 have c0:w1.cell? ⟨bx,0,none⟩=some (.string ⟨z.toArray⟩):=(HB1.out.cell (p:=⟨bx,0,none⟩) hbx).trans hc
 have HC0:=Hh c0
 clear hi hz0 hz1 hz2 hown hg hL0 hL1 hc
 have HMIN:=Hh (show ([Value.string ⟨z.toArray⟩]:List Value).length=Nat.min 1 n by simp [Nat.min_def];omega)
 have HSRC:=Hh (show ∀ (j:Nat) (v:Value),[Value.string ⟨z.toArray⟩][j]?=some v→w1.cell? ((⟨bx,0,none⟩:Addr).add j)=some v from fun j v hj=>by
  cases j with
  | zero =>
   have e1:(⟨bx,0,none⟩:Addr).add 0=⟨bx,0,none⟩:=by unfold Addr.add;split<;>simp_all
   simp only [List.getElem?_cons_zero,zC1] at hj
   rw [e1,← hj]
   exact HC0.out
  | succ j=>simp at hj)
 have HFIT:=Hh (show 0+([Value.string ⟨z.toArray⟩]:List Value).length≤L0.length by rw [HL1.out];simp;omega)
 have HONE:=Hh (show ∀ v∈([Value.string ⟨z.toArray⟩]:List Value),v.oneCell'=true by simp [Value.oneCell'])
 obtain ⟨w2,hcp,HG2,HB2⟩:∃ w2,(Builtin.copy_ #[22,22] 3 #[.slice (some ⟨w.heap.size,0,none⟩) n n,.slice (some ⟨bx,0,none⟩) 1 1]).run Tryz.prog w1=.ok (.int .i64 1) w2∧Hid (w2.heap[w.heap.size]?=some (.cells (splice L0 0 [.string ⟨z.toArray⟩]).toArray 9 (0,0)))∧Hid (Below w.heap.size w w2):=by
  refine ⟨_,run_copy_row (P:=Tryz.prog) w1 22 22 3 9 w.heap.size 0 n n ⟨bx,0,none⟩ 1 1 L0.toArray 9 [.string ⟨z.toArray⟩] Tryz.underlying22 qPy HL0.out HMIN.out HSRC.out (by simpa using HFIT.out) HONE.out,Hh ?_,Hh (below_setRow HB1.out (zr _) _)⟩
  simpa [splice] using setRow_heap w1 w.heap.size _ _ 9 _ HL0.out
 go_enter Tryz.func34,Tryz.ntmps34
 go_upto_region 7 with (go_at_call 58;refine HM.out.mono ?_;rintro ev w2 ⟨rfl,hw2⟩;have hw3:w=w2:=hw2.symm;clear hw2;subst hw3)
 go_wp2_with fail
 have H0:=Hh (show qQx w w2 w.heap.size n 1 z from ⟨_,HG2.out,by rw [length_splice _ _ _ HFIT.out];exact HL1.out,by simp [splice,encStr],HB2.out⟩)
 clear HG2 HB2 hmk c0 hcp
 go_loopw [8] (fun a wr=>∃ m:Nat,1≤m∧m≤n∧a=.int .i64 m∧Hid (qQx w wr w.heap.size n m z)) (fun a _=>n-(intOf a).toNat)
 case atStart=>exact ⟨1,zr _,h1,rfl,H0⟩
 case round =>
  obtain ⟨m,hm1,hm2,rfl,HS⟩:=hrel
  by_cases hmn:m<n
  ·have j1:(m:Int)<(n:Int):=by omega
   have j2:(0:Int)≤(m:Int):=by omega
   have j3:(m:Int)≤(n:Int):=by omega
   obtain ⟨L,l1,l2,l3,l4⟩:=HS.out
   have HLL:=Hh l1
   have HLN:=Hh l2
   have HLT:=Hh l3
   have HLB:=Hh l4
   obtain ⟨k,hk⟩:∃ k,k=min m (n-m):=⟨_,rfl⟩
   have hkm:k≤m:=by omega
   have hkn:m+k≤n:=by omega
   have hk1:1≤k:=by omega
   have HLEN:=Hh (show (L.take k).length=Nat.min m (n-m) by show _=min m (n-m);rw [List.length_take,l2];omega)
   have HSR:=Hh (show ∀ (j:Nat) (v:Value),(L.take k)[j]?=some v→wr.cell? ((⟨w.heap.size,0,none⟩:Addr).add j)=some v from fun j v hj=>by
    have e1:(⟨w.heap.size,0,none⟩:Addr).add j=⟨w.heap.size,j,none⟩:=by unfold Addr.add;split<;>simp_all
    rw [e1,zK1 wr _ j _ _ _ l1]
    rw [List.getElem?_take] at hj
    split at hj
    ·simpa using hj
    ·cases hj)
   have HFT:=Hh (show m+(L.take k).length≤L.length by rw [List.length_take,l2];omega)
   have HON:=Hh (show ∀ v∈L.take k,v.oneCell'=true from fun v hv=>by
    have h5:L.take k=List.replicate k (encStr z):=by
     have:=congrArg (List.take k) l3
     rw [List.take_take,Nat.min_eq_left hkm,List.take_replicate,Nat.min_eq_left hkm] at this
     exact this
    rw [h5] at hv
    rw [(List.mem_replicate.1 hv).2]
    rfl)
   have HRM:=Hh (qOF (k:=k) l2 l3 hkn hkm)
   obtain ⟨X,hX⟩:∃ X,X=L.take k:=⟨_,rfl⟩
   rw [← hX] at HLEN HSR HFT HON HRM
   have HXL:=Hh (show X.length=k by rw [HLEN.out];exact hk.symm)
   have HK1:=Hh hk1
   have HKN:=Hh hkn
   clear hk hkm hkn hk1
   clear l1 l2 l3 l4 hX
   obtain ⟨w4,hcp2,HG4,HB4⟩:∃ w4,(Builtin.copy_ #[22,22] 3 #[.slice (some ⟨w.heap.size,m,none⟩) (n-m) (n-m),.slice (some ⟨w.heap.size,0,none⟩) m n]).run Tryz.prog wr.drew=.ok (.int .i64 (k:Int)) w4∧Hid (w4.heap[w.heap.size]?=some (.cells (splice L m X).toArray 9 (0,0)))∧Hid (Below w.heap.size w w4):=by
    have hrun:=run_copy_row (P:=Tryz.prog) wr.drew 22 22 3 9 w.heap.size m (n-m) (n-m) ⟨w.heap.size,0,none⟩ m n L.toArray 9 X Tryz.underlying22 qPy HLL.out HLEN.out HSR.out (by simpa using HFT.out) HON.out
    rw [HXL.out] at hrun
    refine ⟨_,hrun,Hh ?_,Hh (below_setRow HLB.out.drew (zr _) _)⟩
    simpa [splice,HXL.out] using setRow_heap wr.drew w.heap.size _ (L.take m++(X++L.drop (m+k))).toArray 9 _ HLL.out
   go_upto_region 9 with fail
   go_region
   have hwr:wrap64 ((m:Int)+(k:Int))=((m+k:Nat):Int):=by
    have:=HKN.out
    unfold wrap64
    omega
   rw [hwr]
   go_wp2
   go_roundw
   case rel =>
    exact ⟨m+k,by have:=hm1;omega,HKN.out,rfl,Hh ⟨splice L m X,HG4.out,HRM.out.1,HRM.out.2,HB4.out⟩⟩
   case measure =>
    have:=HK1.out
    have:=HKN.out
    simp [intOf]
    omega
  ·have j1:¬ (m:Int)<(n:Int):=by omega
   obtain rfl:m=n:=by omega
   go_wp2
   go_ret
   obtain ⟨L,l1,l2,l3,l4⟩:=HS.out
   refine ⟨rfl,⟨by simp,.inr ⟨w.heap.size,m,L.toArray,rfl,zr _,l1,zr _,by unfold maxLen;omega,by simpa using l2,?_⟩⟩,l4⟩
   rw [Nat.mul_one]
   exact l3
end Go.Proofs.YthogfjmnnaoldaaGreatDoor
namespace Go.Proofs.YthogfjmnnaoldaaGreatDoor
open Go.RowKit Go.Sort Go.Shelf Stl
def qNm (n:Nat) (w:World) (c:Nat→Col) (e:Ending) (w':World):Prop :=
 ∃ (b:Nat) (c2:Nat→Col),e=.returned (.tuple #[.pointer (some ⟨b,0,none⟩),.nilIface])∧Below w.heap.size w w'∧DiskAt w' c2 b (List.replicate n (List.replicate 16 0))∧∀ k,k<w.heap.size→c2 k=c k
theorem qMR (n:Nat) (h1:1≤n) (h2:n≤512) (w:World) (c:Nat→Col) :
  Calls Tryz.prog 15 #[.int .i64 n] w (qNm n w c):=by
 have i1:¬ (n:Int)<1:=by omega
 have i2:¬ (512:Int)<(n:Int):=by omega
 obtain ⟨z,hz⟩:∃ z:List UInt8,z=List.replicate 16 0:=⟨_,rfl⟩
 have HR:=Hh (show Calls Tryz.prog 35 #[.string ⟨#[0]⟩,.int .i64 16] w fun e w'=>e=.returned (.string ⟨z.toArray⟩)∧Below w.heap.size w w' from (Tryz.strings_Repeat_main ⟨#[0]⟩ 16 w (by decide) (by decide) (by decide) (by decide)).mono (by
  rintro e w' ⟨rfl,hb⟩
  exact ⟨by rw [hz];rfl,hb⟩))
 have HZ:=Hh hz
 clear hz
 go_enter Tryz.func15,Tryz.ntmps15
 go_upto_region 3 with fail
 go_wp2_with (first
  | (go_at_call 35;refine HR.out.mono ?_;rintro ev w2 ⟨rfl,hb2⟩;have HB2:=Hh hb2;clear hb2)
  | (go_at_call 34;refine (qK7 z n h1 h2 _ w2.heap.size (by simp) (zK1 _ _ 0 _ _ _ (zL1 w2 _))).mono ?_;rintro ev w4 ⟨rfl,hown,hb4⟩;have HOWN:=Hh hown;have HB4:=Hh hb4;clear hown hb4)
  | fail)
 go_ret2
 have hs2:=HB2.out.size
 have hs4:=HB4.out.size
 have hz2:(w2.alloc (.cells #[.string ⟨z.toArray⟩] 9)).heap.size=w2.heap.size+1:=by simp
 have hb24:Below w2.heap.size w2 w4:=((zC _ w2).alloc (zr _) _).trans (HB4.out.mono (by simp))
 refine ⟨w4.heap.size,qAz (qAz c (w2.heap.size+1) .diskL) w4.heap.size .disk,by simp,(HB2.out.trans (hb24.mono hs2)).alloc (by have:=hb24.size;omega) _,⟨_,zL1 w4 _,qAl _ _ _,?_⟩,fun k hk=>?_⟩
 ·have h1:w4.ownsRow (w2.heap.size+1) 9 1 (.slice (some ⟨w2.heap.size+1,0,none⟩) n n) n (List.replicate n (encStr z)):=by
   have h:=HOWN.out
   rw [hz2] at h
   exact h
  simp only [List.length_replicate,List.map_replicate]
  rw [← HZ.out]
  refine RowAt.of_owns (h1.kept (Below.toGrown ((zC _ w4).alloc (zr _) _) none) (by cases Value.ownBlock (Value.slice (some ⟨w2.heap.size+1,0,none⟩) n n)<;>simp)) (fun k hk=>?_)
  simp [Value.ownBlock] at hk
  subst hk
  rw [qAg (k:=w2.heap.size+1) (n:=w4.heap.size) (h1.lt _ rfl).2 (zr _)]
  rw [qAl]
 ·have h4:=hb24.size
  rw [qAg (n:=w2.heap.size) (by omega) h4,qAg (n:=w2.heap.size) (by omega) (by omega)]
end Go.Proofs.YthogfjmnnaoldaaGreatDoor
namespace Stl
structure qG2 (i:Nat) (s:Sto) (t:Tape):Prop where
 sto:qCo s
 disk:s.d.t.disk.length≤512
 inos:s.d.t.l.length≤200*i
 next:s.d.next≤i
 ents:s.d.l.length≤i
 off:t.off=false
 cut:t.cut=none
 len:t.b.length≤300*i
theorem qNu {n:Nat} (h:n≤512):qG2 0 (Sto.new n) ⟨[],false,none⟩ :=
 ⟨qL2 n,by show (List.replicate n _).length≤_;rw [List.length_replicate];exact h,zr _,zr _,zr _,rfl,rfl,zr _⟩
theorem qGV {i:Nat} {s:Sto} {t:Tape} (h:qG2 i s t) (hi:i≤300) {line:Bytes} (hl:line.length≤250):qG2 (i+1) (qAE s t line).2.1 (qAE s t line).2.2:=by
 have up:qG2 (i+1) s t:=⟨h.sto,h.disk,by have:=h.inos;omega,by have:=h.next;omega,by have:=h.ents;omega,h.off,h.cut,by have:=h.len;omega⟩
 unfold qAE
 cases hc:s.change line with
 | none=>exact up
 | some q =>
  cases q with
  | error e=>exact up
  | ok q =>
   obtain ⟨a,s1⟩:=q
   simp only
   rw [qCT hl h.off h.cut (by have:=h.len;omega)]
   rw [zN1 rfl]
   have hr:=qB5 hl
   have hz:=qFm hc
   show qG2 (i+1) s1 { t with b:=t.b++record line }
   refine ⟨qJc h.sto hc,by rw [hz.disk];exact h.disk,by have:=hz.inos;have:=h.inos;omega,by have:=hz.next;have:=h.next;omega,by have:=hz.ents;have:=h.ents;omega,h.off,h.cut,?_⟩
   have:=h.len
   simp only [zQ]
   omega
def kl1:Bytes:=[97,100,100,32,97,32,102,50,58,120,121]
def kl2:Bytes:=[97,100,100,32,98,32,102,50,58,35,97]
def kl3:Bytes:=[114,101,102,115,32,98]
def kl4:Bytes:=[114,101,97,100,32,97,32,47]
def qQ8 (r:Except Nat Bytes) (a:Bytes):Bool:=match r with | .ok x=>x==a | .error _=>false
theorem qFl {r:Except Nat Bytes} {a:Bytes} (h:qQ8 r a=true):r=.ok a:=by
 cases r with
 | error e=>cases h
 | ok x=>exact congrArg Except.ok (eq_of_beq h)
def kP0:Sto×Tape:=(Sto.new 8,⟨[],false,none⟩)
def kD (p:Sto×Tape) (l:Bytes):Sto×Tape:=(qAE p.1 p.2 l).2
theorem qRd:(qAE kP0.1 kP0.2 kl1).1=.ok [111,107]:=qFl (by decide +kernel)
theorem qRa:(qAE (kD kP0 kl1).1 (kD kP0 kl1).2 kl2).1=.ok [111,107]:=qFl (by decide +kernel)
theorem qQ6:(qAE (kD (kD kP0 kl1) kl2).1 (kD (kD kP0 kl1) kl2).2 kl3).1=.ok [97]:=qFl (by decide +kernel)
theorem qQ5:(qAE (kD (kD (kD kP0 kl1) kl2) kl3).1 (kD (kD (kD kP0 kl1) kl2) kl3).2 kl4).1=.ok [120,121]:=qFl (by decide +kernel)
end Stl
namespace Go.Proofs.YthogfjmnnaoldaaGreatDoor
open Go.RowKit Go.Sort Go.Shelf Stl
def qNg (n:Nat) (w:World) (c:Nat→Col) (e:Ending) (w':World):Prop :=
 ∃ (b tp:Nat) (c2:Nat→Col),e=.returned (.tuple #[.pointer (some ⟨b,0,none⟩),.nilIface])∧w.heap.size≤b∧Ext w w' c c2 S0∧StoAt w' c2 b (Sto.new n) tp∧TapeAt w' c2 tp ⟨[],false,none⟩
theorem qIt (n:Nat) (h1:1≤n) (h2:n≤512) (w:World) (c:Nat→Col) :
  Calls Tryz.prog 6 #[.int .i64 n] w (qNg n w c):=by
 have HDK:=Hh (qMR n h1 h2 w c)
 go_enter Tryz.func6,Tryz.ntmps6
 go_upto_region 4 with (go_at_call 15;refine HDK.out.mono ?_;rintro ev w1 ⟨b1,c1,rfl,hb1,hd1,hc1⟩;have HB1:=Hh hb1;have HD1:=Hh hd1;have HC1:=Hh hc1;have HTN:=Hh (qOg hd1 (by rw [List.length_replicate];exact h1) (by rw [List.length_replicate];exact h2));clear hb1 hd1 hc1)
 go_upto_region 7 with (go_at_call 16;refine HTN.out.mono ?_;rintro ev w2 ⟨b2,c2,rfl,hb2,ht2,hc2⟩;have HB2:=Hh hb2;have HC2:=Hh hc2;have HDN:=Hh (qOf ht2);clear hb2 ht2 hc2)
 go_upto_region 10 with (go_at_call 17;refine HDN.out.mono ?_;rintro ev w3 ⟨b3,c3,rfl,hb3,hd3,hc3⟩;have HB3:=Hh hb3;have HD3:=Hh hd3;have HC3:=Hh hc3;clear hb3 hd3 hc3)
 have HTP:=Hh (qM0 [] (by simp) w3 c3)
 go_upto_region 13 with (go_at_call 18;refine HTP.out.mono ?_;rintro ev w4 ⟨b4,c4,rfl,hge4,he4,ht4⟩;have HE4:=Hh he4;have HT4:=Hh ht4;clear he4 ht4)
 have HB3':=Hh ((HB1.out.trans (HB2.out.mono HB1.out.size)).trans (HB3.out.mono (HB1.out.trans (HB2.out.mono HB1.out.size)).size))
 have e4:Ext w w4 c c4 S0:=((Ext.of_below HB3'.out c S0).recolor (fun k hk _=>(HC3.out k (zv hk (HB1.out.trans (HB2.out.mono HB1.out.size)).size)).trans ((HC2.out k (zv hk HB1.out.size)).trans (HC1.out k hk)))).trans HE4.out
 have HE:=Hh e4
 have HD4:=Hh (HD3.out.ext HE4.out rfl (fun _ _=>rfl))
 clear e4
 go_wp2
 go_ret2
 have ho:=zL1 w4 (.cells #[.pointer (some ⟨b3,0,none⟩),.slice none 0 0,.slice none 0 0,.pointer (some ⟨b4,0,none⟩)] 64)
 have em:=Ext.made w4 c4 S0 (.cells #[.pointer (some ⟨b3,0,none⟩),.slice none 0 0,.slice none 0 0,.pointer (some ⟨b4,0,none⟩)] 64) .sto
 refine ⟨_,_,_,rfl,HE.out.size,HE.out.trans em,?_,HT4.out.ext em rfl rfl⟩
 exact StoX.shut (zs:=[]) (A:=none) (cap:=0) (R:=none) (rc:=0) ⟨ho,qAl _ _ _,HD4.out.ext em rfl (fun _ _=>rfl),RowAt.nil _ _ _ _ _,rfl,by simp,RowAt.nil _ _ _ _ _⟩
section
variable {w:World} {A:Option Addr} {zs:List PkX} {c:Nat→Col} {b:Nat} {s:Sto} {bd:Nat} {cap:Nat} {R:Option Addr} {rc tp:Nat} {p:Nat→Addr}
theorem qNt (h:StoX w c b s bd A cap zs R rc tp) (hr:s.roots.length≤1000000) :
  Calls Tryz.prog 12 #[.pointer (some ⟨b,0,none⟩)] w (qFR s.roots w):=by
 have c2:w.cell? ⟨b,2,none⟩=some (.slice R s.roots.length rc):=zK1 w b 2 _ _ _ h.own
 have HCL:=Hh (qEc (qBG h.roots.1) hr)
 clear h
 go_enter Tryz.func12,Tryz.ntmps12
 go_wp2_with (go_at_call 31;refine HCL.out.mono ?_;rintro ev w1 ⟨A1,cap1,rfl,hr1,hb1⟩;have HR1:=Hh hr1;have HB1:=Hh hb1;clear hr1 hb1)
 go_ret
 exact ⟨A1,cap1,rfl,HR1.out,HB1.out⟩
end
theorem qJ8 {α β:Type} (F:α→Except Nat β):∀ (l:List α) (ms:List β),ms.map Except.ok=l.map F→l.mapM (fun p=>(F p).map fun n=>(p,n))=.ok (l.zip ms)
 | [],ms,h=>by
  have:ms=[]:=by simpa using h
  subst this
  rfl
 | x::r,[],h=>by simp at h
 | x::r,m::ms,h=>by
  simp only [zX,zE] at h
  rw [List.mapM_cons,← h.1,qJ8 F r ms h.2]
  rfl
theorem qHX {α β:Type} (F:α→Except Nat β):∀ (l:List α) (ms:List β) (i:Nat) (x:α) (cd:Nat),ms.map Except.ok=(l.take i).map F→l[i]?=some x→F x=.error cd→l.mapM (fun p=>(F p).map fun n=>(p,n))=.error cd
 | [],_,_,_,_,_,h,_=>by simp at h
 | y::r,ms,0,x,cd,_,h,he=>by
  simp only [List.getElem?_cons_zero,zC1] at h
  subst h
  rw [List.mapM_cons,he]
  rfl
 | y::r,[],i+1,x,cd,h,_,_=>by simp at h
 | y::r,m::ms,i+1,x,cd,h,h2,he=>by
  simp only [List.take_succ_cons,zX,zE] at h
  rw [List.mapM_cons,← h.1,qHX F r ms i x cd h.2 (by simpa using h2) he]
  rfl
theorem qOP {α:Type} {l:List α} {i:Nat} {x:α} (h:l[i]?=some x):l.set i x=l:=by
 obtain ⟨h1,rfl⟩:=zN.1 h
 exact List.set_getElem_self h1
def PX.node (y:PX):List Value:=[.string y.t0,.string y.t1,.bool y.t2,.slice y.t3 y.t4 y.t5]
def PX.with (y:PX) (a0 a1:ByteArray) (a2:Bool) (A:Option Addr) (m c:Nat):PX:={ y with t0:=a0,t1:=a1,t2:=a2,t3:=A,t4:=m,t5:=c }
theorem qHZ:∀ (zs:List PX) (i:Nat) (h:i<zs.length) (a0 a1:ByteArray) (a2:Bool) (A:Option Addr) (m c:Nat),
  ((((zs.flatMap qBK).set (i*6+2) (.string a0)).set (i*6+2+1) (.string a1)).set (i*6+2+2) (.bool a2)).set (i*6+2+3) (.slice A m c)=(zs.set i (zs[i].with a0 a1 a2 A m c)).flatMap qBK
 | [],_,h,_,_,_,_,_,_=>by simp at h
 | x::r,0,_,a0,a1,a2,A,m,c=>by simp [qBK,PX.with,List.set]
 | x::r,i+1,h,a0,a1,a2,A,m,c=>by
  have h1:=qHZ r i (by simpa using h) a0 a1 a2 A m c
  have hl:(qBK x).length=6:=rfl
  simp only [List.flatMap_cons,List.set_cons_succ,List.getElem_cons_succ]
  rw [List.set_append_right _ _ (by rw [hl];omega),List.set_append_right _ _ (by rw [hl];omega),List.set_append_right _ _ (by rw [hl];omega),List.set_append_right _ _ (by rw [hl];omega),hl]
  rw [show (i+1)*6+2-6=i*6+2 by omega,show (i+1)*6+2+1-6=i*6+2+1 by omega,show (i+1)*6+2+2-6=i*6+2+2 by omega,show (i+1)*6+2+3-6=i*6+2+3 by omega,h1]
structure PtAt (w:World) (c:Nat→Col) (A:Option Addr) (ys:List PX) (m:List (Pk×Nd)):Prop where
 row:ys≠[]→∃ g,A=some ⟨g,0,none⟩∧g<w.heap.size∧c g=.ro∧∀ (j:Nat) u,(ys.flatMap qBK)[j]?=some u→w.cell? ⟨g,j,none⟩=some u
 refs:∀ y∈ys,y.p.refs.length≤y.cap∧RoStrs w c y.a y.p.refs
 eq:ys.map (·.p)=m.map (·.1)
 node:∀ (j:Nat) y q,ys[j]?=some y→m[j]?=some q→RoNode w c q.2 y.node
theorem PtAt.ext {w w2:World} {c c2:Nat→Col} {S:Col→Bool} {A:Option Addr} {ys:List PX} {m:List (Pk×Nd)} (h:PtAt w c A ys m) (e:Ext w w2 c c2 S) (h1:S .ro=false):PtAt w2 c2 A ys m :=
 ⟨fun hn=>by
  obtain ⟨g,ha,hg,hc,hj⟩:=h.row hn
  exact ⟨g,ha,zv hg e.size,e.col hg hc h1,fun j u hu=>(zE1 (w:=w) (a:=⟨g,j,none⟩) (e.keep g hg (by rw [hc];exact h1)).1).trans (hj j u hu)⟩,
  fun y hy=>⟨(h.refs y hy).1,(h.refs y hy).2.ext e h1⟩,h.eq,fun j y q hy hq=>(h.node j y q hy hq).ext e h1⟩
def qQG (w:World) (c:Nat→Col):Nat→Col:=fun k=>if k<w.heap.size then c k else .ro
theorem qIQ {w w2:World} (c:Nat→Col) (S:Col→Bool) (hb:Below w.heap.size w w2):Ext w w2 c (qQG w c) S:=(Ext.of_below hb c S).recolor fun _ hk _=>zN1 hk
def qPX (p:Nat→Addr) (w:World) (c:Nat→Col) (r:Except Nat (List (Pk×Nd))) (e:Ending) (w':World):Prop :=
 ∃ (v er:Value),e=.returned (.tuple #[v,er])∧Below w.heap.size w w' ∧
  match r with
  | .error cd=>er=qAN p cd∧cd≠0
  | .ok m=>er=.nilIface∧∃ (A:Option Addr) (ys:List PX) (cap:Nat),v=.slice A m.length cap∧m.length≤cap∧PtAt w' (qQG w c) A ys m
structure qRf (w w2 wr:World) (c:Nat→Col) (s:Sto) (g:Nat) (A:Option Addr) (cap:Nat) (zs0 zs:List PX) (i:Nat) (ms:List Nd):Prop where
 below:Below w.heap.size w wr
 size:w2.heap.size≤wr.heap.size
 keep:∀ k,k<w2.heap.size→k≠g→wr.heap[k]?=w2.heap[k]?
 row:wr.ownsRow w.heap.size 47 6 (.slice A zs.length cap) zs.length (zs.flatMap qBK)
 eq:zs.map (fun y=>(y.p,y.a,y.cap))=zs0.map (fun y=>(y.p,y.a,y.cap))
 got:ms.map Except.ok=(s.l.take i).map fun q=>s.d.get q.k
 node:∀ (j:Nat) y n,zs[j]?=some y→ms[j]?=some n→NodeP (fun k=>(k<w.heap.size∧c k=.ro)∨w2.heap.size≤k) wr n y.node
theorem NodeP.sets {P:Nat→Prop} {w:World} {n:Nd} {vs:List Value} {x o0 o1 o2 o3:Nat} {u0 u1 u2 u3:Value} (h:NodeP P w n vs) (hP:∀ b,P b→b≠x):NodeP P ((((w.setCell ⟨x,o0,none⟩ u0).setCell ⟨x,o1,none⟩ u1).setCell ⟨x,o2,none⟩ u2).setCell ⟨x,o3,none⟩ u3) n vs :=
 NodeP.go (by simp [World.setCell]) (fun b _ hp=>⟨by
  rw [zB _ ⟨x,o3,none⟩ _ b (hP b hp),zB _ ⟨x,o2,none⟩ _ b (hP b hp),zB _ ⟨x,o1,none⟩ _ b (hP b hp),zB _ ⟨x,o0,none⟩ _ b (hP b hp)],hp⟩) n vs h
section
variable {w:World} {A:Option Addr} {zs:List PkX} {c:Nat→Col} {b:Nat} {s:Sto} {bd:Nat} {cap:Nat} {R:Option Addr} {rc tp:Nat} {p:Nat→Addr}
theorem qIg (h:StoX w c b s bd A cap zs R rc tp) (hg:qAX s) (hE:Env w c p) :
  Calls Tryz.prog 9 #[.pointer (some ⟨b,0,none⟩)] w (qPX p w c s.packs):=by
 have hfew:=h.few hg.ok
 have hrf:=h.fewRefs hg.ok
 have H:=Hh h
 have HG:=Hh hg
 have HE:=Hh hE
 have HPS:=Hh (show s.packs=s.l.mapM (fun q=>(s.d.get q.k).map fun n=>(q,n)) from rfl)
 generalize s.packs=res at HPS ⊢
 have HPK:=Hh (qFJ h (by omega) (fun x hx=>by have:=hrf x hx;omega))
 obtain ⟨c',hc'⟩:∃ c':Nat→Col,c'=fun k=>if k<w.heap.size then c k else .free:=⟨_,rfl⟩
 have HCO:=Hh (show ∀ k,c' k=.ro→k<w.heap.size∧c k=.ro from fun k hk=>by
  rw [hc'] at hk
  have hk:(if k<w.heap.size then c k else Col.free)=.ro:=hk
  by_cases hl:k<w.heap.size
  ·rw [zN1 hl] at hk;exact ⟨hl,hk⟩
  ·rw [zM1 hl] at hk;cases hk)
 have he0:Ext w w c c' S0:=(Ext.refl w c S0).recolor fun k hk _=>by rw [hc'];exact zN1 hk
 have HX0:=Hh (h.ext he0 rfl (fun _ _=>rfl))
 have HE0:=Hh (hE.ext he0 rfl)
 clear h hg hE hc' he0 hrf
 go_enter Tryz.func9,Tryz.ntmps9
 go_upto_region 3 with (go_at_call 24;refine HPK.out.mono ?_;rintro ev w2 ⟨A2,cap2,ys,rfl,hcap2,hys,hr2,hrr2,hz2,hb2⟩;have HB2:=Hh hb2;have HYS:=Hh hys;have HR2:=Hh hr2;have HRR2:=Hh hrr2;clear hb2 hys hr2 hrr2 hz2)
 have hyl:ys.length=s.l.length:=by have:=congrArg List.length HYS.out;simpa using this
 obtain ⟨g,hga⟩:∃ g,ys≠[]→A2=some ⟨g,0,none⟩∧w.heap.size≤g∧g<w2.heap.size:=by
  rcases HR2.out.2 with ⟨_,h0⟩ | ⟨g,cp,cur,e,h5,h6,_⟩
  ·exact ⟨0,fun hn=>absurd (zT.1 h0) hn⟩
  ·injection e with e1 _ _
   exact ⟨g,fun _=>⟨e1,h5,qAa h6⟩⟩
 have HGA:=Hh hga
 have HZ0:=Hh (show qRf w w2 w2 c s g A2 cap2 ys ys 0 [] from ⟨HB2.out,zr _,fun _ _ _=>rfl,HR2.out,rfl,rfl,fun j y n _ h=>by simp at h⟩)
 have hys40:ys.length≤40:=by rw [hyl];exact HG.out.ok.pks.many
 have HYL:=Hh hyl
 clear hga hyl
 go_loopw [12] (fun a wr=>∃ (i:Nat) (zs1:List PX) (ms:List Nd),a=.int .i64 i∧i≤ys.length∧zs1.length=ys.length∧ms.length=i∧Hid (qRf w w2 wr c s g A2 cap2 ys zs1 i ms)) (fun a _=>ys.length-(intOf a).toNat)
 case atStart=>exact ⟨0,ys,[],rfl,zy _,rfl,rfl,HZ0⟩
 case round =>
  obtain ⟨i,zs1,ms,rfl,hi,hzl,hml,HS⟩:=hrel
  by_cases hil:i<ys.length
  ·have i1:(i:Int)<(ys.length:Int):=by omega
   have i2:(0:Int)≤(i:Int):=by omega
   obtain ⟨rfl,hwg,hgw2⟩:=HGA.out (by intro e;rw [e] at hil;simp at hil)
   have hzi:i<zs1.length:=by omega
   have hsi:i<s.l.length:=by rw [← HYL.out];exact hil
   have hpe:zs1[i].p=s.l[i]:=by
    have h1:=congrArg (fun l:List (Pk×Option Addr×Nat)=>(l[i]?).map (·.1)) HS.out.eq
    simp only [zO,zM hzi,zM hil,zB1,zC1] at h1
    have h2:=congrArg (fun l:List Pk=>l[i]?) HYS.out
    simp only [zO,zM hil,zM hsi,zB1,zC1] at h2
    rw [h1,h2]
   have q0:wr.cell? ⟨g,i*6,none⟩=some (.string ⟨s.l[i].name.toArray⟩):=by
    have h1:=HS.out.row.cellAt (i*6+0) (by omega)
    rw [qBm zs1 i hzi 0 (by omega)] at h1
    rw [← hpe]
    simpa [qBK] using h1
   have htr:s.tree s.l[i].name=s.d.get s.l[i].k:=by
    unfold Sto.tree
    cases hf:s.find s.l[i].name with
    | none =>
     have h1:=(qBX (l:=s.l) (s:=s.l[i].name)).2 (zf.2 ⟨_,zP hsi,rfl⟩)
     have hf':(s.l.find? fun p=>p.name==s.l[i].name)=none:=hf
     rw [hf'] at h1
     cases h1
    | some q =>
     obtain ⟨h1,h2⟩:=qBZ hf
     rw [qAQ (fun z:Pk=>z.name) HG.out.ok.pks.names h1 (zP hsi) h2]
   have HTR:=Hh (qKn (p:=p) ((HX0.out.below HS.out.below)) HG.out (HE0.out.below HS.out.below) s.l[i].name)
   rw [htr] at HTR
   have HSI:=Hh (show s.l[i]?=some s.l[i] from zM hsi)
   have HTK:=Hh (show s.l.take (i+1)=s.l.take i++[s.l[i]] from zq hsi)
   have HZI:=Hh (zM hzi)
   have HPE:=Hh hpe
   clear htr hpe
   generalize s.l[i]=q at *
   cases hgt:s.d.get q.k with
   | error cd =>
    rw [hgt] at HTR
    have HRS:=Hh (show res=.error cd from HPS.out.trans (qHX (fun q=>s.d.get q.k) s.l ms i q cd HS.out.got HSI.out hgt))
    clear hgt
    go_upto_region 6 with (go_at_call 25;refine HTR.out.mono ?_;rintro ev w4 ⟨hb4,a0,a1,a2,A4,m4,cp4,er,rfl,rfl,hcd⟩;have HB4:=Hh (HS.out.below.trans (hb4.mono HS.out.below.size));have HEO:=Hh (qAc p hcd);have HCD:=Hh hcd;clear hb4 hcd)
    have HB5:=Hh (HB4.out.alloc HB4.out.size (.cells #[.string a0,.string a1,.bool a2,.slice A4 m4 cp4] 45))
    rw [HEO.out]
    clear q0
    go_wp2
    go_ret2
    rw [HRS.out]
    exact ⟨_,_,rfl,HB5.out,by rw [HEO.out];rfl,HCD.out⟩
   | ok n =>
    rw [hgt] at HTR
    have HGT:=Hh hgt
    clear hgt
    go_upto_region 6 with (go_at_call 25;refine HTR.out.mono ?_;rintro ev w4 ⟨hb4,a0,a1,a2,A4,m4,cp4,er,rfl,rfl,hn4⟩;have HB4:=Hh hb4;have HN4:=Hh hn4;clear hb4 hn4)
    have hb5:=HB4.out.alloc HB4.out.size (.cells #[.string a0,.string a1,.bool a2,.slice A4 m4 cp4] 45)
    have HY5:=Hh (zL1 w4 (.cells #[.string a0,.string a1,.bool a2,.slice A4 m4 cp4] 45))
    have HB45:=Hh ((zC w4.heap.size w4).alloc (zr _) (.cells #[.string a0,.string a1,.bool a2,.slice A4 m4 cp4] 45))
    have HBr5:=Hh hb5
    clear hb5 q0
    go_upto_region 8 with fail
    generalize w4.alloc (.cells #[.string a0,.string a1,.bool a2,.slice A4 m4 cp4] 45)=w5 at *
    have n0:w5.cell? ⟨w4.heap.size,0,none⟩=some (.string a0):=zK1 w5 _ 0 _ _ _ HY5.out
    have n1:w5.cell? ⟨w4.heap.size,1,none⟩=some (.string a1):=zK1 w5 _ 1 _ _ _ HY5.out
    have n2:w5.cell? ⟨w4.heap.size,2,none⟩=some (.bool a2):=zK1 w5 _ 2 _ _ _ HY5.out
    have n3:w5.cell? ⟨w4.heap.size,3,none⟩=some (.slice A4 m4 cp4):=zK1 w5 _ 3 _ _ _ HY5.out
    have hr5:=qDj HS.out.row HBr5.out
    have HR5:=Hh hr5
    have e0:=(hr5.cellAt (i*6+2) (by omega)).trans (qBm zs1 i hzi 2 (by omega))
    have e1:=(hr5.cellAt (i*6+3) (by omega)).trans (qBm zs1 i hzi 3 (by omega))
    have e2:=(hr5.cellAt (i*6+4) (by omega)).trans (qBm zs1 i hzi 4 (by omega))
    have e3:=(hr5.cellAt (i*6+5) (by omega)).trans (qBm zs1 i hzi 5 (by omega))
    generalize zs1[i]=y at *
    have g0:w5.cell? ⟨g,i*6+2,none⟩=some (.string y.t0):=e0
    have g1:w5.cell? ⟨g,i*6+2+1,none⟩=some (.string y.t1):=e1
    have g2:w5.cell? ⟨g,i*6+2+2,none⟩=some (.bool y.t2):=e2
    have g3:w5.cell? ⟨g,i*6+2+3,none⟩=some (.slice y.t3 y.t4 y.t5):=e3
    have f0:w5.frozen? ⟨g,i*6+2,none⟩=false:=hr5.frozenAt _
    have f1:w5.frozen? ⟨g,i*6+2+1,none⟩=false:=hr5.frozenAt _
    have f2:w5.frozen? ⟨g,i*6+2+2,none⟩=false:=hr5.frozenAt _
    have f3:w5.frozen? ⟨g,i*6+2+3,none⟩=false:=hr5.frozenAt _
    have hne:w4.heap.size≠g:=by have:=HS.out.size;have:=HB4.out.size;omega
    clear e0 e1 e2 e3 hr5
    have HNX:=Hh (show qRf w w2 ((((w5.setCell ⟨g,i*6+2,none⟩ (.string a0)).setCell ⟨g,i*6+2+1,none⟩ (.string a1)).setCell ⟨g,i*6+2+2,none⟩ (.bool a2)).setCell ⟨g,i*6+2+3,none⟩ (.slice A4 m4 cp4)) c s g (some ⟨g,0,none⟩) cap2 ys (zs1.set i (y.with a0 a1 a2 A4 m4 cp4)) (i+1) (ms++[n]) from by
     have hbw:=HS.out.below.trans (HBr5.out.mono HS.out.below.size)
     have hsz:((((w5.setCell ⟨g,i*6+2,none⟩ (.string a0)).setCell ⟨g,i*6+2+1,none⟩ (.string a1)).setCell ⟨g,i*6+2+2,none⟩ (.bool a2)).setCell ⟨g,i*6+2+3,none⟩ (.slice A4 m4 cp4)).heap.size=w5.heap.size:=by simp [World.setCell]
     have hPg:∀ k,((k<w.heap.size∧c k=.ro)∨w2.heap.size≤k)→k≠g:=fun k hk=>by rcases hk with ⟨h1,_⟩ | h1<;>omega
     refine ⟨(((hbw.setCell (p:=⟨g,i*6+2,none⟩) hwg _).setCell (p:=⟨g,i*6+2+1,none⟩) hwg _).setCell (p:=⟨g,i*6+2+2,none⟩) hwg _).setCell (p:=⟨g,i*6+2+3,none⟩) hwg _,?_,fun k hk hkg=>?_,?_,?_,?_,fun j y' n' hy' hn'=>?_⟩
     ·rw [hsz];exact zt HS.out.size HBr5.out.size
     ·rw [zB _ ⟨g,i*6+2+3,none⟩ _ k hkg,zB _ ⟨g,i*6+2+2,none⟩ _ k hkg,zB _ ⟨g,i*6+2+1,none⟩ _ k hkg,zB _ ⟨g,i*6+2,none⟩ _ k hkg]
      exact (HBr5.out.block k (zv hk HS.out.size)).trans (HS.out.keep k hk hkg)
     ·have h1:=((((HR5.out.stored (i*6+2) (.string a0)).1.stored (i*6+2+1) (.string a1)).1.stored (i*6+2+2) (.bool a2)).1.stored (i*6+2+3) (.slice A4 m4 cp4)).1
      have hy:zs1[i]'hzi=y:=by have:=HZI.out;rw [zM hzi] at this;injection this
      rw [qHZ zs1 i hzi,hy] at h1
      rw [List.length_set]
      exact h1
     ·rw [List.map_set,← HS.out.eq]
      have h1:(zs1.map fun y=>(y.p,y.a,y.cap))[i]?=some (y.p,y.a,y.cap):=by rw [zO,HZI.out];rfl
      exact qOP h1
     ·rw [HTK.out,zW,zW,HS.out.got]
      simp [HGT.out]
     ·have hms:ms.length=i:=hml
      by_cases hji:j=i
      ·subst hji
       rw [List.getElem?_set_self (by omega)] at hy'
       rw [List.getElem?_append_right (by omega),hms,Nat.sub_self] at hn'
       simp only [List.getElem?_cons_zero,zC1] at hy' hn'
       subst hy' hn'
       refine NodeP.sets ?_ hPg
       exact NodeP.go HB45.out.size (fun k hk hp=>⟨HB45.out.block k hk,by
        rcases hp with hp | hp
        ·exact .inl (HCO.out k hp)
        ·exact .inr (zt HS.out.size hp)⟩) _ _ HN4.out
      ·have hjl:j<ms.length:=by
        have:=(zN.1 hn').1
        simp at this
        omega
       rw [List.getElem?_set_ne (fun e=>hji e.symm)] at hy'
       rw [List.getElem?_append_left hjl] at hn'
       refine NodeP.sets ?_ hPg
       exact NodeP.go HBr5.out.size (fun k hk hp=>⟨HBr5.out.block k hk,hp⟩) _ _ (HS.out.node j y' n' hy' hn'))
    go_wp2
    go_roundw
    case rel=>exact ⟨i+1,_,_,by go_num,hil,by rw [List.length_set];exact hzl,by simp [hml],HNX⟩
    case measure=>simp [intOf];omega
  ·have i1:¬ (i:Int)<(ys.length:Int):=by omega
   obtain rfl:i=ys.length:=by omega
   have HRS:=Hh (show res=.ok (s.l.zip ms) from HPS.out.trans (qJ8 (fun q=>s.d.get q.k) s.l ms (by have:=HS.out.got;rw [HYL.out,zn] at this;exact this)))
   go_wp2
   go_ret2
   rw [HRS.out]
   have hml2:s.l.length=ms.length:=by rw [hml];exact HYL.out.symm
   have hzlen:(s.l.zip ms).length=ys.length:=by rw [List.length_zip,← hml2,Nat.min_self];exact HYL.out.symm
   have hzp:zs1.map (·.p)=s.l:=by
    rw [← HYS.out]
    have h1:=congrArg (List.map (fun q:Pk×Option Addr×Nat=>q.1)) HS.out.eq
    simpa [zY,Function.comp_def] using h1
   refine ⟨_,_,rfl,HS.out.below,rfl,A2,zs1,cap2,?_,by rw [hzlen];exact hcap2,⟨fun hn=>?_,fun y hy=>?_,?_,fun j y q hy hq=>?_⟩⟩
   ·rw [hzlen];rfl
   ·obtain ⟨h1,h2,h3⟩:=HGA.out (fun e=>hn (zI (by rw [hzl,e];rfl)))
    subst h1
    refine ⟨g,rfl,zv h3 HS.out.size,zM1 (by omega),fun j u hu=>?_⟩
    have hj:=(zN.1 hu).1
    rw [qCb] at hj
    rw [HS.out.row.cellAt j hj,hu]
   ·have h1:(y.p,y.a,y.cap)∈ys.map fun y=>(y.p,y.a,y.cap):=by rw [← HS.out.eq];exact zf.2 ⟨y,hy,rfl⟩
    obtain ⟨y0,hy0,he⟩:=zf.1 h1
    simp only [Prod.mk.injEq] at he
    obtain ⟨e1,e2,e3⟩:=he
    obtain ⟨r1,r2⟩:=HRR2.out y0 hy0
    rw [e1,e3] at r1
    rw [e1,e2,e3] at r2
    refine ⟨r1,qPv (base:=w.heap.size) (cap:=y.cap) ?_ (fun k hk=>zM1 (Nat.not_lt.2 hk))⟩
    refine ⟨r2.1,?_⟩
    rcases r2.2 with h2 | ⟨g',cp,cur,e,h5,h6,h7⟩
    ·exact .inl h2
    ·refine .inr ⟨g',cp,cur,e,h5,(HS.out.keep g' (qAa h6) ?_).trans h6,h7⟩
     intro eg
     rcases qGs r2 HR2.out (by decide) with h8 | h8
     ·rw [e] at h8;cases h8
     ·obtain ⟨h9,_,_⟩:=HGA.out (fun en=>by rw [en] at hy0;cases hy0)
      rw [e,h9,eg] at h8
      exact h8 rfl
   ·rw [List.map_fst_zip (by omega)]
    exact hzp
   ·obtain ⟨_,h2⟩:=List.getElem?_zip_eq_some.1 hq
    exact NodeP.go (zr _) (fun k hk hp=>⟨rfl,by
     show (if k<w.heap.size then c k else Col.ro)=.ro
     rcases hp with ⟨h1,h3⟩ | h1
     ·rw [zN1 h1];exact h3
     ·rw [zM1 (by have:=HB2.out.size;omega)]⟩) _ _ (HS.out.node j y q.2 hy h2)
end
end Go.Proofs.YthogfjmnnaoldaaGreatDoor
