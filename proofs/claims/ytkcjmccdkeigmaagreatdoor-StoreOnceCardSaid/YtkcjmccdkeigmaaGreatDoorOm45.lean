/- Texts of this claim, merged: Repeat, DiskNew, RunPure, StoNew, LawLines, LawKept, Two. -/
import Derived.Laws.AppendOwnNone
import Derived.Laws.CopyOwn
import Derived.Test.YtkcjmccdkeigmaaGreatDoorOm44
set_option maxHeartbeats 16000000
set_option maxRecDepth 1000000
set_option linter.all false
namespace Go.Proofs.YtkcjmccdkeigmaaGreatDoor
open Go.RowKit Go.Sort Stl
theorem qQb:∀ n:Nat,n≤512→bits BinOp.and IntKind.u64 (n:Int) 4294967295=(n:Int):=by decide +kernel
theorem qM7 (n:Nat) (hn:n≤512) (w:World):Calls Tryz.prog 99 #[.int .u64 1,.int .u64 n] w fun e w'=>e=.returned (.tuple #[.int .u64 0,.int .u64 n])∧w'=w:=by
 have b0:bits BinOp.and IntKind.u64 0 4294967295=0:=qQb 0 (by omega)
 have b1:bits BinOp.and IntKind.u64 1 4294967295=1:=qQb 1 (by omega)
 have b2:=qQb n hn
 have d1:(n:Int)/4294967296=0:=by omega
 have d2:IntKind.u64.wrap (n:Int)=(n:Int):=by simp [IntKind.wrap,IntKind.bits,IntKind.signed];omega
 go_enter Tryz.func99,Tryz.ntmps99
 go_wp2
 go_ret2
 exact ⟨by simp,rfl⟩
theorem mul_one (n:Nat) (hn:n≤512) (w:World):Calls Tryz.prog 57 #[.int .u64 1,.int .u64 n] w fun e w'=>e=.returned (.tuple #[.int .u64 0,.int .u64 n])∧w'=w:=by
 have HM:=Hh (qM7 n hn w)
 go_enter Tryz.func57,Tryz.ntmps57
 go_wp2_with (go_at_call 99;refine HM.out.mono ?_;rintro ev w2 ⟨rfl,rfl⟩)
 go_ret2
 exact ⟨rfl,rfl⟩
theorem qPG:(Tryz.prog.info? 9).map (·.size)=some 1:=by kernel_rfl
def qQP (w0 w:World) (g n m:Nat) (z:List UInt8):Prop :=
 ∃ L:List Value,w.heap[g]?=some (.cells L.toArray 9 (0,0))∧L.length=n∧L.take m=List.replicate m (encStr z)∧Below w0.heap.size w0 w
theorem qOZ {n m k:Nat} {L:List Value} {v:Value} (hL:L.length=n) (ht:L.take m=List.replicate m v) (hk:m+k≤n) (hkm:k≤m):(splice L m (L.take k)).length=n∧(splice L m (L.take k)).take (m+k)=List.replicate (m+k) v:=by
 have hkl:(L.take k).length=k:=by simp;omega
 refine ⟨by rw [length_splice _ _ _ (by omega),hL],?_⟩
 have e:L.take k=List.replicate k v:=by
  have:=congrArg (List.take k) ht
  rw [List.take_take,Nat.min_eq_left hkm,List.take_replicate,Nat.min_eq_left hkm] at this
  exact this
 unfold splice
 rw [ht,e,← List.append_assoc,List.replicate_append_replicate,List.take_left' (by simp)]
theorem qLV (z:List UInt8) (n:Nat) (h1:1≤n) (h2:n≤512) (w:World) (bx:Nat) (hbx:bx<w.heap.size) (hc:w.cell? ⟨bx,0,none⟩=some (.string ⟨z.toArray⟩)) :
  Calls Tryz.prog 28 #[.slice (some ⟨bx,0,none⟩) 1 1,.int .i64 n] w fun e w'=>e=.returned (.slice (some ⟨w.heap.size,0,none⟩) n n)∧w'.ownsRow w.heap.size 9 1 (.slice (some ⟨w.heap.size,0,none⟩) n n) n (List.replicate n (encStr z))∧Below w.heap.size w w':=by
 have i1:¬ (n:Int)<0:=by omega
 have i2:¬ (9223372036854775807:Int)<(n:Int):=by omega
 have i3:IntKind.u64.wrap (n:Int)=(n:Int):=by simp [IntKind.wrap,IntKind.bits,IntKind.signed];omega
 have HM:=Hh (mul_one n h2 w)
 obtain ⟨i0,hi,hz0,hz1,hz2⟩:=qEY.info
 obtain ⟨w1,hmk,hown,hg⟩:=run_makeSlice_full (P:=Tryz.prog) w 0 22 9 i0 (.string ByteArray.empty) 1 Tryz.underlying22 hi hz0 hz1 .i64 .i64 n (by omega) (by rw [hz2];omega) (by unfold maxLen;omega) (zw _)
 have HB1:=Hh ((zB w.heap.size w).grown hg (zo _) (fun k hk=>by cases hk))
 have hrow:∃ L:List Value,w1.heap[w.heap.size]?=some (.cells L.toArray 9 (0,0))∧L.length=n:=by
  rcases hown.2 with ⟨h3,h4⟩ | ⟨g,cap,cur,e1,_,h3,_,_,h4,_⟩
  ·omega
  ·injection e1 with e1 e2 e3
   injection e1 with e1
   injection e1 with e1
   subst e1 e3
   exact ⟨cur.toList,by simpa using h3,by simpa using h4⟩
 obtain ⟨L0,hL0,hL1⟩:=hrow
 have HL0:=Hh hL0
 have HL1:=Hh hL1
 have c0:w1.cell? ⟨bx,0,none⟩=some (.string ⟨z.toArray⟩):=(HB1.out.cell (p:=⟨bx,0,none⟩) hbx).trans hc
 have HC0:=Hh c0
 clear hi hz0 hz1 hz2 hown hg hL0 hL1 hc
 have HMIN:=Hh (show ([Value.string ⟨z.toArray⟩]:List Value).length=Nat.min 1 n by simp [Nat.min_def];omega)
 have HSRC:=Hh (show ∀ (j:Nat) (v:Value),[Value.string ⟨z.toArray⟩][j]?=some v→w1.cell? ((⟨bx,0,none⟩:Addr).add j)=some v from fun j v hj=>by
  cases j with
  | zero =>
   have e1:(⟨bx,0,none⟩:Addr).add 0=⟨bx,0,none⟩:=by unfold Addr.add;split<;>simp_all
   simp only [List.getElem?_cons_zero,zA1] at hj
   rw [e1,← hj]
   exact HC0.out
  | succ j=>simp at hj)
 have HFIT:=Hh (show 0+([Value.string ⟨z.toArray⟩]:List Value).length≤L0.length by rw [HL1.out];simp;omega)
 have HONE:=Hh (show ∀ v∈([Value.string ⟨z.toArray⟩]:List Value),v.oneCell'=true by simp [Value.oneCell'])
 obtain ⟨w2,hcp,HG2,HB2⟩:∃ w2,(Builtin.copy_ #[22,22] 3 #[.slice (some ⟨w.heap.size,0,none⟩) n n,.slice (some ⟨bx,0,none⟩) 1 1]).run Tryz.prog w1=.ok (.int .i64 1) w2∧Hid (w2.heap[w.heap.size]?=some (.cells (splice L0 0 [.string ⟨z.toArray⟩]).toArray 9 (0,0)))∧Hid (Below w.heap.size w w2):=by
  refine ⟨_,run_copy_row (P:=Tryz.prog) w1 22 22 3 9 w.heap.size 0 n n ⟨bx,0,none⟩ 1 1 L0.toArray 9 [.string ⟨z.toArray⟩] Tryz.underlying22 qPG HL0.out HMIN.out HSRC.out (by simpa using HFIT.out) HONE.out,Hh ?_,Hh (below_setRow HB1.out (zo _) _)⟩
  simpa [splice] using setRow_heap w1 w.heap.size _ _ 9 _ HL0.out
 go_enter Tryz.func28,Tryz.ntmps28
 go_upto_region 7 with (go_at_call 57;refine HM.out.mono ?_;rintro ev w2 ⟨rfl,hw2⟩;have hw3:w=w2:=hw2.symm;clear hw2;subst hw3)
 go_wp2_with fail
 have H0:=Hh (show qQP w w2 w.heap.size n 1 z from ⟨_,HG2.out,by rw [length_splice _ _ _ HFIT.out];exact HL1.out,by simp [splice,encStr],HB2.out⟩)
 clear HG2 HB2 hmk c0 hcp
 go_loopw [8] (fun a wr=>∃ m:Nat,1≤m∧m≤n∧a=.int .i64 m∧Hid (qQP w wr w.heap.size n m z)) (fun a _=>n-(intOf a).toNat)
 case atStart=>exact ⟨1,zo _,h1,rfl,H0⟩
 case round =>
  obtain ⟨m,hm1,hm2,rfl,HS⟩:=hrel
  by_cases hmn:m<n
  ·have j1:(m:Int)<(n:Int):=by omega
   have j2:(0:Int)≤(m:Int):=by omega
   have j3:(m:Int)≤(n:Int):=by omega
   obtain ⟨L,l1,l2,l3,l4⟩:=HS.out
   have HLL:=Hh l1
   have HLN:=Hh l2
   have HLT:=Hh l3
   have HLB:=Hh l4
   obtain ⟨k,hk⟩:∃ k,k=min m (n-m):=⟨_,rfl⟩
   have hkm:k≤m:=by omega
   have hkn:m+k≤n:=by omega
   have hk1:1≤k:=by omega
   have HLEN:=Hh (show (L.take k).length=Nat.min m (n-m) by show _=min m (n-m);rw [List.length_take,l2];omega)
   have HSR:=Hh (show ∀ (j:Nat) (v:Value),(L.take k)[j]?=some v→wr.cell? ((⟨w.heap.size,0,none⟩:Addr).add j)=some v from fun j v hj=>by
    have e1:(⟨w.heap.size,0,none⟩:Addr).add j=⟨w.heap.size,j,none⟩:=by unfold Addr.add;split<;>simp_all
    rw [e1,zI1 wr _ j _ _ _ l1]
    rw [List.getElem?_take] at hj
    split at hj
    ·simpa using hj
    ·cases hj)
   have HFT:=Hh (show m+(L.take k).length≤L.length by rw [List.length_take,l2];omega)
   have HON:=Hh (show ∀ v∈L.take k,v.oneCell'=true from fun v hv=>by
    have h5:L.take k=List.replicate k (encStr z):=by
     have:=congrArg (List.take k) l3
     rw [List.take_take,Nat.min_eq_left hkm,List.take_replicate,Nat.min_eq_left hkm] at this
     exact this
    rw [h5] at hv
    rw [(List.mem_replicate.1 hv).2]
    rfl)
   have HRM:=Hh (qOZ (k:=k) l2 l3 hkn hkm)
   obtain ⟨X,hX⟩:∃ X,X=L.take k:=⟨_,rfl⟩
   rw [← hX] at HLEN HSR HFT HON HRM
   have HXL:=Hh (show X.length=k by rw [HLEN.out];exact hk.symm)
   have HK1:=Hh hk1
   have HKN:=Hh hkn
   clear hk hkm hkn hk1
   clear l1 l2 l3 l4 hX
   obtain ⟨w4,hcp2,HG4,HB4⟩:∃ w4,(Builtin.copy_ #[22,22] 3 #[.slice (some ⟨w.heap.size,m,none⟩) (n-m) (n-m),.slice (some ⟨w.heap.size,0,none⟩) m n]).run Tryz.prog wr.drew=.ok (.int .i64 (k:Int)) w4∧Hid (w4.heap[w.heap.size]?=some (.cells (splice L m X).toArray 9 (0,0)))∧Hid (Below w.heap.size w w4):=by
    have hrun:=run_copy_row (P:=Tryz.prog) wr.drew 22 22 3 9 w.heap.size m (n-m) (n-m) ⟨w.heap.size,0,none⟩ m n L.toArray 9 X Tryz.underlying22 qPG HLL.out HLEN.out HSR.out (by simpa using HFT.out) HON.out
    rw [HXL.out] at hrun
    refine ⟨_,hrun,Hh ?_,Hh (below_setRow HLB.out.drew (zo _) _)⟩
    simpa [splice,HXL.out] using setRow_heap wr.drew w.heap.size _ (L.take m++(X++L.drop (m+k))).toArray 9 _ HLL.out
   go_upto_region 9 with fail
   go_region
   have hwr:wrap64 ((m:Int)+(k:Int))=((m+k:Nat):Int):=by
    have:=HKN.out
    unfold wrap64
    omega
   rw [hwr]
   go_wp2
   go_roundw
   case rel =>
    exact ⟨m+k,by have:=hm1;omega,HKN.out,rfl,Hh ⟨splice L m X,HG4.out,HRM.out.1,HRM.out.2,HB4.out⟩⟩
   case measure =>
    have:=HK1.out
    have:=HKN.out
    simp [intOf]
    omega
  ·have j1:¬ (m:Int)<(n:Int):=by omega
   obtain rfl:m=n:=by omega
   go_wp2
   go_ret
   obtain ⟨L,l1,l2,l3,l4⟩:=HS.out
   refine ⟨rfl,⟨by simp,.inr ⟨w.heap.size,m,L.toArray,rfl,zo _,l1,zo _,by unfold maxLen;omega,by simpa using l2,?_⟩⟩,l4⟩
   rw [Nat.mul_one]
   exact l3
end Go.Proofs.YtkcjmccdkeigmaaGreatDoor
namespace Go.Proofs.YtkcjmccdkeigmaaGreatDoor
open Go.RowKit Go.Sort Go.Shelf Stl
def qM6 (n:Nat) (w:World) (c:Nat→Col) (e:Ending) (w':World):Prop :=
 ∃ (b:Nat) (c2:Nat→Col),e=.returned (.tuple #[.pointer (some ⟨b,0,none⟩),.nilIface])∧Below w.heap.size w w'∧DiskAt w' c2 b (List.replicate n (List.replicate 16 0))∧∀ k,k<w.heap.size→c2 k=c k
theorem qMP (n:Nat) (h1:1≤n) (h2:n≤512) (w:World) (c:Nat→Col) :
  Calls Tryz.prog 13 #[.int .i64 n] w (qM6 n w c):=by
 have i1:¬ (n:Int)<1:=by omega
 have i2:¬ (512:Int)<(n:Int):=by omega
 obtain ⟨z,hz⟩:∃ z:List UInt8,z=List.replicate 16 0:=⟨_,rfl⟩
 have HR:=Hh (show Calls Tryz.prog 29 #[.string ⟨#[0]⟩,.int .i64 16] w fun e w'=>e=.returned (.string ⟨z.toArray⟩)∧Below w.heap.size w w' from (Tryz.strings_Repeat_main ⟨#[0]⟩ 16 w (by decide) (by decide) (by decide) (by decide)).mono (by
  rintro e w' ⟨rfl,hb⟩
  exact ⟨by rw [hz];rfl,hb⟩))
 have HZ:=Hh hz
 clear hz
 go_enter Tryz.func13,Tryz.ntmps13
 go_upto_region 3 with fail
 go_wp2_with (first
  | (go_at_call 29;refine HR.out.mono ?_;rintro ev w2 ⟨rfl,hb2⟩;have HB2:=Hh hb2;clear hb2)
  | (go_at_call 28;refine (qLV z n h1 h2 _ w2.heap.size (by simp) (zI1 _ _ 0 _ _ _ (zJ1 w2 _))).mono ?_;rintro ev w4 ⟨rfl,hown,hb4⟩;have HOWN:=Hh hown;have HB4:=Hh hb4;clear hown hb4)
  | fail)
 go_ret2
 have hs2:=HB2.out.size
 have hs4:=HB4.out.size
 have hz2:(w2.alloc (.cells #[.string ⟨z.toArray⟩] 9)).heap.size=w2.heap.size+1:=by simp
 have hb24:Below w2.heap.size w2 w4:=((zB _ w2).alloc (zo _) _).trans (HB4.out.mono (by simp))
 refine ⟨w4.heap.size,qAy (qAy c (w2.heap.size+1) .diskL) w4.heap.size .disk,by simp,(HB2.out.trans (hb24.mono hs2)).alloc (by have:=hb24.size;omega) _,⟨_,zJ1 w4 _,qAm _ _ _,?_⟩,fun k hk=>?_⟩
 ·have h1:w4.ownsRow (w2.heap.size+1) 9 1 (.slice (some ⟨w2.heap.size+1,0,none⟩) n n) n (List.replicate n (encStr z)):=by
   have h:=HOWN.out
   rw [hz2] at h
   exact h
  simp only [List.length_replicate,List.map_replicate]
  rw [← HZ.out]
  refine RowAt.of_owns (h1.kept (Below.toGrown ((zB _ w4).alloc (zo _) _) none) (by cases Value.ownBlock (Value.slice (some ⟨w2.heap.size+1,0,none⟩) n n)<;>simp)) (fun k hk=>?_)
  simp [Value.ownBlock] at hk
  subst hk
  rw [qAh (k:=w2.heap.size+1) (n:=w4.heap.size) (h1.lt _ rfl).2 (zo _)]
  rw [qAm]
 ·have h4:=hb24.size
  rw [qAh (n:=w2.heap.size) (by omega) h4,qAh (n:=w2.heap.size) (by omega) (by omega)]
end Go.Proofs.YtkcjmccdkeigmaaGreatDoor
namespace Stl
structure qB7 (i:Nat) (s:Sto) (t:Tape):Prop where
 sto:qCP s
 disk:s.d.t.disk.length≤512
 inos:s.d.t.l.length≤200*i
 next:s.d.next≤i
 ents:s.d.l.length≤i
 off:t.off=false
 cut:t.cut=none
 len:t.b.length≤300*i
theorem qFC {n:Nat} (h:n≤512):qB7 0 (Sto.new n) ⟨[],false,none⟩ :=
 ⟨qJ3 n,by show (List.replicate n _).length≤_;rw [List.length_replicate];exact h,zo _,zo _,zo _,rfl,rfl,zo _⟩
theorem qDl {i:Nat} {s:Sto} {t:Tape} (h:qB7 i s t) (hi:i≤300) {line:Bytes} (hl:line.length≤250):qB7 (i+1) (qAi s t line).2.1 (qAi s t line).2.2:=by
 have up:qB7 (i+1) s t:=⟨h.sto,h.disk,by have:=h.inos;omega,by have:=h.next;omega,by have:=h.ents;omega,h.off,h.cut,by have:=h.len;omega⟩
 unfold qAi
 cases hc:s.change line with
 | none=>exact up
 | some q =>
  cases q with
  | error e=>exact up
  | ok q =>
   obtain ⟨a,s1⟩:=q
   simp only
   rw [qCd hl h.off h.cut (by have:=h.len;omega)]
   rw [zL1 rfl]
   have hr:=qCY hl
   have hz:=qJw hc
   show qB7 (i+1) s1 { t with b:=t.b++record line }
   refine ⟨qNC h.sto hc,by rw [hz.disk];exact h.disk,by have:=hz.inos;have:=h.inos;omega,by have:=hz.next;have:=h.next;omega,by have:=hz.ents;have:=h.ents;omega,h.off,h.cut,?_⟩
   have:=h.len
   simp only [zP]
   omega
def kl1:Bytes:=[97,100,100,32,97,32,102,50,58,120,121]
def kl2:Bytes:=[97,100,100,32,98,32,102,50,58,35,97]
def kl3:Bytes:=[114,101,102,115,32,98]
def kl4:Bytes:=[114,101,97,100,32,97,32,47]
def qRn (r:Except Nat Bytes) (a:Bytes):Bool:=match r with | .ok x=>x==a | .error _=>false
theorem qFt {r:Except Nat Bytes} {a:Bytes} (h:qRn r a=true):r=.ok a:=by
 cases r with
 | error e=>cases h
 | ok x=>exact congrArg Except.ok (eq_of_beq h)
def kP0:Sto×Tape:=(Sto.new 8,⟨[],false,none⟩)
def kD (p:Sto×Tape) (l:Bytes):Sto×Tape:=(qAi p.1 p.2 l).2
theorem qRz:(qAi kP0.1 kP0.2 kl1).1=.ok [111,107]:=qFt (by decide +kernel)
theorem qRo:(qAi (kD kP0 kl1).1 (kD kP0 kl1).2 kl2).1=.ok [111,107]:=qFt (by decide +kernel)
theorem qRu:(qAi (kD (kD kP0 kl1) kl2).1 (kD (kD kP0 kl1) kl2).2 kl3).1=.ok [97]:=qFt (by decide +kernel)
theorem qRs:(qAi (kD (kD (kD kP0 kl1) kl2) kl3).1 (kD (kD (kD kP0 kl1) kl2) kl3).2 kl4).1=.ok [120,121]:=qFt (by decide +kernel)
end Stl
namespace Go.Proofs.YtkcjmccdkeigmaaGreatDoor
open Go.RowKit Go.Sort Go.Shelf Stl
def qNN (n:Nat) (w:World) (c:Nat→Col) (e:Ending) (w':World):Prop :=
 ∃ (b tp:Nat) (c2:Nat→Col),e=.returned (.tuple #[.pointer (some ⟨b,0,none⟩),.nilIface])∧w.heap.size≤b∧Ext w w' c c2 S0∧StoAt w' c2 b (Sto.new n) tp∧TapeAt w' c2 tp ⟨[],false,none⟩
theorem qFJ (n:Nat) (h1:1≤n) (h2:n≤512) (w:World) (c:Nat→Col) :
  Calls Tryz.prog 6 #[.int .i64 n] w (qNN n w c):=by
 have HDK:=Hh (qMP n h1 h2 w c)
 go_enter Tryz.func6,Tryz.ntmps6
 go_upto_region 4 with (go_at_call 13;refine HDK.out.mono ?_;rintro ev w1 ⟨b1,c1,rfl,hb1,hd1,hc1⟩;have HB1:=Hh hb1;have HD1:=Hh hd1;have HC1:=Hh hc1;have HTN:=Hh (qPC hd1 (by rw [List.length_replicate];exact h1) (by rw [List.length_replicate];exact h2));clear hb1 hd1 hc1)
 go_upto_region 7 with (go_at_call 14;refine HTN.out.mono ?_;rintro ev w2 ⟨b2,c2,rfl,hb2,ht2,hc2⟩;have HB2:=Hh hb2;have HC2:=Hh hc2;have HDN:=Hh (qPb ht2);clear hb2 ht2 hc2)
 go_upto_region 10 with (go_at_call 15;refine HDN.out.mono ?_;rintro ev w3 ⟨b3,c3,rfl,hb3,hd3,hc3⟩;have HB3:=Hh hb3;have HD3:=Hh hd3;have HC3:=Hh hc3;clear hb3 hd3 hc3)
 have HTP:=Hh (qMV [] (by simp) w3 c3)
 go_upto_region 13 with (go_at_call 16;refine HTP.out.mono ?_;rintro ev w4 ⟨b4,c4,rfl,hge4,he4,ht4⟩;have HE4:=Hh he4;have HT4:=Hh ht4;clear he4 ht4)
 have HB3':=Hh ((HB1.out.trans (HB2.out.mono HB1.out.size)).trans (HB3.out.mono (HB1.out.trans (HB2.out.mono HB1.out.size)).size))
 have e4:Ext w w4 c c4 S0:=((Ext.of_below HB3'.out c S0).recolor (fun k hk _=>(HC3.out k (zt hk (HB1.out.trans (HB2.out.mono HB1.out.size)).size)).trans ((HC2.out k (zt hk HB1.out.size)).trans (HC1.out k hk)))).trans HE4.out
 have HE:=Hh e4
 have HD4:=Hh (HD3.out.ext HE4.out rfl (fun _ _=>rfl))
 clear e4
 go_wp2
 go_ret2
 have ho:=zJ1 w4 (.cells #[.pointer (some ⟨b3,0,none⟩),.slice none 0 0,.slice none 0 0,.pointer (some ⟨b4,0,none⟩)] 60)
 have em:=Ext.made w4 c4 S0 (.cells #[.pointer (some ⟨b3,0,none⟩),.slice none 0 0,.slice none 0 0,.pointer (some ⟨b4,0,none⟩)] 60) .sto
 refine ⟨_,_,_,rfl,HE.out.size,HE.out.trans em,?_,HT4.out.ext em rfl rfl⟩
 exact StoX.shut (zs:=[]) (A:=none) (cap:=0) (R:=none) (rc:=0) ⟨ho,qAm _ _ _,HD4.out.ext em rfl (fun _ _=>rfl),RowAt.nil _ _ _ _ _,rfl,by simp,RowAt.nil _ _ _ _ _⟩
def qKs (l:List (List UInt8)) (m:Nat):Bool:=decide (m<l.length)||l.any fun x=>decide (250<x.length)
def qLc (l:List (List UInt8)) (m:Nat):Int:=if qKs l m then 1 else 0
theorem qHA (v:Value) (l:List (List UInt8)) (m:Nat) (hm:m≤1000000) (hl:l.length≤9223372036854775806) (w:World) (hs:Strs w v l) :
  Calls Tryz.prog 5 #[v,.int .i64 m] w fun e w'=>e=.returned (.int .i64 (qLc l m))∧w'=w:=by
 obtain ⟨A,c,rfl,h1⟩:=id hs
 clear h1
 go_enter Tryz.func5,Tryz.ntmps5
 have HS:=Hh hs
 clear hs
 have HE:Hid (qLc l m=if (decide (m<l.length)||l.any fun x=>decide (250<x.length))=true then 1 else 0):=Hh rfl
 generalize qLc l m=r at HE
 by_cases hb:m<l.length
 ·have i0:(m:Int)<(l.length:Int):=by omega
  have HF:=Hh (show r=1 by rw [HE.out];exact zL1 (by simp [hb]))
  go_wp2
  go_ret
  exact ⟨by first | rfl | (rw [HF.out];rfl),rfl⟩
 have i0:(l.length:Int)≤(m:Int):=by omega
 go_wp2_with fail
 go_loopw [5] (fun a wr=>wr=w∧∃ k:Nat,k≤l.length∧a=.int .i64 k∧Hid ((l.take k).any (fun x=>decide (250<x.length))=false)) (fun a _=>l.length-(intOf a).toNat)
 case atStart=>exact ⟨rfl,0,zw _,rfl,Hh rfl⟩
 case round =>
  obtain ⟨rfl,k,hk,rfl,HP⟩:=hrel
  by_cases hkl:k<l.length
  ·obtain ⟨b,off,rfl,hb,hc⟩:=HS.out.cellAt hkl
   have i1:(k:Int)<(l.length:Int):=by omega
   have i2:(0:Int)≤(k:Int):=by omega
   by_cases hx:250<(l[k]).length
   ·have HF:=Hh (show r=1 by
     rw [HE.out]
     refine zL1 ?_
     rw [Bool.or_eq_true]
     exact .inr (List.any_eq_true.2 ⟨l[k],zO _,by simpa using hx⟩))
    have i3:(250:Int)<((l[k]).length:Int):=by omega
    clear hx
    go_wp2
    go_ret
    exact ⟨by first | rfl | (rw [HF.out];rfl),rfl⟩
   ·have HX:=Hh hx
    have i3:((l[k]).length:Int)≤250:=by omega
    clear hx
    go_wp2
    go_roundw
    case rel =>
     refine ⟨trivial,k+1,hkl,rfl,Hh ?_⟩
     rw [zn hkl,List.any_append,HP.out]
     simpa using HX.out
    case measure=>simp [intOf];omega
  ·have i1:¬ (k:Int)<(l.length:Int):=by omega
   have HF:=Hh (show r=0 by
    have h:=HP.out
    rw [zm (by omega)] at h
    rw [HE.out,h]
    simp [hb])
   go_wp2
   go_ret
   exact ⟨by first | rfl | (rw [HF.out];rfl),rfl⟩
def qRh (s:List UInt8) (by_:UInt8) (w:World) (e:Ending) (w':World):Prop :=
 ∃ (A:Option Addr) (cp:Nat) (l:List (List UInt8)),e=.returned (.slice A l.length cp)∧1≤l.length∧l.length≤s.length+1∧l[0]?=some (s.takeWhile fun c=>c != by_)∧w'.ownsRow w.heap.size 9 1 (.slice A l.length cp) l.length (l.map encStr)∧Below w.heap.size w w'
structure qRx (w wr:World) (s:List UInt8) (by_:UInt8) (i from_:Nat) (v:Value) (acc:List (List UInt8)):Prop where
 below:Below w.heap.size w wr
 row:wr.ownsRow w.heap.size 9 1 v acc.length (acc.map encStr)
 few:acc.length≤i
 low:from_≤i
 first:(acc=[]∧from_=0∧∀ c∈s.take i,(c != by_)=true)∨acc[0]?=some (s.takeWhile fun c=>c != by_)
theorem qDC {p:UInt8→Bool}:∀ {l:List UInt8},(∀ c∈l,p c=true)→l.takeWhile p=l
 | [],_=>rfl
 | x::r,h=>by
  rw [List.takeWhile_cons,zL1 (h x List.mem_cons_self),qDC (fun c hc=>h c (List.mem_cons_of_mem _ hc))]
theorem qIu {p:UInt8→Bool} {l:List UInt8} {i:Nat} (hi:i<l.length) (h:∀ c∈l.take i,p c=true) (hn:p l[i]=false):l.takeWhile p=l.take i:=by
 conv=>lhs;rw [← List.take_append_drop i l]
 rw [List.takeWhile_append_of_pos h,zF hi,List.takeWhile_cons,zK1 (by rw [hn];decide),List.append_nil]
theorem qOP (s:List UInt8) (by_:UInt8) (hl:s.length≤1000000) (w:World) :
  Calls Tryz.prog 7 #[.string ⟨s.toArray⟩,.int .u8 by_.toNat] w (qRh s by_ w):=by
 obtain ⟨i0,hi,hz0,hz1,hz2⟩:=qGv
 have Hi:=Hh hi
 have Hz0:=Hh hz0
 have Hz1:=Hh hz1
 have Hz2:=Hh hz2
 clear hi hz0 hz1 hz2
 go_enter Tryz.func7,Tryz.ntmps7
 go_upto_region 4 with fail
 go_loopw [5,6,7] (fun v f a wr=>∃ (i from_:Nat) (acc:List (List UInt8)),a=.int .i64 i∧f=.int .i64 from_∧i≤s.length∧Hid (qRx w wr s by_ i from_ v acc)) (fun _ _ a _=>s.length-(intOf a).toNat)
 case atStart=>exact ⟨0,0,[],rfl,rfl,zw _,Hh ⟨zB _ _,zE1 _ _ _ _,zo _,zo _,.inl ⟨rfl,rfl,by simp⟩⟩⟩
 case round =>
  obtain ⟨i,from_,acc,rfl,rfl,hi,HS⟩:=hrel
  have hlow:=HS.out.low
  have hfew:=HS.out.few
  by_cases hil:i<s.length
  ·have i1:(i:Int)<(s.length:Int):=by omega
   have i2:(0:Int)≤(i:Int):=by omega
   have HSE:=Hh (show s.take (i+1)=s.take i++[s[i]] from zn hil)
   cases hc:s[i]==by_ with
   | false =>
    have hb:¬ (((⟨s.toArray⟩:ByteArray)[i]'hil).toNat:Int)=(by_.toNat:Int):=by
     intro e
     have e:(s[i].toNat:Int)=(by_.toNat:Int):=e
     have:s[i]=by_:=UInt8.toNat_inj.1 (by omega)
     rw [this] at hc
     simp at hc
    have HN:=Hh (show qRx w wr s by_ (i+1) from_ u5 acc from ⟨HS.out.below,HS.out.row,by omega,by omega,by
     rcases HS.out.first with ⟨h1,h2,h3⟩ | h1
     ·refine .inl ⟨h1,h2,fun c hcm=>?_⟩
      rw [HSE.out] at hcm
      rcases zX.1 hcm with h | h
      ·exact h3 c h
      ·rw [zg.1 h];simp [bne,hc]
     ·exact .inr h1⟩)
    clear hc
    go_wp2
    go_roundw
    case rel=>exact ⟨i+1,from_,acc,by go_num,rfl,hil,HN⟩
    case measure=>simp [intOf];omega
   | true =>
    have hb:(((⟨s.toArray⟩:ByteArray)[i]'hil).toNat:Int)=(by_.toNat:Int):=by show (s[i].toNat:Int)=_;rw [eq_of_beq hc]
    have HFS:=Hh (show acc=[]→from_=0∧(s.take i).drop from_=s.takeWhile (fun c=>c != by_) from fun ha=>by
     rcases HS.out.first with ⟨_,h2,h3⟩ | h1
     ·rw [h2,List.drop_zero,qIu hil h3 (by simp [bne,hc])]
      exact ⟨rfl,rfl⟩
     ·rw [ha] at h1;simp at h1)
    clear hc
    have i3:(0:Int)≤(from_:Int):=by omega
    have i4:(from_:Int)≤(i:Int):=by omega
    have i5:(i:Int)≤(s.length:Int):=by omega
    go_upto_region 7 with fail
    have HO2:=Hh (HS.out.row.alloc (.cells #[.string ((⟨s.toArray⟩:ByteArray).extract from_ i)] 9))
    have HB2:=Hh (HS.out.below.alloc HS.out.below.size (.cells #[.string ((⟨s.toArray⟩:ByteArray).extract from_ i)] 9))
    go_wp2_with (at_builtin;refine Stl.wpList_app _ rfl _ _ 22 rfl w.heap.size 9 i0 (.string ByteArray.empty) 1 16 Tryz.underlying22 Hi.out Hz0.out Hz1.out Hz2.out rfl (by decide) u5 acc.length _ rfl HO2.out (some ⟨wr.heap.size,0,none⟩) 1 1 [.string ((⟨s.toArray⟩:ByteArray).extract from_ i)] rfl rfl (fun h=>by cases h) (qAJ _ _ _) (by simp [Value.oneCell']) (by unfold maxLen;omega) (by omega) (zq HS.out.below.size (by simp)) ?_;intro A7 c7 w7 hown7 hgr7 hat7;have HO3:=Hh hown7;have HB3:=Hh (HB2.out.grown hgr7 HB2.out.size (fun k hk=>(HO2.out.lt k hk).1));clear hown7 hgr7 hat7)
    have HN:=Hh (show qRx w w7 s by_ (i+1) (i+1) (.slice A7 (acc.length+1) c7) (acc++[(s.take i).drop from_]) from ⟨HB3.out,by have:=HO3.out;rw [qIK] at this;simpa [encStr] using this,by simp;omega,zo _,.inr (by
     cases acc with
     | nil=>simpa using (HFS.out rfl).2
     | cons x r =>
      rcases HS.out.first with ⟨h1,_⟩ | h1
      ·cases h1
      ·simpa using h1)⟩)
    go_roundw
    case rel=>exact ⟨i+1,i+1,_,by go_num,by go_num,hil,HN⟩
    case measure=>simp [intOf];omega
  ·have i1:¬ (i:Int)<(s.length:Int):=by omega
   have i3:(0:Int)≤(from_:Int):=by omega
   have i4:(from_:Int)≤(s.length:Int):=by omega
   obtain rfl:i=s.length:=by omega
   have HFS:=Hh (show acc=[]→s.drop from_=s.takeWhile (fun c=>c != by_) from fun ha=>by
    rcases HS.out.first with ⟨_,h2,h3⟩ | h1
    ·rw [zk] at h3
     rw [h2,List.drop_zero,qDC h3]
    ·rw [ha] at h1;simp at h1)
   have HO2:=Hh (HS.out.row.alloc (.cells #[.string ((⟨s.toArray⟩:ByteArray).extract from_ s.length)] 9))
   have HB2:=Hh (HS.out.below.alloc HS.out.below.size (.cells #[.string ((⟨s.toArray⟩:ByteArray).extract from_ s.length)] 9))
   go_wp2_with (at_builtin;refine Stl.wpList_app _ rfl _ _ 22 rfl w.heap.size 9 i0 (.string ByteArray.empty) 1 16 Tryz.underlying22 Hi.out Hz0.out Hz1.out Hz2.out rfl (by decide) u5 acc.length _ rfl HO2.out (some ⟨wr.heap.size,0,none⟩) 1 1 [.string ((⟨s.toArray⟩:ByteArray).extract from_ s.length)] rfl rfl (fun h=>by cases h) (qAJ _ _ _) (by simp [Value.oneCell']) (by unfold maxLen;omega) (by omega) (zq HS.out.below.size (by simp)) ?_;intro A7 c7 w7 hown7 hgr7 hat7;have HO3:=Hh hown7;have HB3:=Hh (HB2.out.grown hgr7 HB2.out.size (fun k hk=>(HO2.out.lt k hk).1));clear hown7 hgr7 hat7)
   go_ret
   refine ⟨A7,c7,acc++[s.drop from_],by simp,by simp,by simp;omega,?_,?_,HB3.out⟩
   ·cases acc with
    | nil=>simpa using HFS.out rfl
    | cons x r =>
     rcases HS.out.first with ⟨h1,_⟩ | h1
     ·cases h1
     ·simpa using h1
   ·have:=HO3.out
    rw [extract_drop] at this
    simpa [encStr] using this
structure StAt (w:World) (c:Nat→Col) (b tp:Nat) (p:Nat→Addr) (s:Sto) (t:Stl.Tape):Prop where
 sto:StoAt w c b s tp
 tape:TapeAt w c tp t
 env:Env w c p
theorem StAt.ext {w w2:World} {c c2:Nat→Col} {b tp:Nat} {p:Nat→Addr} {s:Sto} {t:Stl.Tape} (h:StAt w c b tp p s t) (e:Ext w w2 c c2 S0):StAt w2 c2 b tp p s t :=
 ⟨h.sto.ext e rfl (fun _ _=>rfl),h.tape.ext e rfl rfl,h.env.ext e rfl⟩
theorem qHG {i:Nat} {s:Sto} {t:Stl.Tape} (h:qB7 i s t) (hi:i≤300):qBd s:=by
 have h1:=h.disk
 have h2:=h.inos
 have h3:=h.next
 have h4:=h.ents
 exact ⟨h.sto,⟨h.sto.dirs,by omega,by omega,by omega,by omega⟩,by omega⟩
def qQ5 (p:Nat→Addr) (w:World) (c:Nat→Col) (b tp:Nat) (s:Sto) (t:Stl.Tape) (line:List UInt8) (ev:Ending) (w':World):Prop :=
 ∃ (a:ByteArray) (er:Value) (c2:Nat→Col),ev=.returned (.tuple #[.string a,er])∧Ext w w' c c2 Sdo∧StAt w' c2 b tp p (qAi s t line).2.1 (qAi s t line).2.2 ∧
  match (qAi s t line).1 with
  | .error cd=>er=qAM p cd∧cd≠0∧a=⟨#[]⟩
  | .ok x=>er=.nilIface∧a=⟨x.toArray⟩
theorem qIr {w:World} {c:Nat→Col} {b tp:Nat} {p:Nat→Addr} {s:Sto} {t:Stl.Tape} (h:StAt w c b tp p s t) {i:Nat} (hr:qB7 i s t) (hi:i≤300) (line:List UInt8) (hl:line.length≤250) :
  Calls Tryz.prog 8 #[.pointer (some ⟨b,0,none⟩),.string ⟨line.toArray⟩] w (qQ5 p w c b tp s t line):=by
 obtain ⟨bd,A,cap,zs,R,rc,hx⟩:=h.sto.open
 have h1:=qCY hl
 have h2:=hr.len
 refine (qRd hx h.tape (qHG hr hi) h.env line (by omega) hr.off hr.cut (by omega)).mono ?_
 rintro ev w' ⟨a,er,c2,rfl,he,hs,ht,hm⟩
 exact ⟨a,er,c2,rfl,he,⟨hs,ht,h.env.ext he rfl⟩,hm⟩
theorem qOJ (w:World) (p:Nat→Addr) (hE:Errs w p) (hV:LibVars w) :
  Calls Tryz.prog 4 #[] w fun e w'=>e=.returned (.bool true)∧Below w.heap.size w w':=by
 have HEN:=Hh (show Env w (fun _=>Col.ro) p from ⟨w,hE,hV,zB _ _,fun _ _=>rfl⟩)
 have HNW:=Hh (qFJ 8 (by decide) (by decide) w (fun _=>.ro))
 have r0:qB7 0 kP0.1 kP0.2:=qFC (by decide)
 have r1:=qDl r0 (by decide) (line:=kl1) (by decide)
 have r2:=qDl r1 (by decide) (line:=kl2) (by decide)
 have r3:=qDl r2 (by decide) (line:=kl3) (by decide)
 have K1:=Hh qRz
 have K2:=Hh qRo
 have K3:=Hh qRu
 have K4:=Hh qRs
 have R0:=Hh r0
 have R1:=Hh r1
 have R2:=Hh r2
 have R3:=Hh r3
 clear r0 r1 r2 r3 hE hV
 go_enter Tryz.func4,Tryz.ntmps4
 go_upto_region 4 with (go_at_call 6;refine HNW.out.mono ?_;rintro ev w1 ⟨b,tp,c1,rfl,_,he1,hs1,ht1⟩;have HE1:=Hh he1;have HS1:=Hh (show StAt w1 c1 b tp p kP0.1 kP0.2 from ⟨hs1,ht1,HEN.out.ext he1 rfl⟩);clear he1 hs1 ht1)
 have HD1:=Hh (qIr HS1.out R0.out (by decide) kl1 (by decide))
 go_upto_region 5 with (go_at_call 8;refine HD1.out.mono ?_;rintro ev w2 ⟨a2,er2,c2,rfl,he2,hs2,hm2⟩;rw [K1.out] at hm2;obtain ⟨rfl,rfl⟩:=hm2;have HE2:=Hh he2;have HS2:=Hh hs2;clear he2 hs2)
 have HD2:=Hh (qIr HS2.out R1.out (by decide) kl2 (by decide))
 go_upto_region 6 with (go_at_call 8;refine HD2.out.mono ?_;rintro ev w3 ⟨a3,er3,c3,rfl,he3,hs3,hm3⟩;have hm3':er3=.nilIface∧a3=⟨#[111,107]⟩:=(by { have h1:(qAi (qAi kP0.1 kP0.2 kl1).2.1 (qAi kP0.1 kP0.2 kl1).2.2 kl2).1=.ok [111,107]:=K2.out;rw [h1] at hm3;exact hm3 });obtain ⟨rfl,rfl⟩:=hm3';have HE3:=Hh he3;have HS3:=Hh hs3;clear he3 hs3 hm3)
 have HD3:=Hh (qIr HS3.out R2.out (by decide) kl3 (by decide))
 go_upto_region 7 with (go_at_call 8;refine HD3.out.mono ?_;rintro ev w4 ⟨a4,er4,c4,rfl,he4,hs4,hm4⟩;have hm4':er4=.nilIface∧a4=⟨#[97]⟩:=(by { have h1:(qAi (qAi (qAi kP0.1 kP0.2 kl1).2.1 (qAi kP0.1 kP0.2 kl1).2.2 kl2).2.1 (qAi (qAi kP0.1 kP0.2 kl1).2.1 (qAi kP0.1 kP0.2 kl1).2.2 kl2).2.2 kl3).1=.ok [97]:=K3.out;rw [h1] at hm4;exact hm4 });obtain ⟨rfl,rfl⟩:=hm4';have HE4:=Hh he4;have HS4:=Hh hs4;clear he4 hs4 hm4)
 have HD4:=Hh (qIr HS4.out R3.out (by decide) kl4 (by decide))
 go_upto_region 8 with (go_at_call 8;refine HD4.out.mono ?_;rintro ev w5 ⟨a5,er5,c5,rfl,he5,hs5,hm5⟩;have hm5':er5=.nilIface∧a5=⟨#[120,121]⟩:=(by { have h1:=K4.out;unfold kD at h1;rw [h1] at hm5;exact hm5 });obtain ⟨rfl,rfl⟩:=hm5';have HE5:=Hh he5;clear he5 hs5 hm5)
 have HBF:=Hh (show Below w.heap.size w w5 from ((((HE1.out.mono (S':=Sdo) (fun _ _=>rfl)).trans HE2.out).trans HE3.out).trans HE4.out |>.trans HE5.out).below (zo _) (fun _ _=>rfl))
 clear HD1 HD2 HD3 HD4 HNW
 go_wp2
 go_ret
 exact ⟨rfl,HBF.out⟩
def qQW:Col→Bool:=fun y=>decide (y=.dead)
structure Apart (w:World) (c d:Nat→Col):Prop where
 left:∀ k,k<w.heap.size→d k≠.dead→c k=.ro∨c k=.dead
 right:∀ k,k<w.heap.size→c k≠.dead→d k=.ro∨d k=.dead
def qA1 (w:World) (d:Nat→Col):Nat→Col:=fun k=>if k<w.heap.size then d k else .dead
section
variable {w w2:World} {c c2 d d2:Nat→Col}
theorem Apart.symm (h:Apart w c d):Apart w d c:=⟨h.right,h.left⟩
theorem qJq {x:Col} (h:x=.ro∨x=.dead):Sdo x=false:=by
 rcases h with rfl | rfl<;>rfl
theorem Apart.other (h:Apart w c d) (e:Ext w w2 c c2 Sdo):Ext w w2 d (qA1 w d) qQW :=
 ⟨e.os,e.tape,e.output,e.size,fun b hb hs=>⟨(e.keep b hb (qJq (h.left b hb (fun hd=>by rw [hd] at hs;cases hs)))).1,zL1 hb⟩⟩
theorem Apart.step (h:Apart w c d) (e:Ext w w2 c c2 Sdo):Apart w2 c2 (qA1 w d):=by
 refine ⟨fun k _ hn=>?_,fun k _ hn=>?_⟩
 ·by_cases hl:k<w.heap.size
  ·have hd:qA1 w d k=d k:=zL1 hl
   rw [hd] at hn
   have h1:=h.left k hl hn
   rw [(e.keep k hl (qJq h1)).2]
   exact h1
  ·exact absurd (zK1 hl) hn
 ·by_cases hl:k<w.heap.size
  ·have hd:qA1 w d k=d k:=zL1 hl
   rw [hd]
   by_cases hc:c k=.dead
   ·exact absurd ((e.keep k hl (qJq (.inr hc))).2.trans hc) hn
   ·exact h.right k hl hc
  ·exact .inr (zK1 hl)
theorem StAt.extB {S:Col→Bool} {b tp:Nat} {p:Nat→Addr} {s:Sto} {t:Stl.Tape} (h:StAt w c b tp p s t) (e:Ext w w2 c c2 S) (h0:S .ro=false) (h1:∀ x,qQS x=true→S x=false) (h2:S .tape=false) (h3:S .tapeL=false):StAt w2 c2 b tp p s t :=
 ⟨h.sto.ext e h0 h1,h.tape.ext e h2 h3,h.env.ext e h0⟩
theorem StAt.dead {b tp:Nat} {p:Nat→Addr} {s:Sto} {t:Stl.Tape} (h:StAt w c b tp p s t) (e:Ext w w2 c c2 qQW):StAt w2 c2 b tp p s t :=
 h.extB e rfl (fun x hx=>by cases x<;>first | rfl | (cases hx)) rfl rfl
end
structure TwoAt (w wr:World) (c d:Nat→Col) (b tp b2 tp2:Nat) (p:Nat→Addr) (s t:Sto) (ts tt:Stl.Tape):Prop where
 base:Below w.heap.size w wr
 low:∀ k,k<w.heap.size→c k=.ro∧d k=.ro
 apart:Apart wr c d
 one:StAt wr c b tp p s ts
 two:StAt wr d b2 tp2 p t tt
section
variable {w wr w2:World} {c c2 d d2:Nat→Col} {b tp b2 tp2:Nat} {p:Nat→Addr} {s t s' t':Sto} {ts tt ts' tt':Stl.Tape}
theorem TwoAt.left (h:TwoAt w wr c d b tp b2 tp2 p s t ts tt) (e:Ext wr w2 c c2 Sdo) (hs:StAt w2 c2 b tp p s' ts'):TwoAt w w2 c2 (qA1 wr d) b tp b2 tp2 p s' t ts' tt :=
 ⟨h.base.trans (e.below h.base.size (fun k hk=>by rw [(h.low k hk).1];rfl)),
  fun k hk=>⟨e.col (zt hk h.base.size) (h.low k hk).1 rfl,(zL1 (zt hk h.base.size)).trans (h.low k hk).2⟩,
  h.apart.step e,hs,h.two.dead (h.apart.other e)⟩
theorem TwoAt.right (h:TwoAt w wr c d b tp b2 tp2 p s t ts tt) (e:Ext wr w2 d d2 Sdo) (hs:StAt w2 d2 b2 tp2 p t' tt'):TwoAt w w2 (qA1 wr c) d2 b tp b2 tp2 p s t' ts tt' :=
 ⟨h.base.trans (e.below h.base.size (fun k hk=>by rw [(h.low k hk).2];rfl)),
  fun k hk=>⟨(zL1 (zt hk h.base.size)).trans (h.low k hk).1,e.col (zt hk h.base.size) (h.low k hk).2 rfl⟩,
  (h.apart.symm.step e).symm,h.one.dead (h.apart.symm.other e),hs⟩
theorem TwoAt.below (h:TwoAt w wr c d b tp b2 tp2 p s t ts tt) (hb:Below wr.heap.size wr w2):TwoAt w w2 (qA1 wr c) (qA1 wr d) b tp b2 tp2 p s t ts tt:=by
 have ec:∀ x:Nat→Col,Ext wr w2 x (qA1 wr x) S0:=fun x=>(Ext.of_below hb x S0).recolor fun _ hk _=>zL1 hk
 refine ⟨h.base.trans (hb.mono h.base.size),fun k hk=>⟨(zL1 (zt hk h.base.size)).trans (h.low k hk).1,(zL1 (zt hk h.base.size)).trans (h.low k hk).2⟩,⟨fun k _ hn=>?_,fun k _ hn=>?_⟩,h.one.ext (ec c),h.two.ext (ec d)⟩
 ·by_cases hl:k<wr.heap.size
  ·rw [show qA1 wr d k=d k from zL1 hl] at hn
   rw [show qA1 wr c k=c k from zL1 hl]
   exact h.apart.left k hl hn
  ·exact .inr (zK1 hl)
 ·by_cases hl:k<wr.heap.size
  ·rw [show qA1 wr c k=c k from zL1 hl] at hn
   rw [show qA1 wr d k=d k from zL1 hl]
   exact h.apart.right k hl hn
  ·exact .inr (zK1 hl)
end
end Go.Proofs.YtkcjmccdkeigmaaGreatDoor
