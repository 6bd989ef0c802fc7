/- Lemmas. -/
import Derived.Laws.CopyOwn
import Derived.Test.YtbmkaekimccdgaaGreatDoorBm08
import Derived.Test.YtbmkaekimccdgaaGreatDoorBm38
set_option maxHeartbeats 16000000
set_option maxRecDepth 1000000
set_option linter.all false
namespace Go.Proofs.YtbmkaekimccdgaaGreatDoor
open Go.RowKit Go.Sort Go.Shelf Stl
theorem qLM:xX 4 (.bool false) 1 1:=xQ (by kernel_rfl) rfl (by decide)
theorem qIu (n:Nat):(madeCells (Value.bool false).cells (n*1)).toList=(List.replicate n false).map Value.bool:=by
 rw[List.map_replicate];refine List.eq_replicate_iff.2 ⟨by simp[madeCells],fun x hx=>?_⟩;simp only[madeCells,Array.toList_map,zb] at hx;obtain⟨k,_,rfl⟩:=hx;simp[Value.cells,Nat.mod_one]
def qLh (n:Nat)(w:World)(c:Nat→Col)(e:Ending)(w':World):Prop :=
 ∃ (b:Nat) (c2:Nat→Col),e=.returned (.tuple #[.pointer (some ⟨b,0,none⟩),.nilIface])∧Below w.heap.size w w'∧SpaceAt w' c2 b (List.replicate n false)∧∀ k,k<w.heap.size→c2 k=c k
theorem qMV (n:Nat)(h1:1≤n)(h2:n≤512)(w:World)(c:Nat→Col) :
  Calls Tryz.prog 26 #[.int .i64 n] w (qLh n w c):=by
 have i1:¬ (n:Int)<1:=by omega
 have i2:¬ (512:Int)<(n:Int):=by omega
 obtain⟨i0,hi,hz0,hz1,hz2⟩:=qLM.info;obtain⟨w1,hmk,hown,hg⟩:=run_makeSlice_full (P:=Tryz.prog) w 0 122 4 i0 (.bool false) 1 Tryz.underlying122 hi hz0 hz1 .i64 .i64 n (by omega) (by rw[hz2];omega) (by unfold maxLen;omega) (zw _);have HOWN:=Hh hown;have HG:=Hh hg;have HB:=Hh ((zB w.heap.size w).grown hg (zo _) (fun k hk=>by cases hk));clear hi hz0 hz1 hz2 hown hg;go_enter Tryz.func26,Tryz.ntmps26;go_wp2_with fail;go_ret2;have hgl:w.heap.size<w1.heap.size:=(HOWN.o.lt w.heap.size rfl).2;refine⟨w1.heap.size,jC (jC c w.heap.size .used) w1.heap.size .space,rfl,HB.o.alloc HB.o.size _,⟨_,zK1 w1 _,qM _ _ _,?_⟩,fun k hk=>?_⟩
 ·rw[List.length_replicate];refine⟨?_,fun k hk=>?_⟩
  ·have h:=HOWN.o;rw[qIu] at h;exact h.kept (Below.toGrown ((zB _ w1).alloc (zo _) _) none) (by cases Value.ownBlock (Value.slice (some ⟨w.heap.size,0,none⟩) n n)<;>simp)
  ·simp[Value.ownBlock] at hk;subst hk;rw[qJ hgl (zo _),qM]
 ·rw[qJ (Nat.lt_trans hk hgl) (zo _),qJ hk (zo _)]
def qMt (T:Tab)(w:World)(c:Nat→Col)(e:Ending)(w':World):Prop :=
 ∃ (b:Nat) (c2:Nat→Col),e=.returned (.tuple #[.pointer (some ⟨b,0,none⟩),.nilIface])∧Below w.heap.size w w'∧DirsAt w' c2 b ⟨T,[],0⟩∧∀ k,k<w.heap.size→c2 k=c k
theorem qLu {w:World}{c:Nat→Col}{bt:Nat}{T:Tab}(h:TabAt w c bt T) :
  Calls Tryz.prog 17 #[.pointer (some ⟨bt,0,none⟩)] w (qMt T w c):=by
 have hmm:=@run_makeMap Tryz.prog;have HT:=Hh h;clear h;go_enter Tryz.func17,Tryz.ntmps17;go_wp2_with fail;go_ret2;have hb1:Below w.heap.size w (w.alloc (.map #[] 0)):=(zB _ w).alloc (zo _) _;have e1:Ext w (w.alloc (.map #[] 0)) c (jC c w.heap.size .dirsMap) S0:=Ext.made w c S0 _ _;have e2:=Ext.made (w.alloc (.map #[] 0)) (jC c w.heap.size .dirsMap) S0 (.cells #[.pointer (some ⟨bt,0,none⟩),.map (some w.heap.size),.int .i64 0] 88) .dirs;have e3:=e1.trans e2;refine⟨(w.alloc (.map #[] 0)).heap.size,jC (jC c w.heap.size .dirsMap) (w.alloc (.map #[] 0)).heap.size .dirs,by simp,hb1.alloc (by simp) _,⟨bt,w.heap.size,fun _=>[],fun _=>0,?_⟩,fun k hk=>?_⟩
 ·refine⟨zK1 _ _,qM _ _ _,HT.o.ext e3 rfl (fun _ _=>rfl),?_,?_,(fun k e he=>by cases he),(fun k e he=>by cases he),(fun k e he=>by cases he)⟩
  ·rw[qJ (n:=(w.alloc (.map #[] 0)).heap.size) (by simp) (zo _),qM]
  ·exact(zzMapAt.made w Tryz.prog 3 dY).ext e2 (qM _ _ _) rfl
 ·rw[qJ (n:=w.heap.size) hk (by simp),qJ hk (zo _)]
def qLH (D:List (List UInt8))(w:World)(c:Nat→Col)(e:Ending)(w':World):Prop :=
 ∃ (b:Nat) (c2:Nat→Col),e=.returned (.tuple #[.pointer (some ⟨b,0,none⟩),.nilIface])∧Below w.heap.size w w'∧TabAt w' c2 b ⟨D,[]⟩∧∀ k,k<w.heap.size→c2 k=c k
theorem qMT {w:World}{c:Nat→Col}{bd:Nat}{D:List (List UInt8)}(h:DiskAt w c bd D)(h1:1≤D.length)(h2:D.length≤512) :
  Calls Tryz.prog 16 #[.pointer (some ⟨bd,0,none⟩)] w (qLH D w c):=by
 have hmm:=@run_makeMap Tryz.prog;have HD:=Hh h;have HLN:=Hh (qL6 h);have HSN:=Hh (qMV D.length h1 h2 w c);clear h;go_enter Tryz.func16,Tryz.ntmps16;go_upto_region 6 with (first
  | (go_at_call 27;refine HLN.o.mono ?_;rintro ev w2 ⟨rfl,hw2⟩;have hw3:w=w2:=hw2.symm;clear hw2;subst hw3)
  | (go_at_call 26;refine HSN.o.mono ?_;rintro ev w3 ⟨bs,c3,rfl,hb3,hs3,hc3⟩;have HB3:=Hh hb3;have HS3:=Hh hs3;have HC3:=Hh hc3;clear hb3 hs3 hc3))
 go_wp2_with fail;go_ret2;have hb1:Below w3.heap.size w3 (w3.alloc (.map #[] 0)):=(zB _ w3).alloc (zo _) _;have e0:Ext w w3 c c3 S0:=(Ext.of_below HB3.o c S0).recolor fun b hb _=>HC3.o b hb
 have e1:Ext w3 (w3.alloc (.map #[] 0)) c3 (jC c3 w3.heap.size .tabMap) S0:=Ext.made w3 c3 S0 _ _;have e2:=Ext.made (w3.alloc (.map #[] 0)) (jC c3 w3.heap.size .tabMap) S0 (.cells #[.pointer (some ⟨bd,0,none⟩),.pointer (some ⟨bs,0,none⟩),.map (some w3.heap.size)] 85) .tab;have e3:=e1.trans e2;refine⟨(w3.alloc (.map #[] 0)).heap.size,jC (jC c3 w3.heap.size .tabMap) (w3.alloc (.map #[] 0)).heap.size .tab,by simp,HB3.o.trans ((hb1.alloc (by simp) _).mono HB3.o.size),⟨bd,bs,w3.heap.size,fun _=>0,?_⟩,fun k hk=>?_⟩
 ·refine⟨zK1 _ _,qM _ _ _,HD.o.ext (e0.trans e3) rfl rfl,?_,?_,?_,fun k x hx=>?_⟩
  ·have hu:vN ⟨D,[]⟩=List.replicate D.length false:=by
    unfold vN Tab.isUsed;simp only[List.any_nil];exact List.eq_replicate_iff.2 ⟨by simp,fun x hx=>by
     obtain⟨k,_,rfl⟩:=zb.1 hx
     rfl⟩
   rw[hu];exact HS3.o.ext e3 rfl rfl
  ·rw[qJ (n:=(w3.alloc (.map #[] 0)).heap.size) (by simp) (zo _),qM]
  ·refine((zzMapAt.made w3 Tryz.prog 3 dY).ext e2 (qM _ _ _) rfl).congr fun k=>?_
   simp[jT,Tab.at_]
  ·simp[Tab.at_] at hx
 ·have hlt:k<w3.heap.size:=zt hk HB3.o.size;rw[qJ (n:=w3.heap.size) hlt (by simp),qJ hlt (zo _)];exact HC3.o k hk
end Go.Proofs.YtbmkaekimccdgaaGreatDoor
namespace Go.Proofs.YtbmkaekimccdgaaGreatDoor
open Go.RowKit Go.Sort Stl
theorem qN5:∀ n:Nat,n≤512→bits BinOp.and IntKind.u64 (n:Int) 4294967295=(n:Int):=by decide +kernel
theorem qJi (n:Nat)(hn:n≤512)(w:World):Calls Tryz.prog 87 #[.int .u64 1,.int .u64 n] w fun e w'=>e=.returned (.tuple #[.int .u64 0,.int .u64 n])∧w'=w:=by
 have b0:bits BinOp.and IntKind.u64 0 4294967295=0:=qN5 0 (by omega);have b1:bits BinOp.and IntKind.u64 1 4294967295=1:=qN5 1 (by omega);have b2:=qN5 n hn;have d1:(n:Int)/4294967296=0:=by omega
 have d2:IntKind.u64.wrap (n:Int)=(n:Int):=by simp[IntKind.wrap,IntKind.bits,IntKind.signed];omega
 go_enter Tryz.func87,Tryz.ntmps87;go_wp2;go_ret2;exact⟨by simp,rfl⟩
theorem mul_one (n:Nat)(hn:n≤512)(w:World):Calls Tryz.prog 46 #[.int .u64 1,.int .u64 n] w fun e w'=>e=.returned (.tuple #[.int .u64 0,.int .u64 n])∧w'=w:=by
 have HM:=Hh (qJi n hn w);go_enter Tryz.func46,Tryz.ntmps46;go_wp2_with (go_at_call 87;refine HM.o.mono ?_;rintro ev w2 ⟨rfl,rfl⟩);go_ret2;exact⟨rfl,rfl⟩
theorem qM7:(Tryz.prog.info? 9).map (·.size)=some 1:=by kernel_rfl
def qOv (w0 w:World)(g n m:Nat)(z:List UInt8):Prop :=
 ∃ L:List Value,w.heap[g]?=some (.cells L.toArray 9 (0,0))∧L.length=n∧L.take m=List.replicate m (encStr z)∧Below w0.heap.size w0 w
theorem qMf {n m k:Nat}{L:List Value}{v:Value}(hL:L.length=n)(ht:L.take m=List.replicate m v)(hk:m+k≤n)(hkm:k≤m):(splice L m (L.take k)).length=n∧(splice L m (L.take k)).take (m+k)=List.replicate (m+k) v:=by
 have hkl:(L.take k).length=k:=by simp;omega
 refine⟨by rw[length_splice _ _ _ (by omega),hL],?_⟩;have e:L.take k=List.replicate k v:=by
  have:=congrArg (List.take k) ht;rw[List.take_take,Nat.min_eq_left hkm,List.take_replicate,Nat.min_eq_left hkm] at this;exact this
 unfold splice;rw[ht,e,← List.append_assoc,List.replicate_append_replicate,List.take_left' (by simp)]
theorem qH7 (z:List UInt8)(n:Nat)(h1:1≤n)(h2:n≤512)(w:World)(bx:Nat)(hbx:bx<w.heap.size)(hc:w.cell? ⟨bx,0,none⟩=some (.string ⟨z.toArray⟩)) :
  Calls Tryz.prog 24 #[.slice (some ⟨bx,0,none⟩) 1 1,.int .i64 n] w fun e w'=>e=.returned (.slice (some ⟨w.heap.size,0,none⟩) n n)∧w'.ownsRow w.heap.size 9 1 (.slice (some ⟨w.heap.size,0,none⟩) n n) n (List.replicate n (encStr z))∧Below w.heap.size w w':=by
 have i1:¬ (n:Int)<0:=by omega
 have i2:¬ (9223372036854775807:Int)<(n:Int):=by omega
 have i3:IntKind.u64.wrap (n:Int)=(n:Int):=by simp[IntKind.wrap,IntKind.bits,IntKind.signed];omega
 have HM:=Hh (mul_one n h2 w);obtain⟨i0,hi,hz0,hz1,hz2⟩:=mY.info;obtain⟨w1,hmk,hown,hg⟩:=run_makeSlice_full (P:=Tryz.prog) w 0 22 9 i0 (.string ByteArray.empty) 1 Tryz.underlying22 hi hz0 hz1 .i64 .i64 n (by omega) (by rw[hz2];omega) (by unfold maxLen;omega) (zw _);have HB1:=Hh ((zB w.heap.size w).grown hg (zo _) (fun k hk=>by cases hk));have hrow:∃ L:List Value,w1.heap[w.heap.size]?=some (.cells L.toArray 9 (0,0))∧L.length=n:=by
  rcases hown.2 with ⟨h3,h4⟩ | ⟨g,cap,cur,e1,_,h3,_,_,h4,_⟩
  ·omega
  ·injection e1 with e1 e2 e3
   injection e1 with e1
   injection e1 with e1
   subst e1 e3;exact⟨cur.toList,by simpa using h3,by simpa using h4⟩
 obtain⟨L0,hL0,hL1⟩:=hrow;have HL0:=Hh hL0;have HL1:=Hh hL1;have c0:w1.cell? ⟨bx,0,none⟩=some (.string ⟨z.toArray⟩):=(HB1.o.cell (p:=⟨bx,0,none⟩) hbx).trans hc;have HC0:=Hh c0;clear hi hz0 hz1 hz2 hown hg hL0 hL1 hc;have HMIN:=Hh (show ([Value.string ⟨z.toArray⟩]:List Value).length=Nat.min 1 n by simp[Nat.min_def];omega);have HSRC:=Hh (show ∀ (j:Nat) (v:Value),[Value.string ⟨z.toArray⟩][j]?=some v→w1.cell? ((⟨bx,0,none⟩:Addr).add j)=some v from fun j v hj=>by
  cases j with
  | zero =>
   have e1:(⟨bx,0,none⟩:Addr).add 0=⟨bx,0,none⟩:=by unfold Addr.add;split<;>simp_all
   simp only[List.getElem?_cons_zero,zB1] at hj
   rw[e1,← hj]
   exact HC0.o
  | succ j=>simp at hj)
 have HFIT:=Hh (show 0+([Value.string ⟨z.toArray⟩]:List Value).length≤L0.length by rw[HL1.o];simp;omega);have HONE:=Hh (show ∀ v∈([Value.string ⟨z.toArray⟩]:List Value),v.oneCell'=true by simp[Value.oneCell']);obtain⟨w2,hcp,HG2,HB2⟩:∃ w2,(Builtin.copy_ #[22,22] 3 #[.slice (some ⟨w.heap.size,0,none⟩) n n,.slice (some ⟨bx,0,none⟩) 1 1]).run Tryz.prog w1=.ok (.int .i64 1) w2∧Hg (w2.heap[w.heap.size]?=some (.cells (splice L0 0 [.string ⟨z.toArray⟩]).toArray 9 (0,0)))∧Hg (Below w.heap.size w w2):=by
  refine⟨_,run_copy_row (P:=Tryz.prog) w1 22 22 3 9 w.heap.size 0 n n ⟨bx,0,none⟩ 1 1 L0.toArray 9 [.string ⟨z.toArray⟩] Tryz.underlying22 qM7 HL0.o HMIN.o HSRC.o (by simpa using HFIT.o) HONE.o,Hh ?_,Hh (below_setRow HB1.o (zo _) _)⟩;simpa[splice] using setRow_heap w1 w.heap.size _ _ 9 _ HL0.o
 go_enter Tryz.func24,Tryz.ntmps24;go_upto_region 7 with (go_at_call 46;refine HM.o.mono ?_;rintro ev w2 ⟨rfl,hw2⟩;have hw3:w=w2:=hw2.symm;clear hw2;subst hw3);go_wp2_with fail;have H0:=Hh (show qOv w w2 w.heap.size n 1 z from ⟨_,HG2.o,by rw[length_splice _ _ _ HFIT.o];exact HL1.o,by simp[splice,encStr],HB2.o⟩);clear HG2 HB2 hmk c0 hcp
 go_loopw [8] (fun a wr=>∃ m:Nat,1≤m∧m≤n∧a=.int .i64 m∧Hg (qOv w wr w.heap.size n m z)) (fun a _=>n-(intOf a).toNat)
 case atStart=>exact⟨1,zo _,h1,rfl,H0⟩
 case round =>
  obtain⟨m,hm1,hm2,rfl,HS⟩:=hrel;by_cases hmn:m<n
  ·have j1:(m:Int)<(n:Int):=by omega
   have j2:(0:Int)≤(m:Int):=by omega
   have j3:(m:Int)≤(n:Int):=by omega
   obtain⟨L,l1,l2,l3,l4⟩:=HS.o;have HLL:=Hh l1;have HLN:=Hh l2;have HLT:=Hh l3;have HLB:=Hh l4;obtain⟨k,hk⟩:∃ k,k=min m (n-m):=⟨_,rfl⟩;have hkm:k≤m:=by omega
   have hkn:m+k≤n:=by omega
   have hk1:1≤k:=by omega
   have HLEN:=Hh (show (L.take k).length=Nat.min m (n-m) by show _=min m (n-m);rw[List.length_take,l2];omega);have HSR:=Hh (show ∀ (j:Nat) (v:Value),(L.take k)[j]?=some v→wr.cell? ((⟨w.heap.size,0,none⟩:Addr).add j)=some v from fun j v hj=>by
    have e1:(⟨w.heap.size,0,none⟩:Addr).add j=⟨w.heap.size,j,none⟩:=by unfold Addr.add;split<;>simp_all
    rw[e1,zJ1 wr _ j _ _ _ l1]
    rw[List.getElem?_take] at hj
    split at hj
    ·simpa using hj
    ·cases hj)
   have HFT:=Hh (show m+(L.take k).length≤L.length by rw[List.length_take,l2];omega);have HON:=Hh (show ∀ v∈L.take k,v.oneCell'=true from fun v hv=>by
    have h5:L.take k=List.replicate k (encStr z):=by
     have:=congrArg (List.take k) l3
     rw[List.take_take,Nat.min_eq_left hkm,List.take_replicate,Nat.min_eq_left hkm] at this
     exact this
    rw[h5] at hv
    rw[(List.mem_replicate.1 hv).2]
    rfl)
   have HRM:=Hh (qMf (k:=k) l2 l3 hkn hkm);obtain⟨X,hX⟩:∃ X,X=L.take k:=⟨_,rfl⟩;rw[← hX] at HLEN HSR HFT HON HRM;have HXL:=Hh (show X.length=k by rw[HLEN.o];exact hk.symm);have HK1:=Hh hk1;have HKN:=Hh hkn;clear hk hkm hkn hk1;clear l1 l2 l3 l4 hX;obtain⟨w4,hcp2,HG4,HB4⟩:∃ w4,(Builtin.copy_ #[22,22] 3 #[.slice (some ⟨w.heap.size,m,none⟩) (n-m) (n-m),.slice (some ⟨w.heap.size,0,none⟩) m n]).run Tryz.prog wr.drew=.ok (.int .i64 (k:Int)) w4∧Hg (w4.heap[w.heap.size]?=some (.cells (splice L m X).toArray 9 (0,0)))∧Hg (Below w.heap.size w w4):=by
    have hrun:=run_copy_row (P:=Tryz.prog) wr.drew 22 22 3 9 w.heap.size m (n-m) (n-m) ⟨w.heap.size,0,none⟩ m n L.toArray 9 X Tryz.underlying22 qM7 HLL.o HLEN.o HSR.o (by simpa using HFT.o) HON.o;rw[HXL.o] at hrun;refine⟨_,hrun,Hh ?_,Hh (below_setRow HLB.o.drew (zo _) _)⟩;simpa[splice,HXL.o] using setRow_heap wr.drew w.heap.size _ (L.take m++(X++L.drop (m+k))).toArray 9 _ HLL.o
   go_upto_region 9 with fail
   go_region
   have hwr:wrap64 ((m:Int)+(k:Int))=((m+k:Nat):Int):=by
    have:=HKN.o;unfold wrap64;omega
   rw[hwr];go_wp2;go_roundw
   case rel =>
    exact⟨m+k,by have:=hm1;omega,HKN.o,rfl,Hh ⟨splice L m X,HG4.o,HRM.o.1,HRM.o.2,HB4.o⟩⟩
   case measure =>
    have:=HK1.o;have:=HKN.o;simp[intOf];omega
  ·have j1:¬ (m:Int)<(n:Int):=by omega
   obtain rfl:m=n:=by omega
   go_wp2;go_ret;obtain⟨L,l1,l2,l3,l4⟩:=HS.o;refine⟨rfl,⟨by simp,.inr ⟨w.heap.size,m,L.toArray,rfl,zo _,l1,zo _,by unfold maxLen;omega,by simpa using l2,?_⟩⟩,l4⟩;rw[Nat.mul_one];exact l3
end Go.Proofs.YtbmkaekimccdgaaGreatDoor
namespace Go.Proofs.YtbmkaekimccdgaaGreatDoor
open Go.RowKit Go.Sort Go.Shelf Stl
def qJN (n:Nat)(w:World)(c:Nat→Col)(e:Ending)(w':World):Prop :=
 ∃ (b:Nat) (c2:Nat→Col),e=.returned (.tuple #[.pointer (some ⟨b,0,none⟩),.nilIface])∧Below w.heap.size w w'∧DiskAt w' c2 b (List.replicate n (List.replicate 16 0))∧∀ k,k<w.heap.size→c2 k=c k
theorem qKJ (n:Nat)(h1:1≤n)(h2:n≤512)(w:World)(c:Nat→Col) :
  Calls Tryz.prog 15 #[.int .i64 n] w (qJN n w c):=by
 have i1:¬ (n:Int)<1:=by omega
 have i2:¬ (512:Int)<(n:Int):=by omega
 obtain⟨z,hz⟩:∃ z:List UInt8,z=List.replicate 16 0:=⟨_,rfl⟩;have HR:=Hh (show Calls Tryz.prog 25 #[.string ⟨#[0]⟩,.int .i64 16] w fun e w'=>e=.returned (.string ⟨z.toArray⟩)∧Below w.heap.size w w' from (Tryz.strings_Repeat_main ⟨#[0]⟩ 16 w (by decide) (by decide) (by decide) (by decide)).mono (by
  rintro e w' ⟨rfl,hb⟩
  exact⟨by rw[hz];rfl,hb⟩))
 have HZ:=Hh hz;clear hz;go_enter Tryz.func15,Tryz.ntmps15;go_upto_region 3 with fail;go_wp2_with (first
  | (go_at_call 25;refine HR.o.mono ?_;rintro ev w2 ⟨rfl,hb2⟩;have HB2:=Hh hb2;clear hb2)
  | (go_at_call 24;refine(qH7 z n h1 h2 _ w2.heap.size (by simp) (zJ1 _ _ 0 _ _ _ (zK1 w2 _))).mono ?_;rintro ev w4 ⟨rfl,hown,hb4⟩;have HOWN:=Hh hown;have HB4:=Hh hb4;clear hown hb4)
  | fail)
 go_ret2;have hs2:=HB2.o.size;have hs4:=HB4.o.size;have hz2:(w2.alloc (.cells #[.string ⟨z.toArray⟩] 9)).heap.size=w2.heap.size+1:=by simp
 have hb24:Below w2.heap.size w2 w4:=((zB _ w2).alloc (zo _) _).trans (HB4.o.mono (by simp));refine⟨w4.heap.size,jC (jC c (w2.heap.size+1) .diskL) w4.heap.size .disk,by simp,(HB2.o.trans (hb24.mono hs2)).alloc (by have:=hb24.size;omega) _,⟨_,zK1 w4 _,qM _ _ _,?_⟩,fun k hk=>?_⟩
 ·have h1:w4.ownsRow (w2.heap.size+1) 9 1 (.slice (some ⟨w2.heap.size+1,0,none⟩) n n) n (List.replicate n (encStr z)):=by
   have h:=HOWN.o;rw[hz2] at h;exact h
  simp only[List.length_replicate,List.map_replicate];rw[← HZ.o];refine RowAt.of_owns (h1.kept (Below.toGrown ((zB _ w4).alloc (zo _) _) none) (by cases Value.ownBlock (Value.slice (some ⟨w2.heap.size+1,0,none⟩) n n)<;>simp)) (fun k hk=>?_);simp[Value.ownBlock] at hk;subst hk;rw[qJ (k:=w2.heap.size+1) (n:=w4.heap.size) (h1.lt _ rfl).2 (zo _)];rw[qM]
 ·have h4:=hb24.size;rw[qJ (n:=w2.heap.size) (by omega) h4,qJ (n:=w2.heap.size) (by omega) (by omega)]
def qI9 (n:Nat)(w:World)(c:Nat→Col)(e:Ending)(w':World):Prop :=
 ∃ (b tp:Nat) (c2:Nat→Col),e=.returned (.tuple #[.pointer (some ⟨b,0,none⟩),.nilIface])∧w.heap.size≤b∧Ext w w' c c2 S0∧StoAt w' c2 b (Sto.new n) tp∧TapeAt w' c2 tp ⟨[],false,none⟩
theorem qFi (n:Nat)(h1:1≤n)(h2:n≤512)(w:World)(c:Nat→Col) :
  Calls Tryz.prog 11 #[.int .i64 n] w (qI9 n w c):=by
 have HDK:=Hh (qKJ n h1 h2 w c);go_enter Tryz.func11,Tryz.ntmps11;go_upto_region 4 with (go_at_call 15;refine HDK.o.mono ?_;rintro ev w1 ⟨b1,c1,rfl,hb1,hd1,hc1⟩;have HB1:=Hh hb1;have HD1:=Hh hd1;have HC1:=Hh hc1;have HTN:=Hh (qMT hd1 (by rw[List.length_replicate];exact h1) (by rw[List.length_replicate];exact h2));clear hb1 hd1 hc1);go_upto_region 7 with (go_at_call 16;refine HTN.o.mono ?_;rintro ev w2 ⟨b2,c2,rfl,hb2,ht2,hc2⟩;have HB2:=Hh hb2;have HC2:=Hh hc2;have HDN:=Hh (qLu ht2);clear hb2 ht2 hc2);go_upto_region 10 with (go_at_call 17;refine HDN.o.mono ?_;rintro ev w3 ⟨b3,c3,rfl,hb3,hd3,hc3⟩;have HB3:=Hh hb3;have HD3:=Hh hd3;have HC3:=Hh hc3;clear hb3 hd3 hc3);have HTP:=Hh (qJJ [] (by simp) w3 c3);go_upto_region 13 with (go_at_call 18;refine HTP.o.mono ?_;rintro ev w4 ⟨b4,c4,rfl,hge4,he4,ht4⟩;have HE4:=Hh he4;have HT4:=Hh ht4;clear he4 ht4);have HB3':=Hh ((HB1.o.trans (HB2.o.mono HB1.o.size)).trans (HB3.o.mono (HB1.o.trans (HB2.o.mono HB1.o.size)).size));have e4:Ext w w4 c c4 S0:=((Ext.of_below HB3'.o c S0).recolor (fun k hk _=>(HC3.o k (zt hk (HB1.o.trans (HB2.o.mono HB1.o.size)).size)).trans ((HC2.o k (zt hk HB1.o.size)).trans (HC1.o k hk)))).trans HE4.o;have HE:=Hh e4;have HD4:=Hh (HD3.o.ext HE4.o rfl (fun _ _=>rfl));clear e4;go_wp2;go_ret2;have ho:=zK1 w4 (.cells #[.pointer (some ⟨b3,0,none⟩),.slice none 0 0,.slice none 0 0,.pointer (some ⟨b4,0,none⟩)] 59);have em:=Ext.made w4 c4 S0 (.cells #[.pointer (some ⟨b3,0,none⟩),.slice none 0 0,.slice none 0 0,.pointer (some ⟨b4,0,none⟩)] 59) .sto;refine⟨_,_,_,rfl,HE.o.size,HE.o.trans em,?_,HT4.o.ext em rfl rfl⟩;exact StoX.shut (zs:=[]) (A:=none) (cap:=0) (R:=none) (rc:=0) ⟨ho,qM _ _ _,HD4.o.ext em rfl (fun _ _=>rfl),RowAt.nil _ _ _ _ _,rfl,by simp,RowAt.nil _ _ _ _ _⟩
structure StAt (w:World)(c:Nat→Col)(b tp:Nat)(p:Nat→Addr)(s:Sto)(t:Stl.Tape):Prop where
 sto:StoAt w c b s tp
 tape:TapeAt w c tp t
 env:Env w c p
theorem StAt.ext {w w2:World}{c c2:Nat→Col}{b tp:Nat}{p:Nat→Addr}{s:Sto}{t:Stl.Tape}(h:StAt w c b tp p s t)(e:Ext w w2 c c2 S0):StAt w2 c2 b tp p s t :=
 ⟨h.sto.ext e rfl (fun _ _=>rfl),h.tape.ext e rfl rfl,h.env.ext e rfl⟩
theorem qLz {i:Nat}{s:Sto}{t:Stl.Tape}(h:RunOk i s t)(hi:i≤300):vB s:=by
 have h1:=h.disk;have h2:=h.inos;have h3:=h.next;have h4:=h.ents;exact⟨h.sto,⟨h.sto.dirs,by omega,by omega,by omega,by omega⟩,by omega⟩
end Go.Proofs.YtbmkaekimccdgaaGreatDoor
namespace Go.Proofs.YtbmkaekimccdgaaGreatDoor
open Go.RowKit Go.Maps Go.Sort Go.Shelf Stl
structure CtSt (w0 W:World)(b5 k:Nat):Prop where
 cell:W.heap[b5]?=some (.cells #[.int .i64 k] 3 (0,0))
 old:w0.heap.size≤b5
 below:Below w0.heap.size w0 W
theorem CtSt.later {w0 W W':World}{b5 k:Nat}(h:CtSt w0 W b5 k)(hb:Below W.heap.size W W'):CtSt w0 W' b5 k :=
 ⟨(hb.block _ (zN1 h.cell)).trans h.cell,h.old,h.below.trans (hb.mono h.below.size)⟩
theorem CtSt.set {w0 W:World}{b5 k:Nat}(h:CtSt w0 W b5 k)(m:Nat):CtSt w0 (W.setCell ⟨b5,0,none⟩ (.int .i64 m)) b5 m∧NKeep W (W.setCell ⟨b5,0,none⟩ (.int .i64 m)):=by
 refine⟨⟨qH h.cell 0 _,h.old,h.below.setCell h.old _⟩,fun i cs T fr hi h1 h2=>?_⟩;rw[zA _ _ _ _ (by
  rintro rfl
  have:=h.cell.symm.trans hi
  injection this with this
  injection this with _ this
  exact h2.2 this.symm)]
 exact hi
def uR (l:List It):Nat:=((l.filter fun x=>x.n.kind==kFile).map fun x=>x.n.data.length).sum
def uP (x:It):Nat:=if x.n.kind==kFile then x.n.data.length else 0
theorem qIO (l:List It)(x:It):uR (l++[x])=uR l+uP x:=by
 unfold uR uP;rw[List.filter_append,zU,List.sum_append]
 cases h:x.n.kind==kFile<;>simp[h]
theorem qFE (n:Nd):mQ n=uR (items n):=rfl
theorem qEn:∀ l:List It,(∀ x∈l,x.n.data.length≤2000)→uR l≤l.length*2000
 | [],_=>zo _
 | x::r,h=>by
  have h1:=qEn r (fun y hy=>h y (by simp[hy]));have h2:=h x (by simp);have e:uR (x::r)=(if x.n.kind==kFile then x.n.data.length else 0)+uR r:=by
   unfold uR
   cases hk:x.n.kind==kFile<;>simp[hk]
  rw[e,zQ,Nat.add_mul];split<;>omega
theorem qBG {n:Nd}(h:ownErr n=0):n.data.length≤2000:=((vS n.kind n.data n.exec _).1 h).2.2.2.2.1
theorem qIe {w0 W:World}{b5 k:Nat}(x:It)(vs:List Value)(h:CtSt w0 W b5 k)(hk:k≤1000000)(W0:World)(hn:NodeAt W0 x.n vs) :
  Calls Tryz.prog 110 (#[.agg vs.toArray,.string ⟨(told x.path).toArray⟩]++#[.pointer (some ⟨b5,0,none⟩)]) W fun e W'=>e=.returned (.tuple #[])∧CtSt w0 W' b5 (k+1)∧NKeep W W':=by
 obtain⟨p',deep,n⟩:=x;obtain⟨kd,d,e,ks⟩:=n;obtain⟨A,c,rfl,_,_⟩:=hn.open;have hb1:Below W.heap.size W (W.alloc (.cells #[.string ⟨kd.toArray⟩,.string ⟨d.toArray⟩,.bool e,.slice A ks.length c] 134)):=(zB _ W).alloc (zo _) _;have HB:=Hh hb1;have HS:=Hh (h.later hb1);clear h hn hb1;simp only;go_enter Tryz.func110,Tryz.ntmps110;go_upto_region 1 with fail;generalize W.alloc (.cells #[.string ⟨kd.toArray⟩,.string ⟨d.toArray⟩,.bool e,.slice A ks.length c] 134)=W1 at *;have c5:=ce0 HS.o.cell;have f5:=qC HS.o.cell 0;go_wp2;go_end0;have h:=HS.o.set (k+1);exact⟨rfl,h.1,(NKeep.of_below HB.o).trans h.2⟩
theorem qJA {w0 W:World}{b5 k:Nat}(x:It)(vs:List Value)(h:CtSt w0 W b5 k)(hk:k≤1000000)(hd:x.n.data.length≤2000)(W0:World)(hn:NodeAt W0 x.n vs) :
  Calls Tryz.prog 109 (#[.agg vs.toArray,.string ⟨(told x.path).toArray⟩]++#[.pointer (some ⟨b5,0,none⟩)]) W fun e W'=>e=.returned (.tuple #[])∧CtSt w0 W' b5 (k+uP x)∧NKeep W W':=by
 obtain⟨p',deep,n⟩:=x;obtain⟨kd,d,e,ks⟩:=n;obtain⟨A,c,rfl,_,_⟩:=hn.open;have hb1:Below W.heap.size W (W.alloc (.cells #[.string ⟨kd.toArray⟩,.string ⟨d.toArray⟩,.bool e,.slice A ks.length c] 134)):=(zB _ W).alloc (zo _) _;have HB:=Hh hb1;have HS:=Hh (h.later hb1);have HX:=Hh (zK1 W (.cells #[.string ⟨kd.toArray⟩,.string ⟨d.toArray⟩,.bool e,.slice A ks.length c] 134));clear h hn hb1;have HFL:=Hh (show uP ⟨p',deep,.mk kd d e ks⟩=if kd==kFile then d.length else 0 from rfl);generalize uP ⟨p',deep,.mk kd d e ks⟩=fl at HFL ⊢;simp only[Nd.data] at hd ⊢;go_enter Tryz.func109,Tryz.ntmps109;go_upto_region 1 with fail;generalize W.alloc (.cells #[.string ⟨kd.toArray⟩,.string ⟨d.toArray⟩,.bool e,.slice A ks.length c] 134)=W1 at *;have c5:=ce0 HS.o.cell;have f5:=qC HS.o.cell 0;have q0:=ce0 HX.o;have q1:=ce1 HX.o
 cases hq:kd==[102,105,108,101] with
 | true =>
  have HQ:=Hh (show (kd==kFile)=true from hq);go_wp2;go_end0;have h:=HS.o.set (k+d.length);rw[show fl=d.length by rw[HFL.o,HQ.o];rfl];exact⟨rfl,h.1,(NKeep.of_below HB.o).trans h.2⟩
 | false =>
  have HQ:=Hh (show (kd==kFile)=false from hq);go_wp2;go_end0;rw[show fl=0 by rw[HFL.o,HQ.o];rfl];exact⟨rfl,HS.o,NKeep.of_below HB.o⟩
theorem qDZ:∀ args w,(callFunc 110 args).run Tryz.prog w=.ok (.enter 110 args) w:=enters_of Tryz.func110 (by kernel_rfl) rfl
theorem qEL:∀ args w,(callFunc 109 args).run Tryz.prog w=.ok (.enter 109 args) w:=enters_of Tryz.func109 (by kernel_rfl) rfl
theorem qFj (w:World)(o:Obj):CtSt w ((w.alloc o).alloc (.cells #[.int .i64 0] 3)) (w.heap.size+1) 0:=by
 refine⟨?_,by omega,((zB _ w).alloc (zo _) _).alloc (by simp) _⟩;have:=zK1 (w.alloc o) (.cells #[.int .i64 0] 3);simpa using this
theorem qKR (p:Nat→Addr)(n:Nd)(vs:List Value)(w:World)(hE:Errs w p)(hn:NodeAt w n vs) :
  Calls Tryz.prog 66 #[.agg vs.toArray] w fun e w'=>e=.returned (.int .i64 (xN n))∧Below w.heap.size w w':=by
 have HR:=Hh (show xN n=(items n).length from rfl);have HE:=Hh hE;have HN:=Hh hn;obtain⟨k,d,e,ks⟩:=n;obtain⟨A,c,rfl,_,_⟩:=hn.open;clear hE hn;have HH:=Hh (pE p w HE.o (.mk k d e ks) _ HN.o 110 #[.pointer (some ⟨w.heap.size+1,0,none⟩)] qDZ
  (fun l W=>CtSt w W (w.heap.size+1) l.length) (fun pre W W' h hb=>h.later hb) (fun pre W h=>h.below)
  (fun ht pre x W vs hI hnx hr=>by
   obtain⟨i1,i2⟩:=items_well ht
   obtain⟨rest,hr⟩:=hr
   have hlen:pre.length≤200:=by
    have:=congrArg List.length hr
    simp at this
    omega
   refine(qIe x vs hI (by omega) w hnx).mono fun e W' h=>?_
   refine⟨h.1,?_,h.2.2⟩
   show CtSt w W' (w.heap.size+1) (pre++[x]).length
   rw[zP]
   exact h.2.1) _ (qFj w (.cells #[.string ⟨k.toArray⟩,.string ⟨d.toArray⟩,.bool e,.slice A ks.length c] 134)))
 generalize xN (.mk k d e ks)=res at HR;go_enter Tryz.func66,Tryz.ntmps66;go_upto_region 3 with (go_at_call 106;refine HH.o.mono ?_;rintro ev w2 ⟨rfl,hI,_⟩;have HI:=Hh hI;have c5:=ce0 hI.cell;clear hI);go_wp2;go_ret;rw[HR.o];exact⟨rfl,HI.o.below⟩
theorem qLS (p:Nat→Addr)(n:Nd)(vs:List Value)(w:World)(hE:Errs w p)(hn:NodeAt w n vs) :
  Calls Tryz.prog 65 #[.agg vs.toArray] w fun e w'=>e=.returned (.int .i64 (mQ n))∧Below w.heap.size w w':=by
 have HR:=Hh (qFE n);have HE:=Hh hE;have HN:=Hh hn;obtain⟨k,d,e,ks⟩:=n;obtain⟨A,c,rfl,_,_⟩:=hn.open;clear hE hn;have HH:=Hh (pE p w HE.o (.mk k d e ks) _ HN.o 109 #[.pointer (some ⟨w.heap.size+1,0,none⟩)] qEL
  (fun l W=>CtSt w W (w.heap.size+1) (uR l)) (fun pre W W' h hb=>h.later hb) (fun pre W h=>h.below)
  (fun ht pre x W vs hI hnx hr=>by
   obtain⟨i1,i2⟩:=items_well ht
   obtain⟨rest,hr⟩:=hr
   have hlen:pre.length≤200:=by
    have:=congrArg List.length hr
    simp at this
    omega
   have hsz:=qEn pre (fun y hy=>qBG (i2 y (by rw[← hr];simp[hy])).1)
   refine(qJA x vs hI (by omega) (qBG (i2 x (by rw[← hr];simp)).1) w hnx).mono fun e W' h=>?_
   refine⟨h.1,?_,h.2.2⟩
   show CtSt w W' (w.heap.size+1) (uR (pre++[x]))
   rw[qIO]
   exact h.2.1) _ (qFj w (.cells #[.string ⟨k.toArray⟩,.string ⟨d.toArray⟩,.bool e,.slice A ks.length c] 134)))
 generalize mQ (.mk k d e ks)=res at HR;go_enter Tryz.func65,Tryz.ntmps65;go_upto_region 3 with (go_at_call 106;refine HH.o.mono ?_;rintro ev w2 ⟨rfl,hI,_⟩;have HI:=Hh hI;have c5:=ce0 hI.cell;clear hI);go_wp2;go_ret;rw[HR.o];exact⟨rfl,HI.o.below⟩
end Go.Proofs.YtbmkaekimccdgaaGreatDoor
namespace Go.Proofs.YtbmkaekimccdgaaGreatDoor
open Go.RowKit Go.Sort Go.Shelf Stl
theorem qEC:∀ l:List (List UInt8),47::Lib.join l [47]=gE l
 | []=>rfl
 | [x]=>by simp[Lib.join,gE]
 | x::y::r=>by
  have:=qEC (y::r);simp only[gE,zD,true_and] at this ⊢;have e:Lib.join (x::y::r) [47]=x++([47]++Lib.join (y::r) [47]):=by simp[Lib.join]
  rw[e,this];simp
theorem qHi:∀ (l:List (List UInt8)) (m:Nat),(∀ x∈l,x.length≤m)→(Lib.join l [47]).length≤l.length*(m+1)
 | [],_,_=>by simp[Lib.join]
 | [x],m,h=>by have:=h x (by simp);simp[Lib.join];omega
 | x::y::r,m,h=>by
  have h1:=h x (by simp);have h2:=qHi (y::r) m (fun z hz=>h z (by simp[hz]));have e2:Lib.join (x::y::r) [47]=x++([47]++Lib.join (y::r) [47]):=by simp[Lib.join]
  rw[e2];simp only[zP,zQ,List.length_nil] at h2 ⊢;have e:(r.length+1+1)*(m+1)=(r.length+1)*(m+1)+(m+1):=by rw[Nat.add_mul (r.length+1) 1,Nat.one_mul]
  omega
theorem qJE {w:World}{A:Option Addr}{cap:Nat}{l:List (List UInt8)}(h:Strs w (.slice A l.length cap) l)(hcap:l.length≤cap)(hl:l.length≤1000000)(hm:∀ x∈l,x.length≤1000000) :
  Calls Tryz.prog 105 #[.slice A l.length cap] w fun e w'=>e=.returned (.string ⟨(gE l).toArray⟩)∧Below w.heap.size w w':=by
 have hjl:=qHi l 1000000 hm;have hjx:l.length*(1000000+1)≤1000000*1000001:=Nat.mul_le_mul_right _ hl;have hall:Calls Tryz.prog 101 #[.slice A l.length cap,.string ⟨#[47]⟩] w fun e w'=>e=.returned (.string ⟨(Lib.join l [47]).toArray⟩)∧Below w.heap.size w w':=by
  by_cases hn:l=[]
  ·subst hn;refine(Tryz.strings_Join_none A cap ⟨#[47]⟩ w).mono ?_;rintro ev w' ⟨rfl,rfl⟩;exact⟨rfl,zB _ _⟩
  ·obtain⟨A2,c2,e,h1⟩:=h;injection e with e1 e2 e3
   subst e1 e3;obtain⟨b,off,rfl,hb,hc⟩:=h1 hn;have HJ:=Tryz.strings_Join b off cap (l.map fun x=>(⟨x.toArray⟩:ByteArray)) ⟨#[47]⟩ w (fun j x hx=>by
    rw[zN] at hx
    cases hx2:l[j]? with
    | none=>rw[hx2] at hx;cases hx
    | some y =>
     rw[hx2] at hx
     simp only[zA1,zB1] at hx
     rw[← hx]
     exact hc j y hx2) hb (by simp;omega) (by simpa using hcap) (by
      have e:(l.map fun x=>(⟨x.toArray⟩:ByteArray)).map (·.data.toList)=l:=by rw[zW];exact List.map_id' l
      rw[e,show (⟨#[47]⟩:ByteArray).data.toList=[47] from rfl]
      omega)
   rw[show (l.map fun x=>(⟨x.toArray⟩:ByteArray)).map (·.data.toList)=l by rw[zW];exact List.map_id' l,show (⟨#[47]⟩:ByteArray).data.toList=[47] from rfl,zT] at HJ;exact HJ
 have HJ:=Hh hall;rw[← qEC l];have hjl2:(Lib.join l [47]).length≤1000000000000000:=by omega
 generalize Lib.join l [47]=r at *;have s1:¬ 9223372036854775807<1+r.length:=by omega
 have s2:ByteArray.mk #[47]++ByteArray.mk r.toArray=ByteArray.mk (47::r).toArray:=ByteArray.mk_append_mk [47] r;clear hall h hcap hm hjl hjx hjl2;go_enter Tryz.func105,Tryz.ntmps105;go_wp2_with (go_at_call 101;refine HJ.o.mono ?_;rintro e w' ⟨rfl,hb'⟩);go_ret;exact⟨rfl,hb'⟩
end Go.Proofs.YtbmkaekimccdgaaGreatDoor
