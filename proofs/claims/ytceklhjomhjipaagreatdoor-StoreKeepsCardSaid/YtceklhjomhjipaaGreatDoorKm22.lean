/- Texts of this claim, merged: TabRead, ReadAll. -/
import Derived.Test.YtceklhjomhjipaaGreatDoorKm21
set_option maxHeartbeats 16000000
set_option maxRecDepth 1000000
set_option linter.all false
namespace Stl
def qGk (T:Tab) (x:Ino) (i:Nat):List UInt8:=((x.blocks.take i).map fun k=>T.disk.getD k []).flatten
theorem qNn (T:Tab) (x:Ino) (i:Nat) (h:x.blocks.length≤i):(qGk T x i).take x.bytes=T.raw x:=by
 unfold qGk Tab.raw
 rw [zn h]
theorem qHc (T:Tab) (x:Ino) (i:Nat) (h:i<x.blocks.length) (hk:x.blocks[i]<T.disk.length):qGk T x (i+1)=qGk T x i++T.disk[x.blocks[i]]:=by
 unfold qGk
 rw [zo h,zU,List.flatten_append]
 congr 1
 simp [List.getD_eq_getElem?_getD,hk]
theorem qCZ {T:Tab} (ht:qBl T) {x:Ino} (hin:∀ k∈x.blocks,k<T.disk.length):∀ i,i≤x.blocks.length→(qGk T x i).length=16*i
 | 0,_=>rfl
 | i+1,h=>by
  have hi:i<x.blocks.length:=by omega
  have hk:=hin _ (zO hi)
  rw [qHc T x i hi hk,zP,qCZ ht hin i (by omega),ht.whole _ (zO hk)]
  omega
end Stl
namespace Go.Proofs.YtceklhjomhjipaaGreatDoor
open Go.RowKit Go.Sort Go.Shelf Stl
section
variable {w:World} {c:Nat→Col} {b:Nat} {T:Tab}
theorem qLc (h:TabAt w c b T) (n:Nat) (hn:n≤1000000) (hx:T.at_ n=none) {te:TypeId} {pe:Value} (hg:w.cell? ⟨7,0,none⟩=some (.iface te pe)) :
  Calls Tryz.prog 143 #[.pointer (some ⟨b,0,none⟩),.int .i64 n] w fun e w'=>e=.returned (.tuple #[.string ⟨#[]⟩,.iface te pe])∧Below w.heap.size w w':=by
 obtain ⟨bd,bs,bm,st,h⟩:=h
 have hlk:=h.lookNo hn hx
 have c2:=ce2 h.own
 clear h hx
 go_enter Tryz.func143,Tryz.ntmps143
 go_upto_region 3 with fail
 go_region
 go_wp2
 go_ret2
 exact ⟨rfl,(zB _ _).drew⟩
theorem qMs (h:TabAt w c b T) (ht:qBl T) (hD:T.disk.length≤1000000) (n:Nat) (hn:n≤1000000) {x:Ino} (hx:T.at_ n=some x) {te:TypeId} {pe:Value} (hg:w.cell? ⟨9,0,none⟩=some (.iface te pe)) :
  Calls Tryz.prog 143 #[.pointer (some ⟨b,0,none⟩),.int .i64 n] w fun e w'=>e=.returned (.tuple (if crc (T.raw x)=x.sum then #[.string ⟨(T.raw x).toArray⟩,.nilIface] else #[.string ⟨#[]⟩,.iface te pe]))∧Below w.heap.size w w':=by
 obtain ⟨bd,bs,bm,st,h⟩:=h
 have hlk:=h.lookOk hn hx
 have H:=Hh h
 have c2:=ce2 h.own
 have hbl:=lt_of_cell c2
 obtain ⟨A,cap,h1,h2,h3,h4⟩:=h.cells hx
 have HI:=Hh h1
 have HRO:=Hh h4
 have HG:=Hh hg
 have hgl:=lt_of_cell hg
 have hbk:x.blocks.length≤1000:=by rw [ht.need n x hx];have:=ht.bytes n x hx;unfold qAA;omega
 have hnb:=ht.need n x hx
 have hby:x.bytes≤16*x.blocks.length:=by rw [hnb];unfold qAA;omega
 have hby2:=ht.bytes n x hx
 have HIN:=Hh (ht.inside n x hx)
 have HT:=Hh ht
 have hB0:=(zB _ w).alloc (zq _) (.cells #[.pointer none,.slice none 0 0] 124)
 have HB0:=Hh hB0
 have q3:=ce3 ((hB0.block _ (qAa h1)).trans h1)
 have HBU:=Hh (show Lib.IsBuilder 124 5 w.heap.size w.heap.size (Lib.byteCells (qGk T x 0)) (w.alloc (.cells #[.pointer none,.slice none 0 0] 124)) from
  .inl ⟨zq _,.slice none 0 0,zK1 _ _,zF1 _ _ _ _,by simp [Value.ownBlock]⟩)
 clear h h1 h2 h3 h4 hx ht hg hB0 hnb
 go_enter Tryz.func143,Tryz.ntmps143
 go_wp2_with fail
 clear hlk c2 q3
 generalize w.alloc (.cells #[.pointer none,.slice none 0 0] 124)=w1 at *
 go_loopw [31] (fun a wr=>∃ i:Nat,i≤x.blocks.length∧a=.int .i64 i∧Hid (Below w.heap.size w wr)∧Hid (Lib.IsBuilder 124 5 w.heap.size w.heap.size (Lib.byteCells (qGk T x i)) wr)) (fun a _=>x.blocks.length-(intOf a).toNat)
 case atStart=>exact ⟨0,zx _,rfl,HB0,HBU⟩
 case round =>
  obtain ⟨i,hi,rfl,HBw,HBr⟩:=hrel
  have c0:wr.cell? ⟨b,0,none⟩=some (.pointer (some ⟨bd,0,none⟩)):=(HBw.out.cell (p:=⟨b,0,none⟩) hbl).trans (zJ1 w b 0 _ _ _ H.out.own)
  by_cases hil:i<x.blocks.length
  ·have i1:(i:Int)<(x.blocks.length:Int):=by omega
   have i2:(0:Int)≤(i:Int):=by omega
   obtain ⟨g,off,rfl,hgb,hgc,hj⟩:=(HRO.out.ext (Ext.of_below HBw.out c S0) rfl) (by intro e;rw [e] at hil;simp at hil)
   have q0:=hj i _ (zL hil)
   have hkd:=HIN.out _ (zO hil)
   have HS:=Hh (qHc T x i hil hkd)
   have HLn:=Hh (qCZ HT.out HIN.out i (by omega))
   have HDR:=Hh (qN1 (H.out.disk.ext (Ext.of_below HBw.out c S0) rfl rfl) _ hkd)
   have hsl:(T.disk[x.blocks[i]]).length=16:=HT.out.whole _ (zO hkd)
   generalize T.disk[x.blocks[i]]=s at *
   generalize x.blocks[i]=k at *
   clear hj hkd
   go_wp2_with (first
    | (go_at_call 203;refine HDR.out.mono ?_;rintro ev w2 ⟨rfl,hb2⟩)
    | (go_at_call 61;refine (qGl w.heap.size w.heap.size _ ⟨s.toArray⟩ _ (qCV HBr.out hb2) (by rw [Lib.byteCells_length,HLn.out];simp [ByteArray.size];omega) (zr HBw.out.size hb2.size)).mono ?_;rintro ev w3 ⟨rfl,hbu3,hb3,_⟩))
   go_roundw
   case rel =>
    refine ⟨i+1,hil,by go_num,Hh ((HBw.out.trans (hb2.mono HBw.out.size)).trans hb3),Hh (.inr ?_)⟩
    rw [HS.out,← byteCells_append,← qH0]
    exact hbu3
   case measure=>simp [intOf];omega
  ·have hie:i=x.blocks.length:=by omega
   have i1:¬ (i:Int)<(x.blocks.length:Int):=by omega
   have HLn:=Hh (qCZ HT.out HIN.out i hi)
   have HRA:=Hh (qNn T x i (by omega))
   have hbl2:x.bytes≤(qGk T x i).length:=by rw [HLn.out,hie];exact hby
   have hrl:(qGk T x i).length≤16000:=by rw [HLn.out];omega
   generalize qGk T x i=l at *
   have p0:=ce0 ((HBw.out.block _ (qAa HI.out)).trans HI.out)
   have e1:(ByteArray.mk l.toArray).extract 0 x.bytes=⟨(T.raw x).toArray⟩:=by rw [qBb,HRA.out]
   have hrw:(T.raw x).length≤1000000:=by rw [← HRA.out];simp;omega
   have i3:(x.bytes:Int)≤(l.length:Int):=by omega
   have i4:(0:Int)≤(x.bytes:Int):=by omega
   have HST:=Hh (Tryz.Builder_String_any w.heap.size w.heap.size l wr.drew (qCV HBr.out ((zB _ wr).drew)) HBw.out.size)
   clear c0
   go_upto_region 13 with fail
   have hstl:=lt_of_cell p0
   go_region_held3 (fun w'=>w'.cell? ⟨st n,0,none⟩=some (.int .i64 x.bytes))
    (first
     | exact p0
     | exact p0'
     | go_keep)
    (first
     | (go_at_call 63;refine HST.out.mono ?_;rintro ev w2 ⟨rfl,hb2⟩;have hb2':Below w.heap.size w w2:=HBw.out.trans ⟨hb2.os,hb2.tape,hb2.output,hb2.size,hb2.block⟩;have p0':w2.cell? ⟨st n,0,none⟩=some (.int .i64 x.bytes):=zJ1 w2 _ 0 _ _ _ ((hb2'.block _ (qAa HI.out)).trans HI.out))
     | fail)
   have HB2:=Hh hb2'
   clear hb2 hb2' p0 p0'
   have HSUM:=Hh (qJB (T.raw x) hrw)
   clear hstl HST i3 i4
   go_upto_region 14 with fail
   have p4:=ce4 ((HB2.out.block _ (qAa HI.out)).trans HI.out)
   have hg2:w2.cell? ⟨9,0,none⟩=some (.iface te pe):=(HB2.out.cell (p:=⟨9,0,none⟩) hgl).trans HG.out
   by_cases hs:crc (T.raw x)=x.sum
   case pos =>
    rw [hs] at HSUM
    have HSQ:=Hh hs
    clear hs
    go_region_held3 (fun w'=>w'.cell? ⟨st n,4,none⟩=some (.int .u32 x.sum.toNat))
     (first
      | exact p4
      | go_keep)
     (first
      | (go_at_call 142;refine (HSUM.out _).mono ?_;rintro ev wz ⟨rfl,rfl⟩)
      | fail)
    go_wp2
    go_ret2
    exact ⟨by first | rfl | (rw [zM1 HSQ.out];rfl),HB2.out.drew⟩
   case neg =>
    have HSQ:=Hh hs
    have hne:¬ ((crc (T.raw x)).toNat:Int)=(x.sum.toNat:Int):=fun e=>hs (UInt32.toNat_inj.1 (by omega))
    generalize (crc (T.raw x)).toNat=s1 at hne HSUM
    clear hs
    go_region_held3 (fun w'=>w'.cell? ⟨st n,4,none⟩=some (.int .u32 x.sum.toNat))
     (first
      | exact p4
      | go_keep)
     (first
      | (go_at_call 142;refine (HSUM.out _).mono ?_;rintro ev wz ⟨rfl,rfl⟩)
      | fail)
    go_upto_region 15 with fail
    have HE:=Hh HB2.out.drew
    have hg3:w2.drew.cell? ⟨9,0,none⟩=some (.iface te pe):=hg2
    go_region
    go_wp2
    go_ret2
    exact ⟨by first | rfl | (rw [zL1 HSQ.out];rfl),HB2.out.drew.drew⟩
end
end Go.Proofs.YtceklhjomhjipaaGreatDoor
namespace Go.Proofs.YtceklhjomhjipaaGreatDoor
open Go.RowKit Go.Sort Go.Shelf Stl
theorem qAc (p:Nat→Addr) {c:Nat} (h:c≠0):qAB p c=.iface 377 (.pointer (some (p c))):=by simp [qAB,h]
theorem Errs.cell {w:World} {p:Nat→Addr} (h:Errs w p) (c:Nat) (h1:1≤c) (h2:c≤13):w.cell? ⟨qCq c,0,none⟩=some (qAB p c):=by
 rw [qAc p (by omega)]
 exact (h.at_ c h1 h2).1
def qDw (p:Nat→Addr):Except Nat (List UInt8)→Array Value
 | .ok s=>#[.string ⟨s.toArray⟩,.nilIface]
 | .error k=>#[.string ⟨#[]⟩,qAB p k]
section
variable {w:World} {c:Nat→Col} {b:Nat} {T:Tab} {p:Nat→Addr}
theorem qBX (h:TabAt w c b T) (ht:qBl T) (hD:T.disk.length≤1000000) (n:Nat) (hn:n≤1000000) (hE:Errs w p) :
  Calls Tryz.prog 143 #[.pointer (some ⟨b,0,none⟩),.int .i64 n] w fun e w'=>e=.returned (.tuple (qDw p (T.read n)))∧Below w.heap.size w w':=by
 cases hx:T.at_ n with
 | none =>
  have hg:=hE.cell 6 (by omega) (by omega)
  rw [qAc p (by omega)] at hg
  refine (qLc h n hn hx hg).mono ?_
  rintro e w' ⟨rfl,h2⟩
  refine ⟨?_,h2⟩
  simp only [Tab.read,hx,qDw]
  rw [qAc p (by omega)]
 | some x =>
  have hg:=hE.cell 11 (by omega) (by omega)
  rw [qAc p (by omega)] at hg
  refine (qMs h ht hD n hn hx hg).mono ?_
  rintro e w' ⟨rfl,h2⟩
  refine ⟨?_,h2⟩
  simp only [Tab.read,hx,qDw]
  by_cases hc:crc (T.raw x)=x.sum
  ·rw [zM1 hc,zM1 hc]
  ·rw [zL1 hc,zL1 hc];rfl
end
end Go.Proofs.YtceklhjomhjipaaGreatDoor
