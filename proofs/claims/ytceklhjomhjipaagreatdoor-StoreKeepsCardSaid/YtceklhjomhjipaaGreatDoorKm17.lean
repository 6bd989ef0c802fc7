/- Texts of this claim, merged: Make, TabMore, Copies. -/
import Derived.Test.YtceklhjomhjipaaGreatDoorKm16
set_option maxHeartbeats 16000000
set_option maxRecDepth 1000000
set_option linter.all false
namespace Stl
theorem qGv {l:List (Option Ino)} {k:Nat} (h:k<firstFree l):∃ x,(l[k]?).join=some x:=by
 have:=qC0 l k h
 cases hx:(l[k]?).join with
 | none=>rw [hx] at this;cases this
 | some x=>exact ⟨x,rfl⟩
theorem qI5 (l:List (Option Ino)) (n:Nat) (x:Ino) (hn:n≤l.length):l.length≤(putAt l n x).length∧n<(putAt l n x).length∧(putAt l n x).length≤l.length+1:=by
 unfold putAt
 split
 ·simp;omega
 ·simp;omega
end Stl
namespace Go.Proofs.YtceklhjomhjipaaGreatDoor
open Go.RowKit Go.Sort Go.Shelf Stl
section
variable {w:World} {c:Nat→Col} {b:Nat} {T:Tab}
theorem qE2 (T:Tab) (st:Nat→Nat) (k:Nat) (h:(qAF T st k).isSome=true):k∈List.range T.l.length:=by
 unfold qAF at h
 cases hx:T.at_ k with
 | none=>rw [hx] at h;cases h
 | some x=>exact List.mem_range.2 (qDR hx)
theorem qQz (h:TabAt w c b T) (hD:T.disk.length≤1000000) (hL:T.l.length≤1000000) {data:List UInt8} {exec:Bool} {n:Nat} {T':Tab} (hmk:T.make data exec=.ok (n,T')) :
  Calls Tryz.prog 133 #[.pointer (some ⟨b,0,none⟩),.string ⟨data.toArray⟩,.bool exec] w fun e w'=>e=.returned (.tuple #[.int .i64 n,.nilIface])∧∃ c2,Ext w w' c c2 qMd∧TabAt w' c2 b T':=by
 obtain ⟨hd,hfree,hn,hT'⟩:=qBd hmk
 have hat:=qDS hmk
 have hused:=qJE hmk
 rw [qCU] at hused
 obtain ⟨bd,bs,bm,st,h⟩:=h
 have H:=Hh h
 have HMK:=Hh hmk
 have c1:=ce1 h.own
 have hU:(qAX T).length≤1000000:=by rw [qAq];exact hD
 have hk:qAA data.length≤(qHM (qAX T)).length:=by rw [qCU];exact hfree
 have hS:=h.space.ext ((Ext.refl w c S0).drew) rfl rfl
 have HTK:=Hh (qP6 hS hU (qAA data.length) hk)
 rw [qCU] at HTK
 have hbl:(T.free.take (qAA data.length)).length≤1000000:=by
  have:qAA data.length≤1000000:=by unfold qAA;omega
  simp;omega
 have HIN:=Hh (show ∀ k∈T.free.take (qAA data.length),k<T.disk.length from fun k hk=>(qDb hk).1)
 have HT':=Hh hT'
 have HAT:=Hh hat
 have HUS:=Hh hused
 generalize T.free.take (qAA data.length)=blk at *
 generalize hnb:qAA data.length=nb at *
 have HNB:=Hh hnb
 have i1:¬ (2000:Int)<(data.length:Int):=by omega
 have hd2:data.length≤1000000:=by omega
 have HN:=Hh hn
 clear h hmk hT' hat hused hk hS hfree hn
 go_enter Tryz.func133,Tryz.ntmps133
 go_upto_region 3 with fail
 have hbl':b<w.heap.size:=lt_of_cell c1
 have HNEED:=Hh (qKV data.length hd2)
 rw [hnb] at HNEED
 have HO:=Hh H.out.own
 have HOC:=Hh H.out.col
 go_region_held3 (fun w'=>w'.cell? ⟨b,1,none⟩=some (.pointer (some ⟨bs,0,none⟩)))
  (first
   | exact c1
   | exact c1'
   | go_keep)
  (first
   | (go_at_call 195;refine (HNEED.out _).mono ?_;rintro ev wz ⟨rfl,rfl⟩)
   | (go_at_call 197;refine HTK.out.mono ?_;rintro ev w2 ⟨A,cap,c2,rfl,he2,hs2,hr2,hc2⟩;have c1':w2.cell? ⟨b,1,none⟩=some (.pointer (some ⟨bs,0,none⟩)):=zJ1 w2 b 1 _ _ _ ((((Ext.refl w c (S1 .used)).drew).trans he2).kept HO.out HOC.out rfl).1)
   | fail)
 have HE2:=Hh (((Ext.refl w c (S1 .used)).drew).trans he2)
 have HS2:=Hh hs2
 have HR2:=Hh hr2
 have HC2:=Hh hc2
 clear c1 c1' he2 hs2 hr2 hc2 HTK HNEED
 have HO2:=Hh (HE2.out.kept HO.out HOC.out rfl)
 have HD2:=Hh (H.out.disk.ext HE2.out rfl rfl)
 go_upto_region 7 with (go_at_call 198;refine (qGZ HO2.out.1 HO2.out.2 HD2.out hD HR2.out hbl HIN.out cap data hd2).mono ?_;rintro ev w3 ⟨rfl,c3,he3,hd3⟩)
 have HE3:=Hh ((HE2.out.mono (S':=qMd) (qAE rfl)).then he3 (fun x h=>by cases x<;>first | rfl | (cases h)))
 have HD3:=Hh hd3
 have HS3:=Hh (HS2.out.ext he3 rfl rfl)
 have HR3:=Hh (HR2.out.ext he3 rfl)
 have HO3:=Hh (he3.kept HO2.out.1 HO2.out.2 rfl)
 have HM3:=Hh ((H.out.map.ext HE2.out H.out.mcol rfl).ext he3 (HE2.out.col H.out.map.lt H.out.mcol rfl) rfl)
 have HMC3:=Hh (he3.col ((H.out.map.ext HE2.out H.out.mcol rfl).lt) (HE2.out.col H.out.map.lt H.out.mcol rfl) rfl)
 have HI3:=Hh (show ∀ k x,T.at_ k=some x→InoAt w3 c3 (st k) k x from fun k x hx=>((H.out.stats k x hx).ext HE2.out rfl rfl).ext he3 rfl rfl)
 clear he3 hd3
 have hff:=qB8 T.l
 go_wp2_with fail
 go_loopw [10] (fun a wr=>wr=w3∧∃ k:Nat,k≤firstFree T.l∧a=.int .i64 k) (fun a _=>firstFree T.l-(intOf a).toNat)
 case atStart=>exact ⟨rfl,0,zx _,rfl⟩
 case round =>
  obtain ⟨rfl,k,hk,rfl⟩:=hrel
  have c2':=ce2 HO3.out.1
  have hlk:=HM3.out.get (t:=84) okN Tryz.underlying84 (qDe wr) (i:=k) (by omega)
  simp only [mkN] at hlk
  by_cases hkf:k<firstFree T.l
  ·obtain ⟨x,hx⟩:=qGv hkf
   have hsx:qAF T st k=some (.pointer (some ⟨st k,0,none⟩)):=by unfold qAF;rw [show T.at_ k=some x from hx];rfl
   rw [hsx] at hlk
   simp only [zy] at hlk
   clear hx hsx
   go_wp2
   go_roundw
   case rel=>exact ⟨trivial,k+1,hkf,by go_num⟩
   case measure=>simp [intOf];omega
  ·have hk2:k=n:=by rw [HN.out];omega
   have hsx:qAF T st k=none:=by
    unfold qAF
    rw [hk2,qD7 HMK.out]
    rfl
   rw [hsx] at hlk
   simp only [Option.getD_none] at hlk
   obtain rfl:k=n:=hk2
   clear hsx
   go_upto_region 10 with fail
   have e4:=(Ext.made wr c3 S0 (.cells #[.int .i64 data.length,.int .i64 1,.bool exec,.slice A blk.length cap,.int .u32 (crc data).toNat] 71) (.stat k)).drew
   have hnew:((wr.alloc (.cells #[.int .i64 data.length,.int .i64 1,.bool exec,.slice A blk.length cap,.int .u32 (crc data).toNat] 71)).drew).heap[wr.heap.size]?=_:=zK1 wr (.cells #[.int .i64 data.length,.int .i64 1,.bool exec,.slice A blk.length cap,.int .u32 (crc data).toNat] 71)
   obtain ⟨W5,hput,hmap,hturn⟩:=(HM3.out.ext e4 HMC3.out rfl).put okN Tryz.underlying84 (by unfold maxLen;omega) (i:=k) (by omega) (.pointer (some ⟨wr.heap.size,0,none⟩))
   simp only [mkN] at hput
   have HSUM:=Hh (qJB data hd2)
   have HE4:=Hh e4
   have HNEW:=Hh hnew
   have HMP:=Hh hmap
   have HTN:=Hh hturn
   have hmc4:(qAs c3 wr.heap.size (.stat k)) bm=.tabMap:=by rw [qAf HM3.out.lt (zq _)];exact HMC3.out
   have HE5:=Hh ((e4.mono (S':=S1 .tabMap) (fun _ _=>rfl)).trans (Ext.turned hturn hmc4))
   have HT5:=Hh (Ext.turned hturn hmc4)
   have c2'':=ce2 (HE5.out.kept HO3.out.1 HO3.out.2 rfl).1
   clear e4 hnew hmap hturn hlk hmc4
   go_region_held3 (fun w'=>w'.cell? ⟨b,2,none⟩=some (.map (some bm)))
    (first
     | exact c2'
     | exact c2''
     | go_keep)
    (first
     | (go_at_call 142;refine (HSUM.out _).mono ?_;rintro ev wz ⟨rfl,rfl⟩)
     | fail)
   have HSH:=Hh (show #[Value.int .i64 data.length,.int .i64 1,.bool exec,.slice A blk.length cap,.int .u32 (crc data).toNat]=qAz ⟨data.length,1,exec,blk,crc data⟩ A cap from rfl)
   clear hput c2' c2''
   go_wp2
   go_ret2
   have hpl:=qI5 T.l (firstFree T.l) ⟨data.length,1,exec,blk,crc data⟩ (qB8 _)
   have hTl:T'.l.length=(putAt T.l (firstFree T.l) ⟨data.length,1,exec,blk,crc data⟩).length:=by rw [HT'.out]
   have hTd:T'.disk=qBu T.disk blk data:=by rw [HT'.out]
   have hok:=HE5.out.kept HO3.out.1 HO3.out.2 rfl
   refine ⟨rfl,qAs c3 wr.heap.size (.stat k),HE3.out.then HE5.out (qAE rfl),bd,bs,bm,fun j=>if j=k then wr.heap.size else st j,hok.1,hok.2,?_,?_,by rw [qAf HM3.out.lt (zq _)];exact HMC3.out,?_,?_⟩
   ·rw [hTd];exact HD3.out.ext HE5.out rfl rfl
   ·rw [HUS.out];exact HS3.out.ext HE5.out rfl rfl
   ·have h1:=(HMP.out.congr (g:=qAF T' fun j=>if j=k then wr.heap.size else st j) (fun j=>by
     unfold qAF
     rw [HAT.out]
     by_cases hj:j=k
     ·simp [hj]
     ·simp [hj])).tight okN.keyed (List.range T'.l.length) (qE2 T' _)
    simpa using h1
   ·intro j x hx
    rw [HAT.out] at hx
    by_cases hj:j=k
    ·subst hj
     rw [zM1 rfl] at hx
     cases hx
     simp only [if_true]
     have hk:=HT5.out.kept HNEW.out (qAm c3 wr.heap.size (.stat j)) rfl
     exact ⟨A,cap,hk.1,qAm _ _ _,HC2.out,HR3.out.ext HE5.out rfl⟩
    ·rw [zL1 hj] at hx
     simp only [zL1 hj]
     exact (HI3.out j x hx).ext HE5.out rfl rfl
end
end Go.Proofs.YtceklhjomhjipaaGreatDoor
namespace Go.Proofs.YtceklhjomhjipaaGreatDoor
open Go.RowKit Go.Sort Go.Shelf Stl
section
variable {w:World} {c:Nat→Col} {b:Nat} {T:Tab}
theorem TabIn.lookOk {bd bs bm:Nat} {st:Nat→Nat} (h:TabIn w c b T bd bs bm st) {n:Nat} (hn:n≤1000000) {x:Ino} (hx:T.at_ n=some x) :
  (Instr.lookup 84 (.map (some bm)) (.int .i64 n) true).run Tryz.prog w=.ok (.tuple #[.pointer (some ⟨st n,0,none⟩),.bool true]) w:=by
 have hsx:qAF T st n=some (.pointer (some ⟨st n,0,none⟩)):=by unfold qAF;rw [hx];rfl
 have hlk:=h.map.getOk (t:=84) okN Tryz.underlying84 (qDe w) (i:=n) (by omega)
 rw [hsx] at hlk
 simpa only [zy,Option.isSome_some,mkN] using hlk
theorem TabIn.lookNo {bd bs bm:Nat} {st:Nat→Nat} (h:TabIn w c b T bd bs bm st) {n:Nat} (hn:n≤1000000) (hx:T.at_ n=none) :
  (Instr.lookup 84 (.map (some bm)) (.int .i64 n) true).run Tryz.prog w=.ok (.tuple #[.pointer none,.bool false]) w:=by
 have hsx:qAF T st n=none:=by unfold qAF;rw [hx];rfl
 have hlk:=h.map.getOk (t:=84) okN Tryz.underlying84 (qDe w) (i:=n) (by omega)
 rw [hsx] at hlk
 simpa only [Option.getD_none,Option.isSome_none,mkN] using hlk
theorem TabIn.redisk {bd bs bm:Nat} {st:Nat→Nat} {w2:World} {c2:Nat→Col} (h:TabIn w c b T bd bs bm st) (e:Ext w w2 c c2 qC1) {D:List (List UInt8)} (hD:D.length=T.disk.length) (hd:DiskAt w2 c2 bd D):TabIn w2 c2 b { T with disk:=D } bd bs bm st :=
 ⟨(e.kept h.own h.col rfl).1,(e.kept h.own h.col rfl).2,hd,by rw [qFl (T:=T) (T':={ T with disk:=D }) hD (fun _=>rfl)];exact h.space.ext e rfl rfl,e.col h.map.lt h.mcol rfl,h.map.ext e h.mcol rfl,fun k x hx=>(h.stats k x hx).ext e rfl rfl⟩
theorem qIz (h:TabAt w c b T) (ht:qBl T) (hD:T.disk.length≤1000000) (n:Nat) (hn:n≤1000000) {x:Ino} (hx:T.at_ n=some x) (data:List UInt8) (hda:data.length≤1000000) :
  Calls Tryz.prog 144 #[.pointer (some ⟨b,0,none⟩),.int .i64 n,.string ⟨data.toArray⟩] w fun e w'=>e=.returned .nilIface∧∃ c2,Ext w w' c c2 qC1∧TabAt w' c2 b { T with disk:=qBu T.disk x.blocks data }:=by
 obtain ⟨bd,bs,bm,st,h⟩:=h
 obtain ⟨A,cap,h1,h2,h3,h4⟩:=h.cells hx
 have hlk:=h.lookOk hn hx
 have H:=Hh h
 have c2:=ce2 h.own
 have q3:=ce3 h1
 have H4:=Hh h4
 have HIN:=Hh (ht.inside n x hx)
 have hbl:x.blocks.length≤1000000:=by rw [ht.need n x hx];have:=ht.bytes n x hx;unfold qAA;omega
 clear h h1 h2 h3 h4 hx ht
 go_enter Tryz.func144,Tryz.ntmps144
 go_wp2_with (go_at_call 198;refine (qGZ H.out.own H.out.col H.out.disk hD H4.out hbl HIN.out cap data hda).mono ?_;rintro ev w3 ⟨rfl,c3,he3,hd3⟩)
 go_ret
 exact ⟨rfl,c3,he3,bd,bs,bm,st,H.out.redisk he3 (qAJ _ _ _) hd3⟩
def qFw (x:Ino) (A:Option Addr) (cap:Nat):Value:=.agg (qAz x A cap)
theorem qOP {A:Option Addr} {l:List Nat} (cap:Nat) (hl:RoInts w c A l) (hbig:l.length≤1000000) :
  Calls Tryz.prog 103 #[.slice A l.length cap] w fun e w'=>∃ A' cap',e=.returned (.slice A' l.length cap')∧w'.ownsRow w.heap.size 3 1 (.slice A' l.length cap') l.length (l.map qH4)∧Below w.heap.size w w':=by
 rcases A with _ | ⟨g,off,k⟩
 ·have h0:l=[]:=by
   rcases l with _ | ⟨x,r⟩
   ·rfl
   ·obtain ⟨b,off,h,_⟩:=hl (by simp)
    cases h
  subst h0
  refine (Tryz.slices_Clone_int_nil 0 cap w).mono ?_
  rintro e w' ⟨rfl,rfl⟩
  exact ⟨none,0,rfl,zF1 _ _ _ _,zB _ _⟩
 ·rcases Nat.eq_zero_or_pos l.length with h0 | h0
  ·have h1:l=[]:=zH h0
   subst h1
   refine (Tryz.slices_Clone_int_zero ⟨g,off,k⟩ cap w).mono ?_
   rintro e w' ⟨v',rfl,h1,_,h2⟩
   obtain ⟨A',cap',rfl⟩:=Stl.owns_slice _ h1
   exact ⟨A',cap',rfl,h1,h2⟩
  ·obtain ⟨b,off',h,hb,hc,hj⟩:=hl (by intro e;rw [e] at h0;simp at h0)
   cases h
   refine (Tryz.slices_Clone_int g off l.length cap (l.map fun k:Nat=>(k:Int)) w (by simp) (by omega) (fun j hj'=>by
    have hj2:j<l.length:=by simpa using hj'
    rw [hj j _ (zL hj2)]
    simp [hj2])).mono ?_
   rintro e w' ⟨v',rfl,h1,_,h2⟩
   obtain ⟨A',cap',rfl⟩:=Stl.owns_slice _ h1
   refine ⟨A',cap',rfl,?_,h2⟩
   have e1:((l.map fun k:Nat=>(k:Int)).take l.length).map (Value.int .i64)=l.map qH4:=by
    rw [zn (by simp),zW]
    rfl
   rw [e1] at h1
   exact h1
theorem qBS (h:TabAt w c b T) (ht:qBl T) (n:Nat) (hn:n≤1000000) {x:Ino} (hx:T.at_ n=some x) :
  Calls Tryz.prog 54 #[.pointer (some ⟨b,0,none⟩),.int .i64 n] w fun e w'=>∃ A cap,e=.returned (.tuple #[qFw x A cap,.bool true])∧w'.ownsRow w.heap.size 3 1 (.slice A x.blocks.length cap) x.blocks.length (x.blocks.map qH4)∧Below w.heap.size w w':=by
 obtain ⟨bd,bs,bm,st,h⟩:=h
 have hb1:Below w.heap.size w (w.alloc (.cells #[.int .i64 0,.int .i64 0,.bool false,.slice none 0 0,.int .u32 0] 71)):=(zB _ w).alloc (zq _) _
 have h':=h.below hb1
 have hlk:=h'.lookOk hn hx
 have c2:=ce2 h'.own
 obtain ⟨A,cap,h1,h2,h3,h4⟩:=h'.cells hx
 have HBOX:=Hh (zK1 w (.cells #[.int .i64 0,.int .i64 0,.bool false,.slice none 0 0,.int .u32 0] 71))
 have hbl:x.blocks.length≤1000000:=by rw [ht.need n x hx];have:=ht.bytes n x hx;unfold qAA;omega
 have HB1:=Hh hb1
 have HI:=Hh h1
 have HRO:=Hh h4
 clear h h' hx ht h1 h2 h3 h4 hb1
 go_enter Tryz.func54,Tryz.ntmps54
 go_upto_region 4 with fail
 generalize w.alloc (.cells #[.int .i64 0,.int .i64 0,.bool false,.slice none 0 0,.int .u32 0] 71)=w1 at *
 have q0:=ce0 HI.out
 have q1:=ce1 HI.out
 have q2:=ce2 HI.out
 have q3:=ce3 HI.out
 have q4:=ce4 HI.out
 go_upto_region 5 with fail
 have hb2:Below w1.heap.size w1 (w1.alloc (.cells #[.int .i64 x.bytes,.int .i64 x.links,.bool x.exec,.slice A x.blocks.length cap,.int .u32 x.sum.toNat] 71)):=(zB _ w1).alloc (zq _) _
 have HX2:=Hh (zK1 w1 (.cells #[.int .i64 x.bytes,.int .i64 x.links,.bool x.exec,.slice A x.blocks.length cap,.int .u32 x.sum.toNat] 71))
 have HI2:=Hh ((hb2.block _ (qAa HI.out)).trans HI.out)
 have HBOX2:=Hh ((hb2.block _ (qAa HBOX.out)).trans HBOX.out)
 have HRO2:=Hh (HRO.out.ext (Ext.of_below hb2 c S0) rfl)
 have HB2:=Hh (HB1.out.trans (hb2.mono HB1.out.size))
 clear hb2 q0 q1 q2 q3 q4 hlk c2
 generalize w1.alloc (.cells #[.int .i64 x.bytes,.int .i64 x.links,.bool x.exec,.slice A x.blocks.length cap,.int .u32 x.sum.toNat] 71)=w2 at *
 have q3:=ce3 HI2.out
 go_upto_region 6 with (go_at_call 103;refine (qOP cap HRO2.out hbl).mono ?_;rintro ev w3 ⟨A3,cap3,rfl,hown,hb3⟩;have hx3:=(hb3.block _ (qAa HX2.out)).trans HX2.out;have g3:=zJ1 w3 _ 3 _ _ _ hx3;have f3:=qAb hx3 3;have HOWN:=Hh hown;have HB3:=Hh hb3;have HX3:=Hh hx3;clear hown hb3 hx3)
 have HBX3:=Hh ((HB3.out.block _ (qAa HBOX2.out)).trans HBOX2.out)
 have hne:w1.heap.size≠w.heap.size:=by have:=qAa HBOX.out;omega
 have HX4:=Hh (qAd HX3.out 3 (.slice A3 x.blocks.length cap3))
 have HBX4:=Hh ((zA w3 ⟨w1.heap.size,3,none⟩ (.slice A3 x.blocks.length cap3) w.heap.size hne.symm).trans HBX3.out)
 have HOWN4:=Hh (zO1 HOWN.out (a:=⟨w1.heap.size,3,none⟩) (by
  intro e
  have:=(HOWN.out.lt _ e).1
  have:=qAa HX2.out
  simp at *
  omega) (.slice A3 x.blocks.length cap3))
 have HB4:=Hh ((HB2.out.trans (HB3.out.mono HB2.out.size)).setCell (p:=⟨w1.heap.size,3,none⟩) HB1.out.size (.slice A3 x.blocks.length cap3))
 clear g3 f3
 generalize w3.setCell ⟨w1.heap.size,3,none⟩ (.slice A3 x.blocks.length cap3)=w4 at *
 have q0:=ce0 HX4.out
 have q1:=ce1 HX4.out
 have q2:=ce2 HX4.out
 have q3:=ce3 HX4.out
 have q4:=ce4 HX4.out
 have r0:=ce0 HBX4.out
 have r1:=ce1 HBX4.out
 have r2:=ce2 HBX4.out
 have r3:=ce3 HBX4.out
 have r4:=ce4 HBX4.out
 have f0:=qAb HBX4.out 0
 have f1:=qAb HBX4.out 1
 have f2:=qAb HBX4.out 2
 have f3:=qAb HBX4.out 3
 have f4:=qAb HBX4.out 4
 go_wp2_with fail
 have HF:=Hh (qAd (qAd (qAd (qAd (qAd HBX4.out 0 (.int .i64 x.bytes)) 1 (.int .i64 x.links)) 2 (.bool x.exec)) 3 (.slice A3 x.blocks.length cap3)) 4 (.int .u32 x.sum.toNat))
 have hno:(Value.slice A3 x.blocks.length cap3).ownBlock≠some w.heap.size:=by
  intro e
  have:=(HOWN.out.lt _ e).1
  have:=qAa HBOX2.out
  omega
 have HOW:=Hh (zO1 (zO1 (zO1 (zO1 (zO1 HOWN4.out (a:=⟨w.heap.size,0,none⟩) hno (.int .i64 x.bytes)) (a:=⟨w.heap.size,1,none⟩) hno (.int .i64 x.links)) (a:=⟨w.heap.size,2,none⟩) hno (.bool x.exec)) (a:=⟨w.heap.size,3,none⟩) hno (.slice A3 x.blocks.length cap3)) (a:=⟨w.heap.size,4,none⟩) hno (.int .u32 x.sum.toNat))
 have HBF:=Hh (((((HB4.out.setCell (p:=⟨w.heap.size,0,none⟩) (zq _) (.int .i64 x.bytes)).setCell (p:=⟨w.heap.size,1,none⟩) (zq _) (.int .i64 x.links)).setCell (p:=⟨w.heap.size,2,none⟩) (zq _) (.bool x.exec)).setCell (p:=⟨w.heap.size,3,none⟩) (zq _) (.slice A3 x.blocks.length cap3)).setCell (p:=⟨w.heap.size,4,none⟩) (zq _) (.int .u32 x.sum.toNat))
 clear q0 q1 q2 q3 q4 r0 r1 r2 r3 r4 f0 f1 f2 f3 f4 hno
 generalize ((((w4.setCell ⟨w.heap.size,0,none⟩ (.int .i64 x.bytes)).setCell ⟨w.heap.size,1,none⟩ (.int .i64 x.links)).setCell ⟨w.heap.size,2,none⟩ (.bool x.exec)).setCell ⟨w.heap.size,3,none⟩ (.slice A3 x.blocks.length cap3)).setCell ⟨w.heap.size,4,none⟩ (.int .u32 x.sum.toNat)=w5 at *
 have r0:=ce0 HF.out
 have r1:=ce1 HF.out
 have r2:=ce2 HF.out
 have r3:=ce3 HF.out
 have r4:=ce4 HF.out
 refine zH1 (v:=.tuple #[qFw x A3 cap3,.bool true]) ?_ rfl ⟨A3,cap3,rfl,?_,HBF.out⟩
 ·simp [results,Tryz.results54,go_sem,r0,r1,r2,r3,r4,qFw,qAz]
 ·obtain ⟨ho1,ho2⟩:=HOW.out
  refine ⟨ho1,?_⟩
  rcases ho2 with h | ⟨g,cp,cur,h1,h2,h3⟩
  ·exact .inl h
  ·exact .inr ⟨g,cp,cur,h1,zr HB2.out.size h2,h3⟩
end
theorem qRl:qBZ 4 (.bool false) 1 1:=qBW (by kernel_rfl) rfl (by decide)
theorem qCG {e:TypeId} {z:Value} {size bytes:Nat} (he:qBZ e z size bytes) (w:World):(Go.sizeOf e).run Tryz.prog w=.ok size w:=by
 obtain ⟨i,hi,_,h1,_⟩:=he.info
 simp [Go.sizeOf,typeInfo,hi,h1]
section
variable {w w2:World} {c c2:Nat→Col}
theorem qK2 {ρ:Ren} (L:SlLaysE0.n41 Tryz.prog ρ) {z:Value} {size bytes:Nat} (he:qBZ (ρ.t 23) z size bytes) {base n:Nat} {v:Value} {xs:List Value} (h:w.ownsRow base (ρ.t 23) size v n xs) (h1:∀ u∈xs,u.oneCell'=true) (hn:n≤1000000) (hby:bytes≤1000000) :
  Calls Tryz.prog (ρ.f 41) #[v] w fun e w'=>∃ A cap,e=.returned (.slice A n cap)∧w'.ownsRow w.heap.size (ρ.t 23) size (.slice A n cap) n xs∧Below w.heap.size w w':=by
 have h0:=h
 obtain ⟨hl,h2⟩:=h
 rcases h2 with ⟨rfl,rfl⟩ | ⟨g,cap,cur,rfl,hb,hg,hnc,hcm,hcs,htake⟩
 ·obtain rfl:xs=[]:=zH (by simpa using hl)
  refine (AnyE.slices_Clone_nil L 0 0 w).mono ?_
  rintro e w' ⟨rfl,rfl⟩
  exact ⟨none,0,rfl,zF1 _ _ _ _,zB _ _⟩
 ·obtain ⟨i,hi,hz0,hz1,hz2⟩:=he.info
  refine (AnyE.slices_Clone L i z size bytes hi hz0 hz1 hz2 he.cells he.pos (qCG he) g 0 n cap xs w hl (by unfold maxLen;omega) (zr (Nat.mul_le_mul hn hby) (by omega)) (fun j u hu=>?_) h1).mono ?_
  ·rw [zw,h0.cellAt j (by rw [← hl];exact (zM.1 hu).1)]
   exact hu
  ·rintro e w' ⟨v',rfl,h3,_,h4⟩
   obtain ⟨A',cap',rfl⟩:=Stl.owns_slice _ h3
   exact ⟨A',cap',rfl,h3,h4⟩
theorem qPf {base n:Nat} {v:Value} {xs:List Value} (h:w.ownsRow base 9 1 v n xs) (h1:∀ u∈xs,u.oneCell'=true) (hn:n≤1000000) :
  Calls Tryz.prog 34 #[v] w fun e w'=>∃ A cap,e=.returned (.slice A n cap)∧w'.ownsRow w.heap.size 9 1 (.slice A n cap) n xs∧Below w.heap.size w w' :=
 qK2 Tryz.cloneS qEQ h h1 hn (by decide)
theorem qNi {base n:Nat} {v:Value} {xs:List Value} (h:w.ownsRow base 4 1 v n xs) (h1:∀ u∈xs,u.oneCell'=true) (hn:n≤1000000) :
  Calls Tryz.prog 165 #[v] w fun e w'=>∃ A cap,e=.returned (.slice A n cap)∧w'.ownsRow w.heap.size 4 1 (.slice A n cap) n xs∧Below w.heap.size w w' :=
 qK2 Tryz.cloneB qRl h h1 hn (by decide)
theorem qNA (w:World):Calls Tryz.prog 164 #[.slice none 0 0] w fun e w'=>e=.returned (.slice none 0 0)∧w'=w:=AnyE.slices_Clone_nil Tryz.cloneW 0 0 w
variable {b:Nat}
theorem qHp {U:List Bool} (k0:Nat→Col) (h:SpaceAt w c b U) (hU:U.length≤1000000) :
  Calls Tryz.prog 113 #[.pointer (some ⟨b,0,none⟩)] w fun e w'=>∃ b2 c2,e=.returned (.pointer (some ⟨b2,0,none⟩))∧Below w.heap.size w w'∧(∀ k,k<w.heap.size→c2 k=k0 k)∧w.heap.size≤b2∧SpaceAt w' c2 b2 U:=by
 obtain ⟨v,hb,hc,hr⟩:=h
 obtain ⟨A,cap,rfl⟩:=hr.slice
 have c0:=ce0 hb
 have HR:=Hh hr.1
 clear hb hr hc
 go_enter Tryz.func113,Tryz.ntmps113
 go_wp2_with (go_at_call 165;refine (qNi HR.out (fun u hu=>by obtain ⟨x,_,rfl⟩:=ze.1 hu;rfl) hU).mono ?_;rintro ev w2 ⟨A2,cap2,rfl,hown,hb2⟩)
 go_ret
 refine ⟨w2.heap.size,fun k=>if k<w.heap.size then k0 k else if k=w2.heap.size then .space else .used,rfl,hb2.alloc hb2.size _,fun k hk=>zM1 hk,hb2.size,?_⟩
 have hs:=hb2.size
 refine ⟨.slice A2 U.length cap2,zK1 w2 _,by simp;omega,RowAt.of_owns (hown.alloc _) fun k hk=>?_⟩
 have:=hown.lt k hk
 have h1:¬ k<w.heap.size:=by omega
 have h2:¬ k=w2.heap.size:=by omega
 simp [h1,h2]
theorem qIV {D:List (List UInt8)} (k0:Nat→Col) (h:DiskAt w c b D) (hD:D.length≤1000000) :
  Calls Tryz.prog 112 #[.pointer (some ⟨b,0,none⟩)] w fun e w'=>∃ b2 c2,e=.returned (.pointer (some ⟨b2,0,none⟩))∧Below w.heap.size w w'∧(∀ k,k<w.heap.size→c2 k=k0 k)∧w.heap.size≤b2∧DiskAt w' c2 b2 D:=by
 obtain ⟨v,hb,hc,hr⟩:=h
 obtain ⟨A,cap,rfl⟩:=hr.slice
 have c0:=ce0 hb
 have c1:=ce1 hb
 have HR:=Hh (show w.drew.ownsRow 0 9 1 (.slice A D.length cap) D.length (D.map encStr) from hr.1)
 have hbl:=qAa hb
 clear hb hr hc
 go_enter Tryz.func112,Tryz.ntmps112
 go_upto_region 1 with fail
 go_region_held3 (fun w'=>w'.cell? ⟨b,0,none⟩=some (.slice A D.length cap)∧w'.cell? ⟨b,1,none⟩=some (.slice none 0 0))
  (first
   | exact ⟨c0,c1⟩
   | exact ⟨c0',c1'⟩
   | exact ⟨c0'',c1''⟩
   | go_keep)
  (first
   | (go_at_call 34;refine (qPf HR.out (fun u hu=>by obtain ⟨x,_,rfl⟩:=ze.1 hu;rfl) hD).mono ?_;rintro ev w2 ⟨A2,cap2,rfl,hown,hb2⟩;have c0':=(hb2.cell (p:=⟨b,0,none⟩) hbl).trans c0;have c1':=(hb2.cell (p:=⟨b,1,none⟩) hbl).trans c1)
   | (go_at_call 164;refine (qNA _).mono ?_;rintro ev wz ⟨rfl,rfl⟩)
   | fail)
 have HOWN:=Hh hown
 have HB2:=Hh (show Below w.heap.size w wz from ⟨hb2.os,hb2.tape,hb2.output,hb2.size,hb2.block⟩)
 clear hown hb2 c0 c1 c0' c1'
 go_wp2
 go_ret
 have hs:=HB2.out.size
 refine ⟨wz.heap.size,fun k=>if k<w.heap.size then k0 k else if k=wz.heap.size then .disk else .diskL,rfl,HB2.out.alloc hs _,fun k hk=>zM1 hk,hs,.slice A2 D.length cap2,zK1 wz _,by simp;omega,RowAt.of_owns (HOWN.out.alloc _) fun k hk=>?_⟩
 have:=HOWN.out.lt k hk
 have hw:w.drew.heap.size=w.heap.size:=rfl
 have h1:¬ k<w.heap.size:=by omega
 have h2:¬ k=wz.heap.size:=by omega
 simp [h1,h2]
end
end Go.Proofs.YtceklhjomhjipaaGreatDoor
