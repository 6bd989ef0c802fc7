/- Lemmas. -/
import Derived.Test.YtbmkaekimccdgaaGreatDoorBm16
set_option maxHeartbeats 16000000
set_option maxRecDepth 1000000
set_option linter.all false
namespace Stl
theorem qDj {l:List (Option Ino)}{k:Nat}(h:k<firstFree l):∃ x,(l[k]?).join=some x:=by
 have:=qAG l k h
 cases hx:(l[k]?).join with
 | none=>rw[hx] at this;cases this
 | some x=>exact⟨x,rfl⟩
theorem qFX (l:List (Option Ino))(n:Nat)(x:Ino)(hn:n≤l.length):l.length≤(putAt l n x).length∧n<(putAt l n x).length∧(putAt l n x).length≤l.length+1:=by
 unfold putAt;split
 ·simp;omega
 ·simp;omega
end Stl
namespace Go.Proofs.YtbmkaekimccdgaaGreatDoor
open Go.RowKit Go.Sort Go.Shelf Stl
section
variable {w:World}{c:Nat→Col}{b:Nat}{T:Tab}
theorem qBy (T:Tab)(st:Nat→Nat)(k:Nat)(h:(jT T st k).isSome=true):k∈List.range T.l.length:=by
 unfold jT at h
 cases hx:T.at_ k with
 | none=>rw[hx] at h;cases h
 | some x=>exact List.mem_range.2 (nH hx)
theorem qNR (h:TabAt w c b T)(hD:T.disk.length≤1000000)(hL:T.l.length≤1000000){data:List UInt8}{exec:Bool}{n:Nat}{T':Tab}(hmk:T.make data exec=.ok (n,T')) :
  Calls Tryz.prog 176 #[.pointer (some ⟨b,0,none⟩),.string ⟨data.toArray⟩,.bool exec] w fun e w'=>e=.returned (.tuple #[.int .i64 n,.nilIface])∧∃ c2,Ext w w' c c2 oC∧TabAt w' c2 b T':=by
 obtain⟨hd,hfree,hn,hT'⟩:=yP hmk;have hat:=mV hmk;have hused:=qGL hmk;rw[hQ] at hused;obtain⟨bd,bs,bm,st,h⟩:=h;have H:=Hh h;have HMK:=Hh hmk;have c1:=ce1 h.own;have hU:(vN T).length≤1000000:=by rw[jB];exact hD
 have hk:jL data.length≤(uZ (vN T)).length:=by rw[hQ];exact hfree
 have hS:=h.space.ext ((Ext.refl w c S0).drew) rfl rfl;have HTK:=Hh (qNA hS hU (jL data.length) hk);rw[hQ] at HTK;have hbl:(T.free.take (jL data.length)).length≤1000000:=by
  have:jL data.length≤1000000:=by unfold jL;omega
  simp;omega
 have HIN:=Hh (show ∀ k∈T.free.take (jL data.length),k<T.disk.length from fun k hk=>(gN hk).1);have HT':=Hh hT';have HAT:=Hh hat;have HUS:=Hh hused;generalize T.free.take (jL data.length)=blk at *;generalize hnb:jL data.length=nb at *;have HNB:=Hh hnb;have i1:¬ (2000:Int)<(data.length:Int):=by omega
 have hd2:data.length≤1000000:=by omega
 have HN:=Hh hn;clear h hmk hT' hat hused hk hS hfree hn;go_enter Tryz.func176,Tryz.ntmps176;go_upto_region 3 with fail;have hbl':b<w.heap.size:=lt_of_cell c1;have HNEED:=Hh (qHK data.length hd2);rw[hnb] at HNEED;have HO:=Hh H.o.own;have HOC:=Hh H.o.col
 go_region_held3 (fun w'=>w'.cell? ⟨b,1,none⟩=some (.pointer (some ⟨bs,0,none⟩)))
  (first
   | exact c1
   | exact c1'
   | go_keep)
  (first
   | (go_at_call 238;refine(HNEED.o _).mono ?_;rintro ev wz ⟨rfl,rfl⟩)
   | (go_at_call 239;refine HTK.o.mono ?_;rintro ev w2 ⟨A,cap,c2,rfl,he2,hs2,hr2,hc2⟩;have c1':w2.cell? ⟨b,1,none⟩=some (.pointer (some ⟨bs,0,none⟩)):=zJ1 w2 b 1 _ _ _ ((((Ext.refl w c (S1 .used)).drew).trans he2).kept HO.o HOC.o rfl).1)
   | fail)
 have HE2:=Hh (((Ext.refl w c (S1 .used)).drew).trans he2);have HS2:=Hh hs2;have HR2:=Hh hr2;have HC2:=Hh hc2;clear c1 c1' he2 hs2 hr2 hc2 HTK HNEED;have HO2:=Hh (HE2.o.kept HO.o HOC.o rfl);have HD2:=Hh (H.o.disk.ext HE2.o rfl rfl);go_upto_region 7 with (go_at_call 240;refine(qDN HO2.o.1 HO2.o.2 HD2.o hD HR2.o hbl HIN.o cap data hd2).mono ?_;rintro ev w3 ⟨rfl,c3,he3,hd3⟩);have HE3:=Hh ((HE2.o.mono (S':=oC) (jP rfl)).then he3 (fun x h=>by cases x<;>first | rfl | (cases h)));have HD3:=Hh hd3;have HS3:=Hh (HS2.o.ext he3 rfl rfl);have HR3:=Hh (HR2.o.ext he3 rfl);have HO3:=Hh (he3.kept HO2.o.1 HO2.o.2 rfl);have HM3:=Hh ((H.o.map.ext HE2.o H.o.mcol rfl).ext he3 (HE2.o.col H.o.map.lt H.o.mcol rfl) rfl);have HMC3:=Hh (he3.col ((H.o.map.ext HE2.o H.o.mcol rfl).lt) (HE2.o.col H.o.map.lt H.o.mcol rfl) rfl);have HI3:=Hh (show ∀ k x,T.at_ k=some x→InoAt w3 c3 (st k) k x from fun k x hx=>((H.o.stats k x hx).ext HE2.o rfl rfl).ext he3 rfl rfl);clear he3 hd3;have hff:=wC T.l;go_wp2_with fail
 go_loopw [10] (fun a wr=>wr=w3∧∃ k:Nat,k≤firstFree T.l∧a=.int .i64 k) (fun a _=>firstFree T.l-(intOf a).toNat)
 case atStart=>exact⟨rfl,0,zw _,rfl⟩
 case round =>
  obtain⟨rfl,k,hk,rfl⟩:=hrel;have c2':=ce2 HO3.o.1;have hlk:=HM3.o.get (t:=83) okN Tryz.underlying83 (gY wr) (i:=k) (by omega);simp only[mkN] at hlk;by_cases hkf:k<firstFree T.l
  ·obtain⟨x,hx⟩:=qDj hkf;have hsx:jT T st k=some (.pointer (some ⟨st k,0,none⟩)):=by unfold jT;rw[show T.at_ k=some x from hx];rfl
   rw[hsx] at hlk;simp only[zx] at hlk;clear hx hsx;go_wp2;go_roundw
   case rel=>exact⟨trivial,k+1,hkf,by go_num⟩
   case measure=>simp[intOf];omega
  ·have hk2:k=n:=by rw[HN.o];omega
   have hsx:jT T st k=none:=by
    unfold jT;rw[hk2,pK HMK.o];rfl
   rw[hsx] at hlk;simp only[Option.getD_none] at hlk;obtain rfl:k=n:=hk2;clear hsx;go_upto_region 10 with fail;have e4:=(Ext.made wr c3 S0 (.cells #[.int .i64 data.length,.int .i64 1,.bool exec,.slice A blk.length cap,.int .u32 (crc data).toNat] 254) (.stat k)).drew;have hnew:((wr.alloc (.cells #[.int .i64 data.length,.int .i64 1,.bool exec,.slice A blk.length cap,.int .u32 (crc data).toNat] 254)).drew).heap[wr.heap.size]?=_:=zK1 wr (.cells #[.int .i64 data.length,.int .i64 1,.bool exec,.slice A blk.length cap,.int .u32 (crc data).toNat] 254);obtain⟨W5,hput,hmap,hturn⟩:=(HM3.o.ext e4 HMC3.o rfl).put okN Tryz.underlying83 (by unfold maxLen;omega) (i:=k) (by omega) (.pointer (some ⟨wr.heap.size,0,none⟩));simp only[mkN] at hput;have HSUM:=Hh (qGT data hd2);have HE4:=Hh e4;have HNEW:=Hh hnew;have HMP:=Hh hmap;have HTN:=Hh hturn;have hmc4:(jC c3 wr.heap.size (.stat k)) bm=.tabMap:=by rw[qJ HM3.o.lt (zo _)];exact HMC3.o
   have HE5:=Hh ((e4.mono (S':=S1 .tabMap) (fun _ _=>rfl)).trans (Ext.turned hturn hmc4));have HT5:=Hh (Ext.turned hturn hmc4);have c2'':=ce2 (HE5.o.kept HO3.o.1 HO3.o.2 rfl).1;clear e4 hnew hmap hturn hlk hmc4
   go_region_held3 (fun w'=>w'.cell? ⟨b,2,none⟩=some (.map (some bm)))
    (first
     | exact c2'
     | exact c2''
     | go_keep)
    (first
     | (go_at_call 185;refine(HSUM.o _).mono ?_;rintro ev wz ⟨rfl,rfl⟩)
     | fail)
   have HSH:=Hh (show #[Value.int .i64 data.length,.int .i64 1,.bool exec,.slice A blk.length cap,.int .u32 (crc data).toNat]=jN ⟨data.length,1,exec,blk,crc data⟩ A cap from rfl);clear hput c2' c2'';go_wp2;go_ret2;have hpl:=qFX T.l (firstFree T.l) ⟨data.length,1,exec,blk,crc data⟩ (wC _);have hTl:T'.l.length=(putAt T.l (firstFree T.l) ⟨data.length,1,exec,blk,crc data⟩).length:=by rw[HT'.o]
   have hTd:T'.disk=kG T.disk blk data:=by rw[HT'.o]
   have hok:=HE5.o.kept HO3.o.1 HO3.o.2 rfl;refine⟨rfl,jC c3 wr.heap.size (.stat k),HE3.o.then HE5.o (jP rfl),bd,bs,bm,fun j=>if j=k then wr.heap.size else st j,hok.1,hok.2,?_,?_,by rw[qJ HM3.o.lt (zo _)];exact HMC3.o,?_,?_⟩
   ·rw[hTd];exact HD3.o.ext HE5.o rfl rfl
   ·rw[HUS.o];exact HS3.o.ext HE5.o rfl rfl
   ·have h1:=(HMP.o.congr (g:=jT T' fun j=>if j=k then wr.heap.size else st j) (fun j=>by
     unfold jT
     rw[HAT.o]
     by_cases hj:j=k
     ·simp[hj]
     ·simp[hj])).tight okN.keyed (List.range T'.l.length) (qBy T' _)
    simpa using h1
   ·intro j x hx;rw[HAT.o] at hx;by_cases hj:j=k
    ·subst hj;rw[zM1 rfl] at hx
     cases hx
     simp only[if_true];have hk:=HT5.o.kept HNEW.o (qM c3 wr.heap.size (.stat j)) rfl;exact⟨A,cap,hk.1,qM _ _ _,HC2.o,HR3.o.ext HE5.o rfl⟩
    ·rw[zL1 hj] at hx;simp only[zL1 hj];exact(HI3.o j x hx).ext HE5.o rfl rfl
end
end Go.Proofs.YtbmkaekimccdgaaGreatDoor
namespace Go.Proofs.YtbmkaekimccdgaaGreatDoor
open Go.RowKit Go.Sort Go.Shelf Stl
section
variable {w:World}{c:Nat→Col}{b:Nat}{T:Tab}
theorem TabIn.lookOk {bd bs bm:Nat}{st:Nat→Nat}(h:TabIn w c b T bd bs bm st){n:Nat}(hn:n≤1000000){x:Ino}(hx:T.at_ n=some x) :
  (Instr.lookup 83 (.map (some bm)) (.int .i64 n) true).run Tryz.prog w=.ok (.tuple #[.pointer (some ⟨st n,0,none⟩),.bool true]) w:=by
 have hsx:jT T st n=some (.pointer (some ⟨st n,0,none⟩)):=by unfold jT;rw[hx];rfl
 have hlk:=h.map.getOk (t:=83) okN Tryz.underlying83 (gY w) (i:=n) (by omega);rw[hsx] at hlk;simpa only [zx,Option.isSome_some,mkN] using hlk
theorem TabIn.lookNo {bd bs bm:Nat}{st:Nat→Nat}(h:TabIn w c b T bd bs bm st){n:Nat}(hn:n≤1000000)(hx:T.at_ n=none) :
  (Instr.lookup 83 (.map (some bm)) (.int .i64 n) true).run Tryz.prog w=.ok (.tuple #[.pointer none,.bool false]) w:=by
 have hsx:jT T st n=none:=by unfold jT;rw[hx];rfl
 have hlk:=h.map.getOk (t:=83) okN Tryz.underlying83 (gY w) (i:=n) (by omega);rw[hsx] at hlk;simpa only [Option.getD_none,Option.isSome_none,mkN] using hlk
theorem TabIn.redisk {bd bs bm:Nat}{st:Nat→Nat}{w2:World}{c2:Nat→Col}(h:TabIn w c b T bd bs bm st)(e:Ext w w2 c c2 gP){D:List (List UInt8)}(hD:D.length=T.disk.length)(hd:DiskAt w2 c2 bd D):TabIn w2 c2 b { T with disk:=D } bd bs bm st :=
 ⟨(e.kept h.own h.col rfl).1,(e.kept h.own h.col rfl).2,hd,by rw[qB7 (T:=T) (T':={ T with disk:=D }) hD (fun _=>rfl)];exact h.space.ext e rfl rfl,e.col h.map.lt h.mcol rfl,h.map.ext e h.mcol rfl,fun k x hx=>(h.stats k x hx).ext e rfl rfl⟩
theorem qE7 (h:TabAt w c b T)(ht:yX T)(hD:T.disk.length≤1000000)(n:Nat)(hn:n≤1000000){x:Ino}(hx:T.at_ n=some x)(data:List UInt8)(hda:data.length≤1000000) :
  Calls Tryz.prog 187 #[.pointer (some ⟨b,0,none⟩),.int .i64 n,.string ⟨data.toArray⟩] w fun e w'=>e=.returned .nilIface∧∃ c2,Ext w w' c c2 gP∧TabAt w' c2 b { T with disk:=kG T.disk x.blocks data }:=by
 obtain⟨bd,bs,bm,st,h⟩:=h;obtain⟨A,cap,h1,h2,h3,h4⟩:=h.cells hx;have hlk:=h.lookOk hn hx;have H:=Hh h;have c2:=ce2 h.own;have q3:=ce3 h1;have H4:=Hh h4;have HIN:=Hh (ht.inside n x hx);have hbl:x.blocks.length≤1000000:=by rw[ht.need n x hx];have:=ht.bytes n x hx;unfold jL;omega
 clear h h1 h2 h3 h4 hx ht;go_enter Tryz.func187,Tryz.ntmps187;go_wp2_with (go_at_call 240;refine(qDN H.o.own H.o.col H.o.disk hD H4.o hbl HIN.o cap data hda).mono ?_;rintro ev w3 ⟨rfl,c3,he3,hd3⟩);go_ret;exact⟨rfl,c3,he3,bd,bs,bm,st,H.o.redisk he3 (jX _ _ _) hd3⟩
def uI (x:Ino)(A:Option Addr)(cap:Nat):Value:=.agg (jN x A cap)
theorem qMe {A:Option Addr}{l:List Nat}(cap:Nat)(hl:RoInts w c A l)(hbig:l.length≤1000000) :
  Calls Tryz.prog 243 #[.slice A l.length cap] w fun e w'=>∃ A' cap',e=.returned (.slice A' l.length cap')∧w'.ownsRow w.heap.size 3 1 (.slice A' l.length cap') l.length (l.map dW)∧Below w.heap.size w w':=by
 rcases A with _ | ⟨g,off,k⟩
 ·have h0:l=[]:=by
   rcases l with _ | ⟨x,r⟩
   ·rfl
   ·obtain⟨b,off,h,_⟩:=hl (by simp)
    cases h
  subst h0;refine(Tryz.slices_Clone_int_nil 0 cap w).mono ?_;rintro e w' ⟨rfl,rfl⟩;exact⟨none,0,rfl,zF1 _ _ _ _,zB _ _⟩
 ·rcases Nat.eq_zero_or_pos l.length with h0 | h0
  ·have h1:l=[]:=zH h0;subst h1;refine(Tryz.slices_Clone_int_zero ⟨g,off,k⟩ cap w).mono ?_;rintro e w' ⟨v',rfl,h1,_,h2⟩;obtain⟨A',cap',rfl⟩:=Stl.owns_slice _ h1;exact⟨A',cap',rfl,h1,h2⟩
  ·obtain⟨b,off',h,hb,hc,hj⟩:=hl (by intro e;rw[e] at h0;simp at h0)
   cases h
   refine(Tryz.slices_Clone_int g off l.length cap (l.map fun k:Nat=>(k:Int)) w (by simp) (by omega) (fun j hj'=>by
    have hj2:j<l.length:=by simpa using hj'
    rw[hj j _ (zL hj2)]
    simp[hj2])).mono ?_
   rintro e w' ⟨v',rfl,h1,_,h2⟩;obtain⟨A',cap',rfl⟩:=Stl.owns_slice _ h1;refine⟨A',cap',rfl,?_,h2⟩;have e1:((l.map fun k:Nat=>(k:Int)).take l.length).map (Value.int .i64)=l.map dW:=by
    rw[zm (by simp),zW];rfl
   rw[e1] at h1;exact h1
theorem wE (h:TabAt w c b T)(ht:yX T)(n:Nat)(hn:n≤1000000){x:Ino}(hx:T.at_ n=some x) :
  Calls Tryz.prog 184 #[.pointer (some ⟨b,0,none⟩),.int .i64 n] w fun e w'=>∃ A cap,e=.returned (.tuple #[uI x A cap,.bool true])∧w'.ownsRow w.heap.size 3 1 (.slice A x.blocks.length cap) x.blocks.length (x.blocks.map dW)∧Below w.heap.size w w':=by
 obtain⟨bd,bs,bm,st,h⟩:=h;have hb1:Below w.heap.size w (w.alloc (.cells #[.int .i64 0,.int .i64 0,.bool false,.slice none 0 0,.int .u32 0] 254)):=(zB _ w).alloc (zo _) _;have h':=h.below hb1;have hlk:=h'.lookOk hn hx;have c2:=ce2 h'.own;obtain⟨A,cap,h1,h2,h3,h4⟩:=h'.cells hx;have HBOX:=Hh (zK1 w (.cells #[.int .i64 0,.int .i64 0,.bool false,.slice none 0 0,.int .u32 0] 254));have hbl:x.blocks.length≤1000000:=by rw[ht.need n x hx];have:=ht.bytes n x hx;unfold jL;omega
 have HB1:=Hh hb1;have HI:=Hh h1;have HRO:=Hh h4;clear h h' hx ht h1 h2 h3 h4 hb1;go_enter Tryz.func184,Tryz.ntmps184;go_upto_region 4 with fail;generalize w.alloc (.cells #[.int .i64 0,.int .i64 0,.bool false,.slice none 0 0,.int .u32 0] 254)=w1 at *;obtain⟨q0,q1,q2,q3⟩:=cq HI.o;have q4:=ce4 HI.o;go_upto_region 5 with fail;have hb2:Below w1.heap.size w1 (w1.alloc (.cells #[.int .i64 x.bytes,.int .i64 x.links,.bool x.exec,.slice A x.blocks.length cap,.int .u32 x.sum.toNat] 254)):=(zB _ w1).alloc (zo _) _;have HX2:=Hh (zK1 w1 (.cells #[.int .i64 x.bytes,.int .i64 x.links,.bool x.exec,.slice A x.blocks.length cap,.int .u32 x.sum.toNat] 254));have HI2:=Hh ((hb2.block _ (qA HI.o)).trans HI.o);have HBOX2:=Hh ((hb2.block _ (qA HBOX.o)).trans HBOX.o);have HRO2:=Hh (HRO.o.ext (Ext.of_below hb2 c S0) rfl);have HB2:=Hh (HB1.o.trans (hb2.mono HB1.o.size));clear hb2 q0 q1 q2 q3 q4 hlk c2;generalize w1.alloc (.cells #[.int .i64 x.bytes,.int .i64 x.links,.bool x.exec,.slice A x.blocks.length cap,.int .u32 x.sum.toNat] 254)=w2 at *;have q3:=ce3 HI2.o;go_upto_region 6 with (go_at_call 243;refine(qMe cap HRO2.o hbl).mono ?_;rintro ev w3 ⟨A3,cap3,rfl,hown,hb3⟩;have hx3:=(hb3.block _ (qA HX2.o)).trans HX2.o;have g3:=zJ1 w3 _ 3 _ _ _ hx3;have f3:=qC hx3 3;have HOWN:=Hh hown;have HB3:=Hh hb3;have HX3:=Hh hx3;clear hown hb3 hx3);have HBX3:=Hh ((HB3.o.block _ (qA HBOX2.o)).trans HBOX2.o);have hne:w1.heap.size≠w.heap.size:=by have:=qA HBOX.o;omega
 have HX4:=Hh (qH HX3.o 3 (.slice A3 x.blocks.length cap3));have HBX4:=Hh ((zA w3 ⟨w1.heap.size,3,none⟩ (.slice A3 x.blocks.length cap3) w.heap.size hne.symm).trans HBX3.o);have HOWN4:=Hh (zO1 HOWN.o (a:=⟨w1.heap.size,3,none⟩) (by
  intro e
  have:=(HOWN.o.lt _ e).1
  have:=qA HX2.o
  simp at *
  omega) (.slice A3 x.blocks.length cap3))
 have HB4:=Hh ((HB2.o.trans (HB3.o.mono HB2.o.size)).setCell (p:=⟨w1.heap.size,3,none⟩) HB1.o.size (.slice A3 x.blocks.length cap3));clear g3 f3;generalize w3.setCell ⟨w1.heap.size,3,none⟩ (.slice A3 x.blocks.length cap3)=w4 at *;obtain⟨q0,q1,q2,q3⟩:=cq HX4.o;have q4:=ce4 HX4.o;obtain⟨r0,r1,r2,r3⟩:=cq HBX4.o;have r4:=ce4 HBX4.o;obtain⟨f0,f1,f2,f3⟩:=Stl.fq HBX4.o;have f4:=qC HBX4.o 4;go_wp2_with fail;have HF:=Hh (qH (qH (qH (qH (qH HBX4.o 0 (.int .i64 x.bytes)) 1 (.int .i64 x.links)) 2 (.bool x.exec)) 3 (.slice A3 x.blocks.length cap3)) 4 (.int .u32 x.sum.toNat));have hno:(Value.slice A3 x.blocks.length cap3).ownBlock≠some w.heap.size:=by
  intro e;have:=(HOWN.o.lt _ e).1;have:=qA HBOX2.o;omega
 have HOW:=Hh (zO1 (zO1 (zO1 (zO1 (zO1 HOWN4.o (a:=⟨w.heap.size,0,none⟩) hno (.int .i64 x.bytes)) (a:=⟨w.heap.size,1,none⟩) hno (.int .i64 x.links)) (a:=⟨w.heap.size,2,none⟩) hno (.bool x.exec)) (a:=⟨w.heap.size,3,none⟩) hno (.slice A3 x.blocks.length cap3)) (a:=⟨w.heap.size,4,none⟩) hno (.int .u32 x.sum.toNat));have HBF:=Hh (((((HB4.o.setCell (p:=⟨w.heap.size,0,none⟩) (zo _) (.int .i64 x.bytes)).setCell (p:=⟨w.heap.size,1,none⟩) (zo _) (.int .i64 x.links)).setCell (p:=⟨w.heap.size,2,none⟩) (zo _) (.bool x.exec)).setCell (p:=⟨w.heap.size,3,none⟩) (zo _) (.slice A3 x.blocks.length cap3)).setCell (p:=⟨w.heap.size,4,none⟩) (zo _) (.int .u32 x.sum.toNat));clear q0 q1 q2 q3 q4 r0 r1 r2 r3 r4 f0 f1 f2 f3 f4 hno;generalize ((((w4.setCell ⟨w.heap.size,0,none⟩ (.int .i64 x.bytes)).setCell ⟨w.heap.size,1,none⟩ (.int .i64 x.links)).setCell ⟨w.heap.size,2,none⟩ (.bool x.exec)).setCell ⟨w.heap.size,3,none⟩ (.slice A3 x.blocks.length cap3)).setCell ⟨w.heap.size,4,none⟩ (.int .u32 x.sum.toNat)=w5 at *;obtain⟨r0,r1,r2,r3⟩:=cq HF.o;have r4:=ce4 HF.o;refine zH1 (v:=.tuple #[uI x A3 cap3,.bool true]) ?_ rfl ⟨A3,cap3,rfl,?_,HBF.o⟩
 ·simp[results,Tryz.results184,go_sem,r0,r1,r2,r3,r4,uI,jN]
 ·obtain⟨ho1,ho2⟩:=HOW.o;refine⟨ho1,?_⟩
  rcases ho2 with h | ⟨g,cp,cur,h1,h2,h3⟩
  ·exact .inl h
  ·exact .inr ⟨g,cp,cur,h1,zq HB2.o.size h2,h3⟩
end
theorem qOO:xX 4 (.bool false) 1 1:=xQ (by kernel_rfl) rfl (by decide)
theorem gB {e:TypeId}{z:Value}{size bytes:Nat}(he:xX e z size bytes)(w:World):(Go.sizeOf e).run Tryz.prog w=.ok size w:=by
 obtain⟨i,hi,_,h1,_⟩:=he.info;simp[Go.sizeOf,typeInfo,hi,h1]
section
variable {w w2:World}{c c2:Nat→Col}
theorem qHN {ρ:Ren}(L:SlLaysE0.n41 Tryz.prog ρ){z:Value}{size bytes:Nat}(he:xX (ρ.t 23) z size bytes){base n:Nat}{v:Value}{xs:List Value}(h:w.ownsRow base (ρ.t 23) size v n xs)(h1:∀ u∈xs,u.oneCell'=true)(hn:n≤1000000)(hby:bytes≤1000000) :
  Calls Tryz.prog (ρ.f 41) #[v] w fun e w'=>∃ A cap,e=.returned (.slice A n cap)∧w'.ownsRow w.heap.size (ρ.t 23) size (.slice A n cap) n xs∧Below w.heap.size w w':=by
 have h0:=h;obtain⟨hl,h2⟩:=h
 rcases h2 with ⟨rfl,rfl⟩ | ⟨g,cap,cur,rfl,hb,hg,hnc,hcm,hcs,htake⟩
 ·obtain rfl:xs=[]:=zH (by simpa using hl);refine(AnyE.slices_Clone_nil L 0 0 w).mono ?_;rintro e w' ⟨rfl,rfl⟩;exact⟨none,0,rfl,zF1 _ _ _ _,zB _ _⟩
 ·obtain⟨i,hi,hz0,hz1,hz2⟩:=he.info;refine(AnyE.slices_Clone L i z size bytes hi hz0 hz1 hz2 he.cells he.pos (gB he) g 0 n cap xs w hl (by unfold maxLen;omega) (zq (Nat.mul_le_mul hn hby) (by omega)) (fun j u hu=>?_) h1).mono ?_
  ·rw[zv,h0.cellAt j (by rw[← hl];exact(zM.1 hu).1)];exact hu
  ·rintro e w' ⟨v',rfl,h3,_,h4⟩;obtain⟨A',cap',rfl⟩:=Stl.owns_slice _ h3;exact⟨A',cap',rfl,h3,h4⟩
theorem qMb {base n:Nat}{v:Value}{xs:List Value}(h:w.ownsRow base 9 1 v n xs)(h1:∀ u∈xs,u.oneCell'=true)(hn:n≤1000000) :
  Calls Tryz.prog 69 #[v] w fun e w'=>∃ A cap,e=.returned (.slice A n cap)∧w'.ownsRow w.heap.size 9 1 (.slice A n cap) n xs∧Below w.heap.size w w' :=
 qHN Tryz.cloneS mY h h1 hn (by decide)
theorem qKq {base n:Nat}{v:Value}{xs:List Value}(h:w.ownsRow base 4 1 v n xs)(h1:∀ u∈xs,u.oneCell'=true)(hn:n≤1000000) :
  Calls Tryz.prog 223 #[v] w fun e w'=>∃ A cap,e=.returned (.slice A n cap)∧w'.ownsRow w.heap.size 4 1 (.slice A n cap) n xs∧Below w.heap.size w w' :=
 qHN Tryz.cloneB qOO h h1 hn (by decide)
theorem qJp (w:World):Calls Tryz.prog 222 #[.slice none 0 0] w fun e w'=>e=.returned (.slice none 0 0)∧w'=w:=AnyE.slices_Clone_nil Tryz.cloneW 0 0 w
variable {b:Nat}
theorem qD9 {U:List Bool}(k0:Nat→Col)(h:SpaceAt w c b U)(hU:U.length≤1000000) :
  Calls Tryz.prog 164 #[.pointer (some ⟨b,0,none⟩)] w fun e w'=>∃ b2 c2,e=.returned (.pointer (some ⟨b2,0,none⟩))∧Below w.heap.size w w'∧(∀ k,k<w.heap.size→c2 k=k0 k)∧w.heap.size≤b2∧SpaceAt w' c2 b2 U:=by
 obtain⟨v,hb,hc,hr⟩:=h;obtain⟨A,cap,rfl⟩:=hr.slice;have c0:=ce0 hb;have HR:=Hh hr.1;clear hb hr hc;go_enter Tryz.func164,Tryz.ntmps164;go_wp2_with (go_at_call 223;refine(qKq HR.o (fun u hu=>by obtain⟨x,_,rfl⟩:=zb.1 hu;rfl) hU).mono ?_;rintro ev w2 ⟨A2,cap2,rfl,hown,hb2⟩);go_ret;refine⟨w2.heap.size,fun k=>if k<w.heap.size then k0 k else if k=w2.heap.size then .space else .used,rfl,hb2.alloc hb2.size _,fun k hk=>zM1 hk,hb2.size,?_⟩;have hs:=hb2.size;refine⟨.slice A2 U.length cap2,zK1 w2 _,by simp;omega,RowAt.of_owns (hown.alloc _) fun k hk=>?_⟩;have:=hown.lt k hk;have h1:¬ k<w.heap.size:=by omega
 have h2:¬ k=w2.heap.size:=by omega
 simp[h1,h2]
theorem qFF {D:List (List UInt8)}(k0:Nat→Col)(h:DiskAt w c b D)(hD:D.length≤1000000) :
  Calls Tryz.prog 163 #[.pointer (some ⟨b,0,none⟩)] w fun e w'=>∃ b2 c2,e=.returned (.pointer (some ⟨b2,0,none⟩))∧Below w.heap.size w w'∧(∀ k,k<w.heap.size→c2 k=k0 k)∧w.heap.size≤b2∧DiskAt w' c2 b2 D:=by
 obtain⟨v,hb,hc,hr⟩:=h;obtain⟨A,cap,rfl⟩:=hr.slice;have c0:=ce0 hb;have c1:=ce1 hb;have HR:=Hh (show w.drew.ownsRow 0 9 1 (.slice A D.length cap) D.length (D.map encStr) from hr.1);have hbl:=qA hb;clear hb hr hc;go_enter Tryz.func163,Tryz.ntmps163;go_upto_region 1 with fail
 go_region_held3 (fun w'=>w'.cell? ⟨b,0,none⟩=some (.slice A D.length cap)∧w'.cell? ⟨b,1,none⟩=some (.slice none 0 0))
  (first
   | exact⟨c0,c1⟩
   | exact⟨c0',c1'⟩
   | exact⟨c0'',c1''⟩
   | go_keep)
  (first
   | (go_at_call 69;refine(qMb HR.o (fun u hu=>by obtain⟨x,_,rfl⟩:=zb.1 hu;rfl) hD).mono ?_;rintro ev w2 ⟨A2,cap2,rfl,hown,hb2⟩;have c0':=(hb2.cell (p:=⟨b,0,none⟩) hbl).trans c0;have c1':=(hb2.cell (p:=⟨b,1,none⟩) hbl).trans c1)
   | (go_at_call 222;refine(qJp _).mono ?_;rintro ev wz ⟨rfl,rfl⟩)
   | fail)
 have HOWN:=Hh hown;have HB2:=Hh (show Below w.heap.size w wz from ⟨hb2.os,hb2.tape,hb2.output,hb2.size,hb2.block⟩);clear hown hb2 c0 c1 c0' c1';go_wp2;go_ret;have hs:=HB2.o.size;refine⟨wz.heap.size,fun k=>if k<w.heap.size then k0 k else if k=wz.heap.size then .disk else .diskL,rfl,HB2.o.alloc hs _,fun k hk=>zM1 hk,hs,.slice A2 D.length cap2,zK1 wz _,by simp;omega,RowAt.of_owns (HOWN.o.alloc _) fun k hk=>?_⟩;have:=HOWN.o.lt k hk;have hw:w.drew.heap.size=w.heap.size:=rfl;have h1:¬ k<w.heap.size:=by omega
 have h2:¬ k=wz.heap.size:=by omega
 simp[h1,h2]
end
end Go.Proofs.YtbmkaekimccdgaaGreatDoor
