/- Texts of this claim, merged: Mend, StoRot, Kid. -/
import Derived.Test.YtceklhjomhjipaaGreatDoorKm29
import Derived.Test.YtceklhjomhjipaaGreatDoorKm30
set_option maxHeartbeats 16000000
set_option maxRecDepth 1000000
set_option linter.all false
namespace Go.Proofs.YtceklhjomhjipaaGreatDoor
open Go.RowKit Go.Sort Go.Shelf Stl
def qKr (p:Nat→Addr) (c:Nat→Col) (b:Nat) (w:World) (r:Except Nat Tab) (ev:Ending) (w':World):Prop :=
 match r with
 | .error cd=>ev=.returned (qAB p cd)∧Below w.heap.size w w'
 | .ok T=>ev=.returned .nilIface∧∃ c2,Ext w w' c c2 qC1∧TabAt w' c2 b T
section
variable {w:World} {c:Nat→Col} {b:Nat} {T:Tab} {p:Nat→Addr}
theorem qMf (h:TabAt w c b T) (n:Nat) (hn:n≤1000000) (hx:T.at_ n=none) :
  Calls Tryz.prog 54 #[.pointer (some ⟨b,0,none⟩),.int .i64 n] w fun e w'=>e=.returned (.tuple #[.agg #[.int .i64 0,.int .i64 0,.bool false,.slice none 0 0,.int .u32 0],.bool false])∧Below w.heap.size w w':=by
 obtain ⟨bd,bs,bm,st,h⟩:=h
 have hb1:Below w.heap.size w (w.alloc (.cells #[.int .i64 0,.int .i64 0,.bool false,.slice none 0 0,.int .u32 0] 71)):=(zB _ w).alloc (zq _) _
 have hlk:=(h.below hb1).lookNo hn hx
 have c2:=ce2 (h.below hb1).own
 clear h hx
 go_enter Tryz.func54,Tryz.ntmps54
 go_wp2_with fail
 go_returns
 exact ⟨rfl,hb1⟩
theorem qOu (h:TabAt w c b T) (ht:qBl T) (hD:T.disk.length≤1000000) (n:Nat) (hn:n≤1000000) (data:List UInt8) (hda:data.length≤1000000) (hE:Errs w p) :
  Calls Tryz.prog 85 #[.pointer (some ⟨b,0,none⟩),.int .i64 n,.string ⟨data.toArray⟩] w (qKr p c b w (T.mend n data)):=by
 obtain ⟨res,hres⟩:∃ res,res=T.mend n data:=⟨_,rfl⟩
 rw [← hres]
 have HT:=Hh h
 have HOK:=Hh ht
 have HE:=Hh hE
 cases hx:T.at_ n with
 | none =>
  have HR:=Hh (show res=.error 6 by rw [hres];unfold Tab.mend;rw [hx])
  have HS:=Hh (qMf h n hn hx)
  clear hx h ht hE hres
  go_enter Tryz.func85,Tryz.ntmps85
  go_upto_region 5 with (go_at_call 54;refine HS.out.mono ?_;rintro ev w4 ⟨rfl,hb4⟩;have HB4:=Hh hb4;clear hb4)
  have HB5:=Hh (HB4.out.alloc HB4.out.size (.cells #[.int .i64 0,.int .i64 0,.bool false,.slice none 0 0,.int .u32 0] 71))
  generalize w4.alloc (.cells #[.int .i64 0,.int .i64 0,.bool false,.slice none 0 0,.int .u32 0] 71)=w5 at *
  have hg:=(HE.out.later HB5.out).cell 6 (by omega) (by omega)
  rw [qAc p (by omega)] at hg
  have hg6:w5.cell? ⟨7,0,none⟩=some (.iface 377 (.pointer (some (p 6)))):=hg
  clear hg
  go_wp2_with fail
  go_ret
  rw [HR.out]
  exact ⟨by rw [qAc p (by decide)];rfl,HB5.out⟩
 | some x =>
  have HS:=Hh (qBS h ht n hn hx)
  simp only [qFw,qAz] at HS
  have HXM:=Hh hx
  have HRES:=Hh hres
  clear h ht hE hres hx
  go_enter Tryz.func85,Tryz.ntmps85
  go_upto_region 4 with (go_at_call 54;refine HS.out.mono ?_;rintro ev w4 ⟨A1,cap1,rfl,hr4,hb4⟩;have HB4:=Hh hb4;clear hb4 hr4)
  have hb5:Below w4.heap.size w4 (w4.alloc (.cells #[.int .i64 x.bytes,.int .i64 x.links,.bool x.exec,.slice A1 x.blocks.length cap1,.int .u32 x.sum.toNat] 71)):=(zB _ w4).alloc (zq _) _
  have HB5:=Hh (HB4.out.trans (hb5.mono HB4.out.size))
  have HX5:=Hh (zK1 w4 (.cells #[.int .i64 x.bytes,.int .i64 x.links,.bool x.exec,.slice A1 x.blocks.length cap1,.int .u32 x.sum.toNat] 71))
  clear hb5
  generalize w4.alloc (.cells #[.int .i64 x.bytes,.int .i64 x.links,.bool x.exec,.slice A1 x.blocks.length cap1,.int .u32 x.sum.toNat] 71)=w5 at *
  have x0:=ce0 HX5.out
  have x4:=ce4 HX5.out
  have HSUM:=Hh (qJB data hda)
  by_cases hq:data.length=x.bytes∧crc data=x.sum
  ·obtain ⟨hq1,hq2⟩:=hq
   rw [hq2] at HSUM
   have i1:(data.length:Int)=(x.bytes:Int):=by omega
   have HQ:=Hh (And.intro hq1 hq2)
   clear hq1 hq2
   go_upto_region 6 with fail
   go_region_held3 (fun w'=>w'.cell? ⟨w4.heap.size,0,none⟩=some (.int .i64 x.bytes)∧w'.cell? ⟨w4.heap.size,4,none⟩=some (.int .u32 x.sum.toNat))
    (first
     | exact ⟨x0,x4⟩
     | assumption
     | go_keep)
    (first
     | (go_at_call 142;refine (HSUM.out _).mono ?_;rintro ev wz ⟨rfl,rfl⟩)
     | fail)
   have hbd:Below w5.heap.size w5 w5.drew:=⟨rfl,rfl,rfl,zq _,fun _ _=>rfl⟩
   have HBD:=Hh (HB5.out.trans (hbd.mono HB5.out.size))
   have HRD:=Hh (qBX (HT.out.below HBD.out) HOK.out hD n hn (HE.out.later HBD.out))
   clear hbd x0 x4
   generalize w5.drew=w6 at *
   cases hrd:T.read n with
   | ok s =>
    rw [hrd,show qDw p (.ok s)=#[.string ⟨s.toArray⟩,.nilIface] from rfl] at HRD
    have HR:=Hh (show res=.error 7 by
     rw [HRES.out]
     unfold Tab.mend
     rw [HXM.out]
     simp only
     rw [zL1 (by simp [HQ.out.1,HQ.out.2]),hrd])
    clear hrd
    go_upto_region 10 with (go_at_call 143;refine HRD.out.mono ?_;rintro ev w7 ⟨rfl,hb7⟩;have HB7:=Hh (HBD.out.trans (hb7.mono HBD.out.size));clear hb7)
    have hg:=(HE.out.later HB7.out).cell 7 (by omega) (by omega)
    rw [qAc p (by omega)] at hg
    have hg7:w7.cell? ⟨6,0,none⟩=some (.iface 377 (.pointer (some (p 7)))):=hg
    clear hg
    go_wp2_with fail
    go_ret
    rw [HR.out]
    exact ⟨by rw [qAc p (by decide)];rfl,HB7.out⟩
   | error cd =>
    rw [hrd,show qDw p (.error cd)=#[.string ⟨#[]⟩,qAB p cd] from rfl,qAc p (qC7 hrd)] at HRD
    have HR:=Hh (show res=.ok { T with disk:=qBu T.disk x.blocks data } by
     rw [HRES.out]
     unfold Tab.mend
     rw [HXM.out]
     simp only
     rw [zL1 (by simp [HQ.out.1,HQ.out.2]),hrd])
    clear hrd
    go_upto_region 11 with (go_at_call 143;refine HRD.out.mono ?_;rintro ev w7 ⟨rfl,hb7⟩;have HB7:=Hh (HBD.out.trans (hb7.mono HBD.out.size));clear hb7)
    have HWR:=Hh (qIz (HT.out.below HB7.out) HOK.out hD n hn HXM.out data hda)
    go_wp2_with (go_at_call 144;refine HWR.out.mono ?_;rintro ev w8 ⟨rfl,c2,he8,ht8⟩;have HE8:=Hh ((Ext.of_below HB7.out c qC1).trans he8);have HT8:=Hh ht8;clear he8 ht8)
    go_ret
    rw [HR.out]
    exact ⟨rfl,c2,HE8.out,HT8.out⟩
  ·have HR:=Hh (show res=.error 11 by
    rw [HRES.out]
    unfold Tab.mend
    rw [HXM.out]
    simp only
    rw [zM1 (by
     by_cases h1:data.length=x.bytes
     ·exact .inr (fun h2=>hq ⟨h1,h2⟩)
     ·exact .inl h1)])
   by_cases h1:data.length=x.bytes
   ·have i1:(data.length:Int)=(x.bytes:Int):=by omega
    have hcs:¬ crc data=x.sum:=fun h2=>hq ⟨h1,h2⟩
    have i2:¬ (((crc data).toNat:Nat):Int)=((x.sum.toNat:Nat):Int):=fun e=>hcs (UInt32.toNat_inj.1 (by omega))
    clear hcs hq h1
    generalize (crc data).toNat=cn at HSUM i2
    go_upto_region 6 with fail
    go_region_held3 (fun w'=>w'.cell? ⟨w4.heap.size,0,none⟩=some (.int .i64 x.bytes)∧w'.cell? ⟨w4.heap.size,4,none⟩=some (.int .u32 x.sum.toNat))
     (first
      | exact ⟨x0,x4⟩
      | assumption
      | go_keep)
     (first
      | (go_at_call 142;refine (HSUM.out _).mono ?_;rintro ev wz ⟨rfl,rfl⟩)
      | fail)
    have hbd:Below w5.heap.size w5 w5.drew:=⟨rfl,rfl,rfl,zq _,fun _ _=>rfl⟩
    have HBD:=Hh (HB5.out.trans (hbd.mono HB5.out.size))
    clear hbd x0 x4
    generalize w5.drew=w6 at *
    have hg:=(HE.out.later HBD.out).cell 11 (by omega) (by omega)
    rw [qAc p (by omega)] at hg
    have hg11:w6.cell? ⟨9,0,none⟩=some (.iface 377 (.pointer (some (p 11)))):=hg
    clear hg
    go_wp2_with fail
    go_ret
    rw [HR.out]
    exact ⟨by rw [qAc p (by decide)];rfl,HBD.out⟩
   ·have i1:¬ (data.length:Int)=(x.bytes:Int):=by omega
    clear hq h1
    go_upto_region 6 with fail
    have i3:decide ((data.length:Int)=(x.bytes:Int))=false:=decide_eq_false i1
    have i4:((data.length:Int) != (x.bytes:Int))=true:=bne_iff_ne.2 i1
    go_quiet (fail)
    have hbd:Below w5.heap.size w5 (w5.drewN nq):=⟨rfl,rfl,rfl,zq _,fun _ _=>rfl⟩
    have HBD:=Hh (HB5.out.trans (hbd.mono HB5.out.size))
    clear hbd x0 x4
    generalize w5.drewN nq=w6 at *
    have hg:=(HE.out.later HBD.out).cell 11 (by omega) (by omega)
    rw [qAc p (by omega)] at hg
    have hg11:w6.cell? ⟨9,0,none⟩=some (.iface 377 (.pointer (some (p 11)))):=hg
    clear hg
    go_wp2_with fail
    go_ret
    rw [HR.out]
    exact ⟨by rw [qAc p (by decide)];rfl,HBD.out⟩
end
theorem qIi:∀ (s:List UInt8) (n:Nat),s.all isDigit=true→s.foldl (fun n c=>10*n+(c.toNat-48)) n+1≤(n+1)*10 ^ s.length
 | [],n,_=>by simp
 | c::r,n,h=>by
  simp only [List.all_cons,zC] at h
  have hc:c.toNat≤57:=by
   have:=h.1
   simp only [isDigit,zC,decide_eq_true_eq] at this
   have h2:c≤57:=this.2
   exact UInt8.le_iff_toNat_le.1 h2
  have ih:=qIi r (10*n+(c.toNat-48)) h.2
  simp only [List.foldl_cons,zQ]
  refine zr ih ?_
  rw [Nat.pow_succ,Nat.mul_comm (10 ^ r.length) 10,← Nat.mul_assoc]
  exact Nat.mul_le_mul_right _ (by omega)
theorem qCl {s:List UInt8} {n:Nat} (h:numberOf s 6=some n):n≤1000000:=by
 unfold numberOf at h
 split at h
 ·cases h
 ·rename_i hc
  injection h with h
  have hd:s.all isDigit=true:=by
   cases hq:s.all isDigit with
   | true=>rfl
   | false=>exact absurd (.inr (.inr (.inr hq))) hc
  have hl:s.length≤6:=by
   rcases zv 6 s.length with h6 | h6
   ·exact absurd (.inr (.inl h6)) hc
   ·exact h6
  have:=qIi s 0 hd
  unfold qCa at h
  rw [h] at this
  have h2:(10:Nat) ^ s.length≤10 ^ 6:=Nat.pow_le_pow_right (by omega) hl
  omega
theorem qDV (ch:UInt8):∀ {s a b:List UInt8},cutAt ch s=some (a,b)→a.length≤s.length∧b.length≤s.length
 | [],a,b,h=>by cases h
 | x::r,a,b,h=>by
  unfold cutAt at h
  split at h
  ·cases h;simp
  ·cases hc:cutAt ch r with
   | none=>rw [hc] at h;cases h
   | some q =>
    obtain ⟨a',b'⟩:=q
    rw [hc] at h
    simp only [zA1,zB1,Prod.mk.injEq] at h
    obtain ⟨rfl,rfl⟩:=h
    have:=qDV ch hc
    simp only [zQ]
    omega
section
variable {w:World} {A:Option Addr} {zs:List PkX} {c:Nat→Col} {b:Nat} {s:Sto} {bd:Nat} {cap:Nat} {R:Option Addr} {rc tp:Nat} {p:Nat→Addr}
theorem qNx (h:StoX w c b s bd A cap zs R rc tp) (hg:qAS s) (hE:Env w c p) :
  Calls Tryz.prog 36 #[.pointer (some ⟨b,0,none⟩)] w (ChPost p w c b tp (.ok (dec s.d.mergeAll.1,{ s with d:=s.d.mergeAll.2 }))):=by
 have H:=Hh h
 have hwt:=qI0 hg.good
 have hml:s.d.mergeAll.1≤s.d.weight:=(qHt s.d.weight s.d hg.ok.dirs (zq _)).2.2.2.2.2
 have HA:=Hh (qOo h.dirs hg.good hE)
 have HE:=Hh hE
 have c0:=ce0 h.own
 generalize s.d.mergeAll=r at *
 obtain ⟨n,d'⟩:=r
 simp only at hml
 clear h hg hE
 go_enter Tryz.func36,Tryz.ntmps36
 go_upto_region 2 with (go_at_call 72;refine HA.out.mono ?_;rintro ev w2 ⟨rfl,c2,he2,hd2⟩;have HE2:=Hh he2;have HD2:=Hh hd2;clear he2 hd2)
 have HIT:=Hh (qDq n (by omega) w2 (HE.out.ext HE2.out rfl).vars)
 go_wp2_with (go_at_call 71;refine HIT.out.mono ?_;rintro ev w3 ⟨rfl,hb3⟩)
 go_ret2
 have e2:Ext w w2 c c2 qDz:=HE2.out.mono qME
 refine ⟨_,_,c2,rfl,(e2.mono qD8).then (Ext.of_below hb3 c2 qDx) (fun _ h=>h),rfl,rfl,((H.out.redirs e2 HD2.out).below hb3).shut⟩
def qL8 (s:Sto) (rest:List UInt8):Except Nat (List UInt8×Sto) :=
 match cutAt 32 rest with
 | none=>.error 1
 | some (a,b)=>match numberOf a 6,numberOf b 6 with
  | some k,some bit=>(s.d.t.rot k bit).map fun t=>(bOk,{ s with d:={ s.d with t:=t } })
  | _,_=>.error 1
def qGN (s:Sto) (rest:List UInt8):Except Nat (List UInt8×Sto) :=
 match cutAt 32 rest with
 | none=>.error 1
 | some (a,data)=>match numberOf a 6 with
  | some n=>(s.d.t.mend n data).map fun t=>(bOk,{ s with d:={ s.d with t:=t } })
  | none=>.error 1
theorem qQE (h:StoX w c b s bd A cap zs R rc tp) (hg:qAS s) (hE:Env w c p) (rest:List UInt8) (hr:rest.length≤4000000) :
  Calls Tryz.prog 41 #[.pointer (some ⟨b,0,none⟩),.string ⟨rest.toArray⟩] w (ChPost p w c b tp (qL8 s rest)):=by
 have H:=Hh h
 have HG:=Hh hg
 have HE:=Hh hE
 obtain ⟨x,y,is,hcut,hx,hy,his⟩:∃ (x y:List UInt8) (is:Bool),Calls Tryz.prog 37 #[.string ⟨rest.toArray⟩,.string ⟨#[32]⟩] w (fun e w'=>e=.returned (.tuple #[.string ⟨x.toArray⟩,.string ⟨y.toArray⟩,.bool is])∧Below w.heap.size w w')∧x.length≤4000000∧y.length≤4000000∧((is=false∧qL8 s rest=.error 1)∨(is=true∧qL8 s rest=match numberOf x 6,numberOf y 6 with | some k,some bit=>(s.d.t.rot k bit).map fun t=>(bOk,{ s with d:={ s.d with t:=t } }) | _,_=>.error 1)):=by
  cases hc:cutAt 32 rest with
  | none=>exact ⟨rest,[],false,qE8 32 hc hr w hE.max,hr,by simp,.inl ⟨rfl,by unfold qL8;rw [hc]⟩⟩
  | some q =>
   obtain ⟨x,y⟩:=q
   have:=qDV 32 hc
   exact ⟨x,y,true,qDh 32 hc hr w hE.max,by omega,by omega,.inr ⟨rfl,by unfold qL8;rw [hc]⟩⟩
 have HCUT:=Hh hcut
 generalize qL8 s rest=res at his ⊢
 have HIS:=Hh his
 clear hcut his h hg hE hr
 go_enter Tryz.func41,Tryz.ntmps41
 go_upto_region 2 with (go_at_call 37;refine HCUT.out.mono ?_;rintro ev w1 ⟨rfl,hb1⟩;have HB1:=Hh hb1;clear hb1)
 have HN1:=Hh (qBE x hx w1 (HE.out.vars.later HB1.out))
 go_upto_region 3 with (go_at_call 82;refine HN1.out.mono ?_;rintro ev w2 ⟨hb2,k,ok,rfl,hk⟩;have HB2:=Hh (HB1.out.trans (hb2.mono HB1.out.size));have HK:=Hh hk;clear hb2 hk)
 have HN2:=Hh (qBE y hy w2 (HE.out.vars.later HB2.out))
 clear HN1
 go_upto_region 4 with (go_at_call 82;refine HN2.out.mono ?_;rintro ev w3 ⟨hb3,bit,well,rfl,hbit⟩;have HB3:=Hh (HB2.out.trans (hb3.mono HB2.out.size));have HBIT:=Hh hbit;clear hb3 hbit)
 clear HN2
 have HE3:=Hh (HE.out.errs.later HB3.out)
 have hg:w3.cell? ⟨3,0,none⟩=some (.iface 377 (.pointer (some (p 1)))):=(HE3.out.cell 1 (by decide) (by decide)).trans (by rw [qAc p (by decide)])
 by_cases hall:is=true∧ok=true∧well=true
 ·obtain ⟨rfl,rfl,rfl⟩:=hall
  obtain ⟨kn,hkn,rfl⟩:∃ kn:Nat,numberOf x 6=some kn∧k=(kn:Int):=by
   rcases HK.out with ⟨_,h⟩ | ⟨m,h1,_,h2⟩
   ·cases h
   ·exact ⟨m,h1,h2⟩
  obtain ⟨bn,hbn,rfl⟩:∃ bn:Nat,numberOf y 6=some bn∧bit=(bn:Int):=by
   rcases HBIT.out with ⟨_,h⟩ | ⟨m,h1,_,h2⟩
   ·cases h
   ·exact ⟨m,h1,h2⟩
  have hrs:res=(s.d.t.rot kn bn).map fun t=>(bOk,{ s with d:={ s.d with t:=t } }):=by
   rcases HIS.out with ⟨h,_⟩ | ⟨_,h⟩
   ·cases h
   ·rw [h,hkn,hbn]
  have hkl:=qCl hkn
  have hbl:=qCl hbn
  have HX3:=Hh (H.out.below HB3.out)
  have c0:=ce0 HX3.out.own
  obtain ⟨bt,bm,nd,fm,hd3⟩:=HX3.out.dirs
  obtain ⟨bdk,bs,btm,st,ht3⟩:=hd3.tab
  have HD3:=Hh hd3
  have HT3:=Hh ht3
  have HTA:=Hh (qB3 hd3)
  have HDI:=Hh (qMX ht3)
  have hok:=HG.out.ok.dirs.tab
  clear hkn hbn hd3 ht3 HK HBIT HIS
  by_cases hbad:s.d.t.disk.length≤kn∨128≤bn
  ·have HRS:=Hh (show res=.error 2 by rw [hrs];unfold Tab.rot;rw [zM1 hbad];rfl)
   have hg2:w3.cell? ⟨0,0,none⟩=some (.iface 377 (.pointer (some (p 2)))):=(HE3.out.cell 2 (by decide) (by decide)).trans (by rw [qAc p (by decide)])
   have HRT:=Hh (qP8 HT3.out.disk kn bn hkl hbl hbad hg2)
   clear hbad hrs hg hg2
   go_wp2_with (first
    | (go_at_call 52;refine HTA.out.mono ?_;rintro ev wz ⟨rfl,rfl⟩)
    | (go_at_call 83;refine HDI.out.mono ?_;rintro ev wz ⟨rfl,rfl⟩)
    | (go_at_call 84;refine HRT.out.mono ?_;rintro ev wz ⟨rfl,rfl⟩))
   go_ret2
   rw [HRS.out]
   exact ⟨_,_,c,rfl,Ext.of_below HB3.out c qDx,by rw [qAc p (by decide)];rfl,by decide⟩
  ·have hkd:kn<s.d.t.disk.length:=by omega
   have hb16:(s.d.t.disk[kn]).length=16:=hok.whole _ (zO hkd)
   have HRS:=Hh (show res=.ok (bOk,{ s with d:={ s.d with t:={ s.d.t with disk:=s.d.t.disk.set kn (turnBit s.d.t.disk[kn] bn) } } }) by
    rw [hrs];unfold Tab.rot;rw [zL1 hbad]
    have:s.d.t.disk.getD kn []=s.d.t.disk[kn]:=by simp [List.getD,hkd]
    rw [this]
    rfl)
   have HRT:=Hh (qQr HT3.out.disk kn bn hkd HG.out.good.disk (by omega) hb16)
   clear hbad hrs hg
   go_wp2_with (first
    | (go_at_call 52;refine HTA.out.mono ?_;rintro ev wz ⟨rfl,rfl⟩)
    | (go_at_call 83;refine HDI.out.mono ?_;rintro ev wz ⟨rfl,rfl⟩)
    | (go_at_call 84;refine HRT.out.mono ?_;rintro ev w4 ⟨rfl,he4,hd4⟩))
   go_ret2
   have hdr:∀ x,qDz x=false→qC1 x=false:=fun x hx=>by cases x<;>first | rfl | (cases hx)
   have ht4:=HT3.out.redisk he4 (by simp) hd4
   have hx4:=HX3.out.redirs (he4.mono hdr) (d':={ s.d with t:={ s.d.t with disk:=s.d.t.disk.set kn (turnBit s.d.t.disk[kn] bn) } }) ⟨bt,bm,nd,fm,(HD3.out.but.ext he4 rfl rfl rfl (fun _=>rfl)).full ⟨_,_,_,_,ht4⟩⟩
   rw [HRS.out]
   exact ⟨_,_,c,rfl,(Ext.of_below HB3.out c qDx).then he4 (fun x hx=>hdr x (qD8 x hx)),rfl,rfl,hx4.shut⟩
 ·have HRS:=Hh (show res=.error 1 by
   rcases HIS.out with ⟨_,h⟩ | ⟨rfl,h⟩
   ·exact h
   ·rw [h]
    rcases HK.out with ⟨h1,_⟩ | ⟨m,h1,rfl,_⟩
    ·rw [h1]
    ·rcases HBIT.out with ⟨h2,_⟩ | ⟨m2,h2,rfl,_⟩
     ·rw [h1,h2]
     ·exact absurd ⟨rfl,rfl,rfl⟩ hall)
  clear HK HBIT HIS
  cases is<;>cases ok<;>cases well
  case true.true.true=>exact absurd ⟨rfl,rfl,rfl⟩ hall
  all_goals
   clear hall
   go_upto_region 5 with fail
   go_quiet (fail)
   go_wp2
   go_ret2
   rw [HRS.out]
   exact ⟨_,_,c,rfl,Ext.of_below (Below.drewN HB3.out _) c qDx,by rw [qAc p (by decide)];rfl,by decide⟩
theorem qOH (h:StoX w c b s bd A cap zs R rc tp) (hg:qAS s) (hE:Env w c p) (rest:List UInt8) (hr:rest.length≤1000000) :
  Calls Tryz.prog 42 #[.pointer (some ⟨b,0,none⟩),.string ⟨rest.toArray⟩] w (ChPost p w c b tp (qGN s rest)):=by
 have H:=Hh h
 have HG:=Hh hg
 have HE:=Hh hE
 obtain ⟨x,y,is,hcut,hx,hy,his⟩:∃ (x y:List UInt8) (is:Bool),Calls Tryz.prog 37 #[.string ⟨rest.toArray⟩,.string ⟨#[32]⟩] w (fun e w'=>e=.returned (.tuple #[.string ⟨x.toArray⟩,.string ⟨y.toArray⟩,.bool is])∧Below w.heap.size w w')∧x.length≤1000000∧y.length≤1000000∧((is=false∧qGN s rest=.error 1)∨(is=true∧qGN s rest=match numberOf x 6 with | some n=>(s.d.t.mend n y).map fun t=>(bOk,{ s with d:={ s.d with t:=t } }) | none=>.error 1)):=by
  cases hc:cutAt 32 rest with
  | none=>exact ⟨rest,[],false,qE8 32 hc (by omega) w hE.max,hr,by simp,.inl ⟨rfl,by unfold qGN;rw [hc]⟩⟩
  | some q =>
   obtain ⟨x,y⟩:=q
   have:=qDV 32 hc
   exact ⟨x,y,true,qDh 32 hc (by omega) w hE.max,by omega,by omega,.inr ⟨rfl,by unfold qGN;rw [hc]⟩⟩
 have HCUT:=Hh hcut
 generalize qGN s rest=res at his ⊢
 have HIS:=Hh his
 clear hcut his h hg hE hr
 go_enter Tryz.func42,Tryz.ntmps42
 go_upto_region 2 with (go_at_call 37;refine HCUT.out.mono ?_;rintro ev w1 ⟨rfl,hb1⟩;have HB1:=Hh hb1;clear hb1)
 have HN1:=Hh (qBE x (by omega) w1 (HE.out.vars.later HB1.out))
 go_upto_region 3 with (go_at_call 82;refine HN1.out.mono ?_;rintro ev w3 ⟨hb2,k,ok,rfl,hk⟩;have HB3:=Hh (HB1.out.trans (hb2.mono HB1.out.size));have HK:=Hh hk;clear hb2 hk)
 clear HN1
 have HE3:=Hh (HE.out.errs.later HB3.out)
 have hg:w3.cell? ⟨3,0,none⟩=some (.iface 377 (.pointer (some (p 1)))):=(HE3.out.cell 1 (by decide) (by decide)).trans (by rw [qAc p (by decide)])
 by_cases hall:is=true∧ok=true
 ·obtain ⟨rfl,rfl⟩:=hall
  obtain ⟨kn,hkn,rfl⟩:∃ kn:Nat,numberOf x 6=some kn∧k=(kn:Int):=by
   rcases HK.out with ⟨_,h⟩ | ⟨m,h1,_,h2⟩
   ·cases h
   ·exact ⟨m,h1,h2⟩
  have hrs:res=(s.d.t.mend kn y).map fun t=>(bOk,{ s with d:={ s.d with t:=t } }):=by
   rcases HIS.out with ⟨h,_⟩ | ⟨_,h⟩
   ·cases h
   ·rw [h,hkn]
  have hkl:=qCl hkn
  have HX3:=Hh (H.out.below HB3.out)
  have c0:=ce0 HX3.out.own
  obtain ⟨bt,bm,nd,fm,hd3⟩:=HX3.out.dirs
  have HD3:=Hh hd3
  have HTA:=Hh (qB3 hd3)
  have HMD:=Hh (qOu hd3.tab HG.out.ok.dirs.tab HG.out.good.disk kn hkl y hy HE3.out)
  clear hkn hd3 HK HIS hg
  unfold qKr at HMD
  cases hm:s.d.t.mend kn y with
  | error cd =>
   rw [hm] at HMD hrs
   have hcd:cd≠0:=by
    unfold Tab.mend at hm
    split at hm
    ·cases hm;decide
    ·split at hm
     ·cases hm;decide
     ·split at hm
      ·cases hm;decide
      ·cases hm
   simp only at HMD
   rw [qAc p hcd] at HMD
   have HRS:=Hh (show res=.error cd from hrs)
   have HEO:=Hh (qAc p hcd)
   have HCD:=Hh hcd
   clear hm hrs hcd
   go_wp2_with (first
    | (go_at_call 52;refine HTA.out.mono ?_;rintro ev wz ⟨rfl,rfl⟩)
    | (go_at_call 85;refine HMD.out.mono ?_;rintro ev w4 ⟨rfl,hb4⟩;have HB4:=Hh (HB3.out.trans (hb4.mono HB3.out.size));clear hb4))
   go_ret2
   rw [HRS.out]
   exact ⟨_,_,c,rfl,Ext.of_below HB4.out c qDx,by rw [HEO.out];rfl,HCD.out⟩
  | ok t =>
   rw [hm] at HMD hrs
   simp only at HMD
   have HRS:=Hh (show res=.ok (bOk,{ s with d:={ s.d with t:=t } }) from hrs)
   clear hm hrs
   go_wp2_with (first
    | (go_at_call 52;refine HTA.out.mono ?_;rintro ev wz ⟨rfl,rfl⟩)
    | (go_at_call 85;refine HMD.out.mono ?_;rintro ev w4 ⟨rfl,c4,he4,ht4⟩))
   go_ret2
   have hdr:∀ x,qDz x=false→qC1 x=false:=fun x hx=>by cases x<;>first | rfl | (cases hx)
   have hx4:=HX3.out.redirs (he4.mono hdr) (d':={ s.d with t:=t }) ⟨bt,bm,nd,fm,(HD3.out.but.ext he4 rfl rfl rfl (fun _=>rfl)).full ht4⟩
   rw [HRS.out]
   exact ⟨_,_,c4,rfl,(Ext.of_below HB3.out c qDx).then he4 (fun x hx=>hdr x (qD8 x hx)),rfl,rfl,hx4.shut⟩
 ·have HRS:=Hh (show res=.error 1 by
   rcases HIS.out with ⟨_,h⟩ | ⟨rfl,h⟩
   ·exact h
   ·rw [h]
    rcases HK.out with ⟨h1,_⟩ | ⟨m,h1,rfl,_⟩
    ·rw [h1]
    ·exact absurd ⟨rfl,rfl⟩ hall)
  clear HK HIS
  cases is<;>cases ok
  case true.true=>exact absurd ⟨rfl,rfl⟩ hall
  all_goals
   clear hall
   go_upto_region 4 with fail
   go_quiet (fail)
   go_wp2
   go_ret2
   rw [HRS.out]
   exact ⟨_,_,c,rfl,Ext.of_below (Below.drewN HB3.out _) c qDx,by rw [qAc p (by decide)];rfl,by decide⟩
end
theorem qPL:∀ a b:List UInt8,(Lib.compareBytes a b<0↔a<b)∧(Lib.compareBytes a b=0↔a=b)
 | [],[]=>by simp [Lib.compareBytes]
 | [],y::t=>by simp [Lib.compareBytes]
 | x::r,[]=>by simp [Lib.compareBytes]
 | x::r,y::t=>by
  have ih:=qPL r t
  unfold Lib.compareBytes
  by_cases h1:x<y
  ·rw [zM1 h1]
   refine ⟨⟨fun _=>List.cons_lt_cons_iff.2 (.inl h1),fun _=>by decide⟩,⟨fun h=>absurd h (by decide),fun h=>?_⟩⟩
   injection h with h2 _
   subst h2
   exact absurd h1 (UInt8.lt_irrefl _)
  ·rw [zL1 h1]
   by_cases h2:y<x
   ·rw [zM1 h2]
    refine ⟨⟨fun h=>absurd h (by decide),fun h=>?_⟩,⟨fun h=>absurd h (by decide),fun h=>?_⟩⟩
    ·rcases List.cons_lt_cons_iff.1 h with h3 | ⟨h3,_⟩
     ·exact absurd h3 h1
     ·subst h3;exact absurd h2 (UInt8.lt_irrefl _)
    ·injection h with h3 _
     subst h3
     exact absurd h2 (UInt8.lt_irrefl _)
   ·rw [zL1 h2]
    have e:x=y:=UInt8.le_antisymm (UInt8.not_lt.1 h2) (UInt8.not_lt.1 h1)
    subst e
    refine ⟨?_,?_⟩
    ·rw [ih.1,List.cons_lt_cons_iff]
     simp [UInt8.lt_irrefl]
    ·rw [ih.2]
     simp
theorem qKt (nm s:List UInt8) (v0 v1 v2 v3:Value) (w:World) :
  Calls Tryz.prog 255 #[.agg #[.string ⟨nm.toArray⟩,v0,v1,v2,v3],.string ⟨s.toArray⟩] w fun e w'=>e=.returned (.int .i64 (Lib.compareBytes nm s))∧Below w.heap.size w w':=by
 have HC:=Hh (fun W=>Tryz.strings_Compare ⟨nm.toArray⟩ ⟨s.toArray⟩ W)
 simp only at HC
 go_enter Tryz.func255,Tryz.ntmps255
 go_wp2_with (go_at_call 256;refine (HC.out _).mono ?_;rintro e w1 ⟨rfl,rfl⟩)
 go_ret
 exact ⟨rfl,Below.alloc (zB _ w) (zq _) _⟩
def qNE (ks:List (List UInt8×Nd)) (s:List UInt8) (w:World) (e:Ending) (w':World):Prop :=
 ∃ (k:Nat) (b:Bool),e=.returned (.tuple #[.int .i64 k,.bool b])∧(b=true→∃ h:k<ks.length,ks[k].1=s)∧(b=false→∀ q∈ks,q.1≠s)∧Below w.heap.size w w'
theorem qHz (A:Option Addr) (c:Nat) (ks:List (List UInt8×Nd)) (hc:ks.length≤c) (hc2:ks.length≤140737488355328) (s:List UInt8) (w:World) (hk:KidsOf w A ks) (hs:(ks.map (·.1)).Pairwise (·<·)) :
  Calls Tryz.prog 254 #[.slice A ks.length c,.string ⟨s.toArray⟩,.func (.func 255) #[] #[]] w (qNE ks s w):=by
 have HK:=Hh hk
 have HS:=Hh (show ∀ i j (hi:i<ks.length) (hj:j<ks.length),i<j→ks[i].1<ks[j].1 from fun i j hi hj hij=>by
  have:=List.pairwise_iff_getElem.1 hs i j (by simpa using hi) (by simpa using hj) hij
  simpa using this)
 have HCT:=Hh (qPL)
 clear hk hs
 go_enter Tryz.func254,Tryz.ntmps254
 go_wp2
 go_loopw [9,10] (fun a b wr=>∃ lo hi:Nat,a=.int .i64 lo∧b=.int .i64 hi∧lo≤hi∧hi≤ks.length∧Hid (Below w.heap.size w wr)∧Hid ((∀ t (h:t<ks.length),t<lo→ks[t].1<s)∧(∀ t (h:t<ks.length),hi≤t→¬ ks[t].1<s))) (fun a b _=>(intOf b).toNat-(intOf a).toNat)
 case atStart=>exact ⟨0,ks.length,rfl,rfl,zx _,zq _,Hh (zB _ _),Hh ⟨fun t h ht=>absurd ht (Nat.not_lt_zero _),fun t h1 h2=>by omega⟩⟩
 case round =>
  obtain ⟨lo,hi,rfl,rfl,hlh,hin,HB,HI⟩:=hrel
  by_cases hlt:lo<hi
  ·have hmn:(lo+hi)/2<ks.length:=by omega
   have i1:(lo:Int)<(hi:Int):=by omega
   obtain ⟨b,off,rfl,hlt2,⟨h0,hl⟩,v0,v1,v2,v3,c1,c2,c3,c4,hn⟩:=(HK.out.later HB.out).at hmn
   have HX:=Hh (show ∃ h:(lo+hi)/2<ks.length,ks[(lo+hi)/2].1=ks[(lo+hi)/2].1 from ⟨hmn,rfl⟩)
   have HLO:=Hh (show ks[(lo+hi)/2].1<s→∀ t (h:t<ks.length),t<(lo+hi)/2+1→ks[t].1<s from fun hh t h ht=>by
    rcases zv t ((lo+hi)/2) with h1 | h1
    ·exact List.lt_trans (HS.out t _ h hmn h1) hh
    ·have:t=(lo+hi)/2:=by omega
     subst this
     exact hh)
   have HHI:=Hh (show ¬ ks[(lo+hi)/2].1<s→∀ t (h:t<ks.length),(lo+hi)/2≤t→¬ ks[t].1<s from fun hh t h ht hts=>by
    rcases zv ((lo+hi)/2) t with h1 | h1
    ·exact hh (List.lt_trans (HS.out _ t hmn h h1) hts)
    ·have:t=(lo+hi)/2:=by omega
     subst this
     exact hh hts)
   generalize ks[(lo+hi)/2]=kd at HLO HHI h0 hl hn
   obtain ⟨nm,x⟩:=kd
   simp only at h0 hl hn HLO HHI
   clear hn HX
   have HC1:=Hh (fun W=>qKt nm s v0 v1 v2 v3 W)
   by_cases hyx:Lib.compareBytes nm s<0
   ·go_wp2_with (go_at_call 255;refine (HC1.out _).mono ?_;rintro e w2 ⟨rfl,hb2⟩;have HB2:=Hh (HB.out.trans (hb2.mono HB.out.size));clear hb2)
    have HYX:=Hh hyx
    clear c1 c2 c3 c4 h0 hyx
    go_roundw
    case rel =>
     exact ⟨(lo+hi)/2+1,hi,by rw [show ((lo:Int)+(hi:Int))/2+1=(((lo+hi)/2+1:Nat):Int) by omega],rfl,by omega,hin,HB2,Hh ⟨HLO.out ((HCT.out nm s).1.1 HYX.out),HI.out.2⟩⟩
    case measure=>simp [intOf];omega
   ·go_wp2_with (go_at_call 255;refine (HC1.out _).mono ?_;rintro e w2 ⟨rfl,hb2⟩;have HB2:=Hh (HB.out.trans (hb2.mono HB.out.size));clear hb2)
    have HYX:=Hh hyx
    clear c1 c2 c3 c4 h0 hyx
    go_roundw
    case rel =>
     exact ⟨lo,(lo+hi)/2,rfl,by rw [show ((lo:Int)+(hi:Int))/2=(((lo+hi)/2:Nat):Int) by omega],by omega,by omega,HB2,Hh ⟨HI.out.1,HHI.out (fun hh=>by have h1:=(HCT.out nm s).1.2 hh;have h2:=HYX.out;omega)⟩⟩
    case measure=>simp [intOf];omega
  ·obtain rfl:hi=lo:=by omega
   have HNO:=Hh (show ∀ q∈ks,q.1=s→∃ h:hi<ks.length,ks[hi].1=s from fun q hq e=>by
    obtain ⟨t,ht,rfl⟩:=List.getElem_of_mem hq
    have h1:hi≤t:=by
     rcases zv t hi with h | h
     ·have:=HI.out.1 t ht h
      rw [e] at this
      exact absurd this (List.lt_irrefl _)
     ·exact h
    rcases zv hi t with h2 | h2
    ·have h3:=HS.out hi t (by omega) ht h2
     rw [e] at h3
     exact absurd h3 (HI.out.2 hi (by omega) (zq _))
    ·have:t=hi:=by omega
     subst this
     exact ⟨ht,e⟩)
   by_cases hn:hi<ks.length
   ·have i1:(hi:Int)<(ks.length:Int):=by omega
    have i2:(0:Int)≤(hi:Int):=by omega
    obtain ⟨b,off,rfl,hlt2,⟨h0,hl⟩,v0,v1,v2,v3,c1,c2,c3,c4,hnn⟩:=(HK.out.later HB.out).at hn
    have HEQ:=Hh (show ∀ nm,ks[hi].1=nm→nm=s→∃ h:hi<ks.length,ks[hi].1=s from fun nm e e2=>⟨hn,e.trans e2⟩)
    have HNE:=Hh (show ∀ nm,ks[hi].1=nm→nm≠s→∀ q∈ks,q.1≠s from fun nm e e2 q hq e3=>by
     obtain ⟨_,h⟩:=HNO.out q hq e3
     exact e2 (e▸h))
    clear hnn
    have HGE:=Hh (show ks[hi].1=ks[hi].1 from rfl)
    generalize hgk:ks[hi].1=nm at h0 hl
    have HGK:=Hh hgk
    clear HGE hgk
    have HC1:=Hh (fun W=>qKt nm s v0 v1 v2 v3 W)
    go_wp2_with (go_at_call 255;refine (HC1.out _).mono ?_;rintro e w2 ⟨rfl,hb2⟩;have HB2:=Hh (HB.out.trans (hb2.mono HB.out.size));clear hb2)
    go_ret2
    exact ⟨hi,Lib.compareBytes nm s==0,rfl,fun h=>HEQ.out nm HGK.out ((HCT.out nm s).2.1 (by simpa using h)),fun h=>HNE.out nm HGK.out (fun e=>by have h2:=(HCT.out nm s).2.2 e;rw [h2] at h;cases h),HB2.out⟩
   ·have i1:¬ (hi:Int)<(ks.length:Int):=by omega
    go_wp2
    go_ret2
    exact ⟨hi,false,rfl,(fun h=>nomatch h),fun _ q hq e=>(HNO.out q hq e).elim fun h _=>hn h,HB.out⟩
theorem qQp (k d:List UInt8) (e:Bool) (A:Option Addr) (c:Nat) (ks:List (List UInt8×Nd)) (hc:ks.length≤c) (hc2:ks.length≤140737488355328) (s:List UInt8) (w:World) (hk:KidsOf w A ks) (hs:(ks.map (·.1)).Pairwise (·<·)) :
  Calls Tryz.prog 205 #[.agg #[.string ⟨k.toArray⟩,.string ⟨d.toArray⟩,.bool e,.slice A ks.length c],.string ⟨s.toArray⟩] w (qNE ks s w):=by
 have hb1:Below w.heap.size w (w.alloc (.cells #[.string ⟨k.toArray⟩,.string ⟨d.toArray⟩,.bool e,.slice A ks.length c] 114)):=(zB _ w).alloc (zq _) _
 have HK:=Hh (qHz A c ks hc hc2 s _ (hk.later hb1) hs)
 have HB1:=Hh hb1
 clear hk hs hb1
 go_enter Tryz.func205,Tryz.ntmps205
 go_wp2_with (go_at_call 254;refine HK.out.mono ?_;rintro ev w2 ⟨n,b,rfl,h1,h2,hb2⟩;have H1:=Hh h1;have H2:=Hh h2;have HB2:=Hh (HB1.out.trans (hb2.mono HB1.out.size));clear h1 h2 hb2)
 go_ret2
 exact ⟨n,b,rfl,H1.out,H2.out,HB2.out⟩
end Go.Proofs.YtceklhjomhjipaaGreatDoor
