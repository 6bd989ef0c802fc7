/- Lemmas. -/
import Derived.Test.YtbmkaekimccdgaaGreatDoorBm28
set_option maxHeartbeats 16000000
set_option maxRecDepth 1000000
set_option linter.all false
namespace Go.Proofs.YtbmkaekimccdgaaGreatDoor
open Go.RowKit Go.Sort Stl
section
variable {w:World}{c:Nat→Col}{b:Nat}{D:List (List UInt8)}
theorem qEM (h:DiskAt w c b D)(k:Nat)(hk:k≤1000000) :
  Calls Tryz.prog 182 #[.pointer (some ⟨b,0,none⟩),.int .i64 k] w fun e w'=>e=.returned (.bool (decide (D.length≤k)))∧w'=w:=by
 obtain⟨v,hb,hc,hr⟩:=h;obtain⟨A,cap,rfl⟩:=hr.slice;have c0:=ce0 hb;have i1:¬ (k:Int)<0:=by omega
 clear hb hr hc;by_cases hx:D.length≤k
 ·rw[decide_eq_true hx];have i2:(D.length:Int)≤(k:Int):=by omega
  go_enter Tryz.func182,Tryz.ntmps182;go_wp2;go_ret;exact⟨rfl,rfl⟩
 ·rw[decide_eq_false hx];have i2:¬ (D.length:Int)≤(k:Int):=by omega
  go_enter Tryz.func182,Tryz.ntmps182;go_wp2;go_ret;exact⟨rfl,rfl⟩
theorem qNI (h:DiskAt w c b D)(k bit:Nat)(hk:k≤1000000)(hb:bit≤1000000)(hx:D.length≤k∨128≤bit){te:TypeId}{pe:Value}(hg:w.cell? ⟨0,0,none⟩=some (.iface te pe)) :
  Calls Tryz.prog 128 #[.pointer (some ⟨b,0,none⟩),.int .i64 k,.int .i64 bit] w fun e w'=>e=.returned (.iface te pe)∧w'=w:=by
 have HB:=Hh (qEM h k hk);have i1:¬ (bit:Int)<0:=by omega
 clear h;by_cases hkl:D.length≤k
 ·rw[decide_eq_true hkl] at HB;clear hkl hx;go_enter Tryz.func128,Tryz.ntmps128;go_wp2_with (go_at_call 182;refine HB.o.mono ?_;rintro ev w2 ⟨rfl,rfl⟩);go_ret;exact⟨rfl,rfl⟩
 ·rw[decide_eq_false hkl] at HB;have i2:(128:Int)≤(bit:Int):=by omega
  clear hkl hx;go_enter Tryz.func128,Tryz.ntmps128;go_wp2_with (go_at_call 182;refine HB.o.mono ?_;rintro ev w2 ⟨rfl,rfl⟩);go_ret;exact⟨rfl,rfl⟩
theorem qNT {w2:World}{g k cap:Nat}(hb0:w.heap[b]?=some (.cells #[.slice (some ⟨g,0,none⟩) D.length cap,.slice none 0 0] 78 (0,0)))(hc:c b=.disk)(hr:RowAt w c .diskL 9 1 (.slice (some ⟨g,0,none⟩) D.length cap) D.length (D.map encStr))(hb:Below w.heap.size w w2)(x:List UInt8) :
  Ext w (w2.setCell ⟨g,k,none⟩ (.string ⟨x.toArray⟩)) c c gP∧DiskAt (w2.setCell ⟨g,k,none⟩ (.string ⟨x.toArray⟩)) c b (D.set k x):=by
 have e0:Ext w w2 c c gP:=Ext.of_below hb c gP;have hr2:=hr.ext (Ext.of_below hb c S0) rfl;have hb2:=(Ext.of_below hb c S0).kept hb0 hc rfl;obtain⟨h3,e3⟩:=hr2.stored k (.string ⟨x.toArray⟩);refine⟨e0.then e3 (jP rfl),_,(e3.kept hb2.1 hb2.2 rfl).1,hc,?_⟩;rw[List.length_set,List.map_set];exact h3
theorem qNZ (h:DiskAt w c b D)(k bit:Nat)(hk:k<D.length)(hD:D.length≤1000000)(hb:bit<128)(hl:D[k].length=16) :
  Calls Tryz.prog 128 #[.pointer (some ⟨b,0,none⟩),.int .i64 k,.int .i64 bit] w fun e w'=>e=.returned .nilIface∧Ext w w' c c gP∧DiskAt w' c b (D.set k (turnBit D[k] bit)):=by
 have HB:=Hh (qEM h k (by omega));rw[decide_eq_false (by omega)] at HB;have HT:=Hh (qH1 D[k] bit hl hb);obtain⟨v,hb0,hc,hr⟩:=h;obtain⟨g,cap,rfl,hgc,hgl,_,_⟩:=hr.pos (by omega);have c0:=ce0 hb0;have q0:w.cell? ⟨g,k,none⟩=some (.string ⟨D[k].toArray⟩):=by
  rw[hr.cellAt k (by omega)];simp[hk]
 have i1:¬ (bit:Int)<0:=by omega
 have i2:(bit:Int)<128:=by omega
 have i3:¬ (128:Int)≤(bit:Int):=by omega
 have j1:(k:Int)<(D.length:Int):=by omega
 have j2:(0:Int)≤(k:Int):=by omega
 have hbl:=qA hb0;have hbg:b≠g:=qCS hc hgc (by decide);have HB0:=Hh hb0;have HC:=Hh hc;have HR:=Hh hr;have f0:=hr.frozenAt k;clear hb0 hc hr;go_enter Tryz.func128,Tryz.ntmps128;go_upto_region 3 with (go_at_call 182;refine HB.o.mono ?_;rintro ev w2 ⟨rfl,hw2⟩;have hw3:w=w2:=hw2.symm;clear hw2;subst hw3)
 go_cut [6] (fun s wx=>s=.nilIface∧Hg (Ext w wx c c gP∧DiskAt wx c b (D.set k (turnBit D[k] bit))))
 case first =>
  go_region_law
   (first
    | (go_simp;go_at_call 183;refine(HT.o _).mono ?_;rintro ev w2 ⟨rfl,hb2⟩;have hb3:Below w.heap.size w w2:=(zB _ w).drew.trans (hb2.mono (zo _));have c0':w2.cell? ⟨b,0,none⟩=some (.slice (some ⟨g,0,none⟩) D.length cap):=(hb3.cell (p:=⟨b,0,none⟩) hbl).trans c0;have f0':w2.frozen? ⟨g,k,none⟩=false:=(hb3.frozen (p:=⟨g,k,none⟩) hgl).trans f0;have q0':w2.cell? ⟨g,k,none⟩=some (.string ⟨D[k].toArray⟩):=(hb3.cell (p:=⟨g,k,none⟩) hgl).trans q0;have HB3:=Hh hb3;clear hb2 hb3)
    | fail)
  all_goals
   have HF:=Hh (qNT (k:=k) HB0.o HC.o HR.o HB3.o (turnBit D[k] bit));clear c0 q0 f0 c0' q0' f0';go_wp2;go_meet
   case rel=>exact⟨rfl,HF⟩
 case rest =>
  obtain⟨rfl,HX⟩:=hcut;obtain⟨v2,hb2,_,_⟩:=HX.o.2;have c1:=ce1 hb2;clear c0 q0 f0 hb2;go_wp2_with fail
  go_loopw [41] (fun a wr=>wr=wc∧a=.int .i64 0) (fun _ _=>0)
  case atStart=>exact⟨rfl,rfl⟩
  case round =>
   obtain⟨rfl,rfl⟩:=hrel;go_wp2;go_ret;exact⟨rfl,HX.o.1,HX.o.2⟩
end
end Go.Proofs.YtbmkaekimccdgaaGreatDoor
namespace Go.Proofs.YtbmkaekimccdgaaGreatDoor
open Go.RowKit Go.Sort Go.Shelf Stl
def qHJ (p:Nat→Addr)(c:Nat→Col)(b:Nat)(w:World)(r:Except Nat Tab)(ev:Ending)(w':World):Prop :=
 match r with
 | .error cd=>ev=.returned (jK p cd)∧Below w.heap.size w w'
 | .ok T=>ev=.returned .nilIface∧∃ c2,Ext w w' c c2 gP∧TabAt w' c2 b T
section
variable {w:World}{c:Nat→Col}{b:Nat}{T:Tab}{p:Nat→Addr}
theorem qKf (h:TabAt w c b T)(n:Nat)(hn:n≤1000000)(hx:T.at_ n=none) :
  Calls Tryz.prog 184 #[.pointer (some ⟨b,0,none⟩),.int .i64 n] w fun e w'=>e=.returned (.tuple #[.agg #[.int .i64 0,.int .i64 0,.bool false,.slice none 0 0,.int .u32 0],.bool false])∧Below w.heap.size w w':=by
 obtain⟨bd,bs,bm,st,h⟩:=h;have hb1:Below w.heap.size w (w.alloc (.cells #[.int .i64 0,.int .i64 0,.bool false,.slice none 0 0,.int .u32 0] 254)):=(zB _ w).alloc (zo _) _;have hlk:=(h.below hb1).lookNo hn hx;have c2:=ce2 (h.below hb1).own;clear h hx;go_enter Tryz.func184,Tryz.ntmps184;go_wp2_with fail;go_returns;exact⟨rfl,hb1⟩
theorem qMS (h:TabAt w c b T)(ht:yX T)(hD:T.disk.length≤1000000)(n:Nat)(hn:n≤1000000)(data:List UInt8)(hda:data.length≤1000000)(hE:Errs w p) :
  Calls Tryz.prog 129 #[.pointer (some ⟨b,0,none⟩),.int .i64 n,.string ⟨data.toArray⟩] w (qHJ p c b w (T.mend n data)):=by
 obtain⟨res,hres⟩:∃ res,res=T.mend n data:=⟨_,rfl⟩;rw[← hres];have HT:=Hh h;have HOK:=Hh ht;have HE:=Hh hE
 cases hx:T.at_ n with
 | none =>
  have HR:=Hh (show res=.error 6 by rw[hres];unfold Tab.mend;rw[hx]);have HS:=Hh (qKf h n hn hx);clear hx h ht hE hres;go_enter Tryz.func129,Tryz.ntmps129;go_upto_region 5 with (go_at_call 184;refine HS.o.mono ?_;rintro ev w4 ⟨rfl,hb4⟩;have HB4:=Hh hb4;clear hb4);have HB5:=Hh (HB4.o.alloc HB4.o.size (.cells #[.int .i64 0,.int .i64 0,.bool false,.slice none 0 0,.int .u32 0] 254));generalize w4.alloc (.cells #[.int .i64 0,.int .i64 0,.bool false,.slice none 0 0,.int .u32 0] 254)=w5 at *;have hg:=(HE.o.later HB5.o).cell 6 (by omega) (by omega);rw[qD p (by omega)] at hg;have hg6:w5.cell? ⟨5,0,none⟩=some (.iface 376 (.pointer (some (p 6)))):=hg;clear hg;go_wp2_with fail;go_ret;rw[HR.o];exact⟨by rw[qD p (by decide)];rfl,HB5.o⟩
 | some x =>
  have HS:=Hh (wE h ht n hn hx);simp only[uI,jN] at HS;have HXM:=Hh hx;have HRES:=Hh hres;clear h ht hE hres hx;go_enter Tryz.func129,Tryz.ntmps129;go_upto_region 4 with (go_at_call 184;refine HS.o.mono ?_;rintro ev w4 ⟨A1,cap1,rfl,hr4,hb4⟩;have HB4:=Hh hb4;clear hb4 hr4);have hb5:Below w4.heap.size w4 (w4.alloc (.cells #[.int .i64 x.bytes,.int .i64 x.links,.bool x.exec,.slice A1 x.blocks.length cap1,.int .u32 x.sum.toNat] 254)):=(zB _ w4).alloc (zo _) _;have HB5:=Hh (HB4.o.trans (hb5.mono HB4.o.size));have HX5:=Hh (zK1 w4 (.cells #[.int .i64 x.bytes,.int .i64 x.links,.bool x.exec,.slice A1 x.blocks.length cap1,.int .u32 x.sum.toNat] 254));clear hb5;generalize w4.alloc (.cells #[.int .i64 x.bytes,.int .i64 x.links,.bool x.exec,.slice A1 x.blocks.length cap1,.int .u32 x.sum.toNat] 254)=w5 at *;have x0:=ce0 HX5.o;have x4:=ce4 HX5.o;have HSUM:=Hh (qGT data hda);by_cases hq:data.length=x.bytes∧crc data=x.sum
  ·obtain⟨hq1,hq2⟩:=hq;rw[hq2] at HSUM;have i1:(data.length:Int)=(x.bytes:Int):=by omega
   have HQ:=Hh (And.intro hq1 hq2);clear hq1 hq2;go_upto_region 6 with fail
   go_region_held3 (fun w'=>w'.cell? ⟨w4.heap.size,0,none⟩=some (.int .i64 x.bytes)∧w'.cell? ⟨w4.heap.size,4,none⟩=some (.int .u32 x.sum.toNat))
    (first
     | exact⟨x0,x4⟩
     | assumption
     | go_keep)
    (first
     | (go_at_call 185;refine(HSUM.o _).mono ?_;rintro ev wz ⟨rfl,rfl⟩)
     | fail)
   have hbd:Below w5.heap.size w5 w5.drew:=⟨rfl,rfl,rfl,zo _,fun _ _=>rfl⟩;have HBD:=Hh (HB5.o.trans (hbd.mono HB5.o.size));have HRD:=Hh (xM (HT.o.below HBD.o) HOK.o hD n hn (HE.o.later HBD.o));clear hbd x0 x4;generalize w5.drew=w6 at *
   cases hrd:T.read n with
   | ok s =>
    rw[hrd,show mL p (.ok s)=#[.string ⟨s.toArray⟩,.nilIface] from rfl] at HRD;have HR:=Hh (show res=.error 7 by
     rw[HRES.o]
     unfold Tab.mend
     rw[HXM.o]
     simp only
     rw[zL1 (by simp[HQ.o.1,HQ.o.2]),hrd])
    clear hrd;go_upto_region 10 with (go_at_call 186;refine HRD.o.mono ?_;rintro ev w7 ⟨rfl,hb7⟩;have HB7:=Hh (HBD.o.trans (hb7.mono HBD.o.size));clear hb7);have hg:=(HE.o.later HB7.o).cell 7 (by omega) (by omega);rw[qD p (by omega)] at hg;have hg7:w7.cell? ⟨6,0,none⟩=some (.iface 376 (.pointer (some (p 7)))):=hg;clear hg;go_wp2_with fail;go_ret;rw[HR.o];exact⟨by rw[qD p (by decide)];rfl,HB7.o⟩
   | error cd =>
    rw[hrd,show mL p (.error cd)=#[.string ⟨#[]⟩,jK p cd] from rfl,qD p (gQ hrd)] at HRD;have HR:=Hh (show res=.ok { T with disk:=kG T.disk x.blocks data } by
     rw[HRES.o]
     unfold Tab.mend
     rw[HXM.o]
     simp only
     rw[zL1 (by simp[HQ.o.1,HQ.o.2]),hrd])
    clear hrd;go_upto_region 11 with (go_at_call 186;refine HRD.o.mono ?_;rintro ev w7 ⟨rfl,hb7⟩;have HB7:=Hh (HBD.o.trans (hb7.mono HBD.o.size));clear hb7);have HWR:=Hh (qE7 (HT.o.below HB7.o) HOK.o hD n hn HXM.o data hda);go_wp2_with (go_at_call 187;refine HWR.o.mono ?_;rintro ev w8 ⟨rfl,c2,he8,ht8⟩;have HE8:=Hh ((Ext.of_below HB7.o c gP).trans he8);have HT8:=Hh ht8;clear he8 ht8);go_ret;rw[HR.o];exact⟨rfl,c2,HE8.o,HT8.o⟩
  ·have HR:=Hh (show res=.error 11 by
    rw[HRES.o]
    unfold Tab.mend
    rw[HXM.o]
    simp only
    rw[zM1 (by
     by_cases h1:data.length=x.bytes
     ·exact .inr (fun h2=>hq ⟨h1,h2⟩)
     ·exact .inl h1)])
   by_cases h1:data.length=x.bytes
   ·have i1:(data.length:Int)=(x.bytes:Int):=by omega
    have hcs:¬ crc data=x.sum:=fun h2=>hq ⟨h1,h2⟩
    have i2:¬ (((crc data).toNat:Nat):Int)=((x.sum.toNat:Nat):Int):=fun e=>hcs (UInt32.toNat_inj.1 (by omega))
    clear hcs hq h1;generalize (crc data).toNat=cn at HSUM i2;go_upto_region 6 with fail
    go_region_held3 (fun w'=>w'.cell? ⟨w4.heap.size,0,none⟩=some (.int .i64 x.bytes)∧w'.cell? ⟨w4.heap.size,4,none⟩=some (.int .u32 x.sum.toNat))
     (first
      | exact⟨x0,x4⟩
      | assumption
      | go_keep)
     (first
      | (go_at_call 185;refine(HSUM.o _).mono ?_;rintro ev wz ⟨rfl,rfl⟩)
      | fail)
    have hbd:Below w5.heap.size w5 w5.drew:=⟨rfl,rfl,rfl,zo _,fun _ _=>rfl⟩;have HBD:=Hh (HB5.o.trans (hbd.mono HB5.o.size));clear hbd x0 x4;generalize w5.drew=w6 at *;have hg:=(HE.o.later HBD.o).cell 11 (by omega) (by omega);rw[qD p (by omega)] at hg;have hg11:w6.cell? ⟨10,0,none⟩=some (.iface 376 (.pointer (some (p 11)))):=hg;clear hg;go_wp2_with fail;go_ret;rw[HR.o];exact⟨by rw[qD p (by decide)];rfl,HBD.o⟩
   ·have i1:¬ (data.length:Int)=(x.bytes:Int):=by omega
    clear hq h1;go_upto_region 6 with fail;have i3:decide ((data.length:Int)=(x.bytes:Int))=false:=decide_eq_false i1;have i4:((data.length:Int) != (x.bytes:Int))=true:=bne_iff_ne.2 i1;go_quiet (fail);have hbd:Below w5.heap.size w5 (w5.drewN nq):=⟨rfl,rfl,rfl,zo _,fun _ _=>rfl⟩;have HBD:=Hh (HB5.o.trans (hbd.mono HB5.o.size));clear hbd x0 x4;generalize w5.drewN nq=w6 at *;have hg:=(HE.o.later HBD.o).cell 11 (by omega) (by omega);rw[qD p (by omega)] at hg;have hg11:w6.cell? ⟨10,0,none⟩=some (.iface 376 (.pointer (some (p 11)))):=hg;clear hg;go_wp2_with fail;go_ret;rw[HR.o];exact⟨by rw[qD p (by decide)];rfl,HBD.o⟩
end
theorem qFk:∀ (s:List UInt8) (n:Nat),s.all isDigit=true→s.foldl (fun n c=>10*n+(c.toNat-48)) n+1≤(n+1)*10 ^ s.length
 | [],n,_=>by simp
 | c::r,n,h=>by
  simp only[List.all_cons,zC] at h;have hc:c.toNat≤57:=by
   have:=h.1;simp only[isDigit,zC,decide_eq_true_eq] at this;have h2:c≤57:=this.2;exact UInt8.le_iff_toNat_le.1 h2
  have ih:=qFk r (10*n+(c.toNat-48)) h.2;simp only[List.foldl_cons,zQ];refine zq ih ?_;rw[Nat.pow_succ,Nat.mul_comm (10 ^ r.length) 10,← Nat.mul_assoc];exact Nat.mul_le_mul_right _ (by omega)
theorem qAk {s:List UInt8}{n:Nat}(h:qI s 6=some n):n≤1000000:=by
 unfold qI at h;split at h
 ·cases h
 ·rename_i hc
  injection h with h
  have hd:s.all isDigit=true:=by
   cases hq:s.all isDigit with
   | true=>rfl
   | false=>exact absurd (.inr (.inr (.inr hq))) hc
  have hl:s.length≤6:=by
   rcases zu 6 s.length with h6 | h6
   ·exact absurd (.inr (.inl h6)) hc
   ·exact h6
  have:=qFk s 0 hd;unfold wD at h;rw[h] at this;have h2:(10:Nat) ^ s.length≤10 ^ 6:=Nat.pow_le_pow_right (by omega) hl;omega
theorem nC (ch:UInt8):∀ {s a b:List UInt8},cutAt ch s=some (a,b)→a.length≤s.length∧b.length≤s.length
 | [],a,b,h=>by cases h
 | x::r,a,b,h=>by
  unfold cutAt at h;split at h
  ·cases h;simp
  ·cases hc:cutAt ch r with
   | none=>rw[hc] at h;cases h
   | some q =>
    obtain⟨a',b'⟩:=q;rw[hc] at h;simp only[zA1,zB1,Prod.mk.injEq] at h;obtain⟨rfl,rfl⟩:=h;have:=nC ch hc;simp only[zQ];omega
section
variable {w:World}{A:Option Addr}{zs:List PkX}{c:Nat→Col}{b:Nat}{s:Sto}{bd:Nat}{cap:Nat}{R:Option Addr}{rc tp:Nat}{p:Nat→Addr}
theorem qJV (h:StoX w c b s bd A cap zs R rc tp)(hg:vB s)(hE:Env w c p) :
  Calls Tryz.prog 71 #[.pointer (some ⟨b,0,none⟩)] w (ChPost p w c b tp (.ok (dec s.d.mergeAll.1,{ s with d:=s.d.mergeAll.2 }))):=by
 have H:=Hh h;have hwt:=qFz hg.good;have hml:s.d.mergeAll.1≤s.d.weight:=(qEx s.d.weight s.d hg.ok.dirs (zo _)).2.2.2.2.2;have HA:=Hh (qMi h.dirs hg.good hE);have HE:=Hh hE;have c0:=ce0 h.own;generalize s.d.mergeAll=r at *;obtain⟨n,d'⟩:=r;simp only at hml;clear h hg hE;go_enter Tryz.func71,Tryz.ntmps71;go_upto_region 2 with (go_at_call 117;refine HA.o.mono ?_;rintro ev w2 ⟨rfl,c2,he2,hd2⟩;have HE2:=Hh he2;have HD2:=Hh hd2;clear he2 hd2);have HIT:=Hh (xZ n (by omega) w2 (HE.o.ext HE2.o rfl).vars);go_wp2_with (go_at_call 64;refine HIT.o.mono ?_;rintro ev w3 ⟨rfl,hb3⟩);go_ret2;have e2:Ext w w2 c c2 mN:=HE2.o.mono qJQ;refine⟨_,_,c2,rfl,(e2.mono nN).then (Ext.of_below hb3 c2 mU) (fun _ h=>h),rfl,rfl,((H.o.redirs e2 HD2.o).below hb3).shut⟩
def oF (s:Sto)(rest:List UInt8):Except Nat (List UInt8×Sto) :=
 match cutAt 32 rest with
 | none=>.error 1
 | some (a,b)=>match qI a 6,qI b 6 with
  | some k,some bit=>(s.d.t.rot k bit).map fun t=>(bOk,{ s with d:={ s.d with t:=t } })
  | _,_=>.error 1
def uS (s:Sto)(rest:List UInt8):Except Nat (List UInt8×Sto) :=
 match cutAt 32 rest with
 | none=>.error 1
 | some (a,data)=>match qI a 6 with
  | some n=>(s.d.t.mend n data).map fun t=>(bOk,{ s with d:={ s.d with t:=t } })
  | none=>.error 1
theorem qNx (h:StoX w c b s bd A cap zs R rc tp)(hg:vB s)(hE:Env w c p)(rest:List UInt8)(hr:rest.length≤4000000) :
  Calls Tryz.prog 76 #[.pointer (some ⟨b,0,none⟩),.string ⟨rest.toArray⟩] w (ChPost p w c b tp (oF s rest)):=by
 have H:=Hh h;have HG:=Hh hg;have HE:=Hh hE;obtain⟨x,y,is,hcut,hx,hy,his⟩:∃ (x y:List UInt8) (is:Bool),Calls Tryz.prog 72 #[.string ⟨rest.toArray⟩,.string ⟨#[32]⟩] w (fun e w'=>e=.returned (.tuple #[.string ⟨x.toArray⟩,.string ⟨y.toArray⟩,.bool is])∧Below w.heap.size w w')∧x.length≤4000000∧y.length≤4000000∧((is=false∧oF s rest=.error 1)∨(is=true∧oF s rest=match qI x 6,qI y 6 with | some k,some bit=>(s.d.t.rot k bit).map fun t=>(bOk,{ s with d:={ s.d with t:=t } }) | _,_=>.error 1)):=by
  cases hc:cutAt 32 rest with
  | none=>exact⟨rest,[],false,pS 32 hc hr w hE.max,hr,by simp,.inl ⟨rfl,by unfold oF;rw[hc]⟩⟩
  | some q =>
   obtain⟨x,y⟩:=q;have:=nC 32 hc;exact⟨x,y,true,gU 32 hc hr w hE.max,by omega,by omega,.inr ⟨rfl,by unfold oF;rw[hc]⟩⟩
 have HCUT:=Hh hcut;generalize oF s rest=res at his ⊢;have HIS:=Hh his;clear hcut his h hg hE hr;go_enter Tryz.func76,Tryz.ntmps76;go_upto_region 2 with (go_at_call 72;refine HCUT.o.mono ?_;rintro ev w1 ⟨rfl,hb1⟩;have HB1:=Hh hb1;clear hb1);have HN1:=Hh (kH x hx w1 (HE.o.vars.later HB1.o));go_upto_region 3 with (go_at_call 55;refine HN1.o.mono ?_;rintro ev w2 ⟨hb2,k,ok,rfl,hk⟩;have HB2:=Hh (HB1.o.trans (hb2.mono HB1.o.size));have HK:=Hh hk;clear hb2 hk);have HN2:=Hh (kH y hy w2 (HE.o.vars.later HB2.o));clear HN1;go_upto_region 4 with (go_at_call 55;refine HN2.o.mono ?_;rintro ev w3 ⟨hb3,bit,well,rfl,hbit⟩;have HB3:=Hh (HB2.o.trans (hb3.mono HB2.o.size));have HBIT:=Hh hbit;clear hb3 hbit);clear HN2;have HE3:=Hh (HE.o.errs.later HB3.o);have hg:w3.cell? ⟨1,0,none⟩=some (.iface 376 (.pointer (some (p 1)))):=(HE3.o.cell 1 (by decide) (by decide)).trans (by rw[qD p (by decide)]);by_cases hall:is=true∧ok=true∧well=true
 ·obtain⟨rfl,rfl,rfl⟩:=hall;obtain⟨kn,hkn,rfl⟩:∃ kn:Nat,qI x 6=some kn∧k=(kn:Int):=by
   rcases HK.o with ⟨_,h⟩ | ⟨m,h1,_,h2⟩
   ·cases h
   ·exact⟨m,h1,h2⟩
  obtain⟨bn,hbn,rfl⟩:∃ bn:Nat,qI y 6=some bn∧bit=(bn:Int):=by
   rcases HBIT.o with ⟨_,h⟩ | ⟨m,h1,_,h2⟩
   ·cases h
   ·exact⟨m,h1,h2⟩
  have hrs:res=(s.d.t.rot kn bn).map fun t=>(bOk,{ s with d:={ s.d with t:=t } }):=by
   rcases HIS.o with ⟨h,_⟩ | ⟨_,h⟩
   ·cases h
   ·rw[h,hkn,hbn]
  have hkl:=qAk hkn;have hbl:=qAk hbn;have HX3:=Hh (H.o.below HB3.o);have c0:=ce0 HX3.o.own;obtain⟨bt,bm,nd,fm,hd3⟩:=HX3.o.dirs;obtain⟨bdk,bs,btm,st,ht3⟩:=hd3.tab;have HD3:=Hh hd3;have HT3:=Hh ht3;have HTA:=Hh (wS hd3);have HDI:=Hh (qJx ht3);have hok:=HG.o.ok.dirs.tab;clear hkn hbn hd3 ht3 HK HBIT HIS;by_cases hbad:s.d.t.disk.length≤kn∨128≤bn
  ·have HRS:=Hh (show res=.error 2 by rw[hrs];unfold Tab.rot;rw[zM1 hbad];rfl);have hg2:w3.cell? ⟨0,0,none⟩=some (.iface 376 (.pointer (some (p 2)))):=(HE3.o.cell 2 (by decide) (by decide)).trans (by rw[qD p (by decide)]);have HRT:=Hh (qNI HT3.o.disk kn bn hkl hbl hbad hg2);clear hbad hrs hg hg2;go_wp2_with (first
    | (go_at_call 126;refine HTA.o.mono ?_;rintro ev wz ⟨rfl,rfl⟩)
    | (go_at_call 127;refine HDI.o.mono ?_;rintro ev wz ⟨rfl,rfl⟩)
    | (go_at_call 128;refine HRT.o.mono ?_;rintro ev wz ⟨rfl,rfl⟩))
   go_ret2;rw[HRS.o];exact⟨_,_,c,rfl,Ext.of_below HB3.o c mU,by rw[qD p (by decide)];rfl,by decide⟩
  ·have hkd:kn<s.d.t.disk.length:=by omega
   have hb16:(s.d.t.disk[kn]).length=16:=hok.whole _ (zO hkd);have HRS:=Hh (show res=.ok (bOk,{ s with d:={ s.d with t:={ s.d.t with disk:=s.d.t.disk.set kn (turnBit s.d.t.disk[kn] bn) } } }) by
    rw[hrs];unfold Tab.rot;rw[zL1 hbad]
    have:s.d.t.disk.getD kn []=s.d.t.disk[kn]:=by simp[List.getD,hkd]
    rw[this]
    rfl)
   have HRT:=Hh (qNZ HT3.o.disk kn bn hkd HG.o.good.disk (by omega) hb16);clear hbad hrs hg;go_wp2_with (first
    | (go_at_call 126;refine HTA.o.mono ?_;rintro ev wz ⟨rfl,rfl⟩)
    | (go_at_call 127;refine HDI.o.mono ?_;rintro ev wz ⟨rfl,rfl⟩)
    | (go_at_call 128;refine HRT.o.mono ?_;rintro ev w4 ⟨rfl,he4,hd4⟩))
   go_ret2;have hdr:∀ x,mN x=false→gP x=false:=fun x hx=>by cases x<;>first | rfl | (cases hx)
   have ht4:=HT3.o.redisk he4 (by simp) hd4;have hx4:=HX3.o.redirs (he4.mono hdr) (d':={ s.d with t:={ s.d.t with disk:=s.d.t.disk.set kn (turnBit s.d.t.disk[kn] bn) } }) ⟨bt,bm,nd,fm,(HD3.o.but.ext he4 rfl rfl rfl (fun _=>rfl)).full ⟨_,_,_,_,ht4⟩⟩;rw[HRS.o];exact⟨_,_,c,rfl,(Ext.of_below HB3.o c mU).then he4 (fun x hx=>hdr x (nN x hx)),rfl,rfl,hx4.shut⟩
 ·have HRS:=Hh (show res=.error 1 by
   rcases HIS.o with ⟨_,h⟩ | ⟨rfl,h⟩
   ·exact h
   ·rw[h]
    rcases HK.o with ⟨h1,_⟩ | ⟨m,h1,rfl,_⟩
    ·rw[h1]
    ·rcases HBIT.o with ⟨h2,_⟩ | ⟨m2,h2,rfl,_⟩
     ·rw[h1,h2]
     ·exact absurd ⟨rfl,rfl,rfl⟩ hall)
  clear HK HBIT HIS
  cases is<;>cases ok<;>cases well
  case true.true.true=>exact absurd ⟨rfl,rfl,rfl⟩ hall
  all_goals
   clear hall;go_upto_region 5 with fail;go_quiet (fail);go_wp2;go_ret2;rw[HRS.o];exact⟨_,_,c,rfl,Ext.of_below (Below.drewN HB3.o _) c mU,by rw[qD p (by decide)];rfl,by decide⟩
theorem qMU (h:StoX w c b s bd A cap zs R rc tp)(hg:vB s)(hE:Env w c p)(rest:List UInt8)(hr:rest.length≤1000000) :
  Calls Tryz.prog 77 #[.pointer (some ⟨b,0,none⟩),.string ⟨rest.toArray⟩] w (ChPost p w c b tp (uS s rest)):=by
 have H:=Hh h;have HG:=Hh hg;have HE:=Hh hE;obtain⟨x,y,is,hcut,hx,hy,his⟩:∃ (x y:List UInt8) (is:Bool),Calls Tryz.prog 72 #[.string ⟨rest.toArray⟩,.string ⟨#[32]⟩] w (fun e w'=>e=.returned (.tuple #[.string ⟨x.toArray⟩,.string ⟨y.toArray⟩,.bool is])∧Below w.heap.size w w')∧x.length≤1000000∧y.length≤1000000∧((is=false∧uS s rest=.error 1)∨(is=true∧uS s rest=match qI x 6 with | some n=>(s.d.t.mend n y).map fun t=>(bOk,{ s with d:={ s.d with t:=t } }) | none=>.error 1)):=by
  cases hc:cutAt 32 rest with
  | none=>exact⟨rest,[],false,pS 32 hc (by omega) w hE.max,hr,by simp,.inl ⟨rfl,by unfold uS;rw[hc]⟩⟩
  | some q =>
   obtain⟨x,y⟩:=q;have:=nC 32 hc;exact⟨x,y,true,gU 32 hc (by omega) w hE.max,by omega,by omega,.inr ⟨rfl,by unfold uS;rw[hc]⟩⟩
 have HCUT:=Hh hcut;generalize uS s rest=res at his ⊢;have HIS:=Hh his;clear hcut his h hg hE hr;go_enter Tryz.func77,Tryz.ntmps77;go_upto_region 2 with (go_at_call 72;refine HCUT.o.mono ?_;rintro ev w1 ⟨rfl,hb1⟩;have HB1:=Hh hb1;clear hb1);have HN1:=Hh (kH x (by omega) w1 (HE.o.vars.later HB1.o));go_upto_region 3 with (go_at_call 55;refine HN1.o.mono ?_;rintro ev w3 ⟨hb2,k,ok,rfl,hk⟩;have HB3:=Hh (HB1.o.trans (hb2.mono HB1.o.size));have HK:=Hh hk;clear hb2 hk);clear HN1;have HE3:=Hh (HE.o.errs.later HB3.o);have hg:w3.cell? ⟨1,0,none⟩=some (.iface 376 (.pointer (some (p 1)))):=(HE3.o.cell 1 (by decide) (by decide)).trans (by rw[qD p (by decide)]);by_cases hall:is=true∧ok=true
 ·obtain⟨rfl,rfl⟩:=hall;obtain⟨kn,hkn,rfl⟩:∃ kn:Nat,qI x 6=some kn∧k=(kn:Int):=by
   rcases HK.o with ⟨_,h⟩ | ⟨m,h1,_,h2⟩
   ·cases h
   ·exact⟨m,h1,h2⟩
  have hrs:res=(s.d.t.mend kn y).map fun t=>(bOk,{ s with d:={ s.d with t:=t } }):=by
   rcases HIS.o with ⟨h,_⟩ | ⟨_,h⟩
   ·cases h
   ·rw[h,hkn]
  have hkl:=qAk hkn;have HX3:=Hh (H.o.below HB3.o);have c0:=ce0 HX3.o.own;obtain⟨bt,bm,nd,fm,hd3⟩:=HX3.o.dirs;have HD3:=Hh hd3;have HTA:=Hh (wS hd3);have HMD:=Hh (qMS hd3.tab HG.o.ok.dirs.tab HG.o.good.disk kn hkl y hy HE3.o);clear hkn hd3 HK HIS hg;unfold qHJ at HMD
  cases hm:s.d.t.mend kn y with
  | error cd =>
   rw[hm] at HMD hrs;have hcd:cd≠0:=by
    unfold Tab.mend at hm;split at hm
    ·cases hm;decide
    ·split at hm
     ·cases hm;decide
     ·split at hm
      ·cases hm;decide
      ·cases hm
   simp only at HMD;rw[qD p hcd] at HMD;have HRS:=Hh (show res=.error cd from hrs);have HEO:=Hh (qD p hcd);have HCD:=Hh hcd;clear hm hrs hcd;go_wp2_with (first
    | (go_at_call 126;refine HTA.o.mono ?_;rintro ev wz ⟨rfl,rfl⟩)
    | (go_at_call 129;refine HMD.o.mono ?_;rintro ev w4 ⟨rfl,hb4⟩;have HB4:=Hh (HB3.o.trans (hb4.mono HB3.o.size));clear hb4))
   go_ret2;rw[HRS.o];exact⟨_,_,c,rfl,Ext.of_below HB4.o c mU,by rw[HEO.o];rfl,HCD.o⟩
  | ok t =>
   rw[hm] at HMD hrs;simp only at HMD;have HRS:=Hh (show res=.ok (bOk,{ s with d:={ s.d with t:=t } }) from hrs);clear hm hrs;go_wp2_with (first
    | (go_at_call 126;refine HTA.o.mono ?_;rintro ev wz ⟨rfl,rfl⟩)
    | (go_at_call 129;refine HMD.o.mono ?_;rintro ev w4 ⟨rfl,c4,he4,ht4⟩))
   go_ret2;have hdr:∀ x,mN x=false→gP x=false:=fun x hx=>by cases x<;>first | rfl | (cases hx)
   have hx4:=HX3.o.redirs (he4.mono hdr) (d':={ s.d with t:=t }) ⟨bt,bm,nd,fm,(HD3.o.but.ext he4 rfl rfl rfl (fun _=>rfl)).full ht4⟩;rw[HRS.o];exact⟨_,_,c4,rfl,(Ext.of_below HB3.o c mU).then he4 (fun x hx=>hdr x (nN x hx)),rfl,rfl,hx4.shut⟩
 ·have HRS:=Hh (show res=.error 1 by
   rcases HIS.o with ⟨_,h⟩ | ⟨rfl,h⟩
   ·exact h
   ·rw[h]
    rcases HK.o with ⟨h1,_⟩ | ⟨m,h1,rfl,_⟩
    ·rw[h1]
    ·exact absurd ⟨rfl,rfl⟩ hall)
  clear HK HIS
  cases is<;>cases ok
  case true.true=>exact absurd ⟨rfl,rfl⟩ hall
  all_goals
   clear hall;go_upto_region 4 with fail;go_quiet (fail);go_wp2;go_ret2;rw[HRS.o];exact⟨_,_,c,rfl,Ext.of_below (Below.drewN HB3.o _) c mU,by rw[qD p (by decide)];rfl,by decide⟩
end
theorem uT:∀ a b:List UInt8,(Lib.compareBytes a b<0↔a<b)∧(Lib.compareBytes a b=0↔a=b)
 | [],[]=>by simp[Lib.compareBytes]
 | [],y::t=>by simp[Lib.compareBytes]
 | x::r,[]=>by simp[Lib.compareBytes]
 | x::r,y::t=>by
  have ih:=uT r t;unfold Lib.compareBytes;by_cases h1:x<y
  ·rw[zM1 h1];refine⟨⟨fun _=>List.cons_lt_cons_iff.2 (.inl h1),fun _=>by decide⟩,⟨fun h=>absurd h (by decide),fun h=>?_⟩⟩;injection h with h2 _
   subst h2;exact absurd h1 (UInt8.lt_irrefl _)
  ·rw[zL1 h1];by_cases h2:y<x
   ·rw[zM1 h2];refine⟨⟨fun h=>absurd h (by decide),fun h=>?_⟩,⟨fun h=>absurd h (by decide),fun h=>?_⟩⟩
    ·rcases List.cons_lt_cons_iff.1 h with h3 | ⟨h3,_⟩
     ·exact absurd h3 h1
     ·subst h3;exact absurd h2 (UInt8.lt_irrefl _)
    ·injection h with h3 _
     subst h3;exact absurd h2 (UInt8.lt_irrefl _)
   ·rw[zL1 h2];have e:x=y:=UInt8.le_antisymm (UInt8.not_lt.1 h2) (UInt8.not_lt.1 h1);subst e;refine⟨?_,?_⟩
    ·rw[ih.1,List.cons_lt_cons_iff];simp[UInt8.lt_irrefl]
    ·rw[ih.2];simp
theorem qHL (nm s:List UInt8)(v0 v1 v2 v3:Value)(w:World) :
  Calls Tryz.prog 217 #[.agg #[.string ⟨nm.toArray⟩,v0,v1,v2,v3],.string ⟨s.toArray⟩] w fun e w'=>e=.returned (.int .i64 (Lib.compareBytes nm s))∧Below w.heap.size w w':=by
 have HC:=Hh (fun W=>Tryz.strings_Compare ⟨nm.toArray⟩ ⟨s.toArray⟩ W);simp only at HC;go_enter Tryz.func217,Tryz.ntmps217;go_wp2_with (go_at_call 206;refine(HC.o _).mono ?_;rintro e w1 ⟨rfl,rfl⟩);go_ret;exact⟨rfl,Below.alloc (zB _ w) (zo _) _⟩
def qKT (ks:List (List UInt8×Nd))(s:List UInt8)(w:World)(e:Ending)(w':World):Prop :=
 ∃ (k:Nat) (b:Bool),e=.returned (.tuple #[.int .i64 k,.bool b])∧(b=true→∃ h:k<ks.length,ks[k].1=s)∧(b=false→∀ q∈ks,q.1≠s)∧Below w.heap.size w w'
theorem qD6 (A:Option Addr)(c:Nat)(ks:List (List UInt8×Nd))(hc:ks.length≤c)(hc2:ks.length≤140737488355328)(s:List UInt8)(w:World)(hk:KidsOf w A ks)(hs:(ks.map (·.1)).Pairwise (·<·)) :
  Calls Tryz.prog 216 #[.slice A ks.length c,.string ⟨s.toArray⟩,.func (.func 217) #[] #[]] w (qKT ks s w):=by
 have HK:=Hh hk;have HS:=Hh (show ∀ i j (hi:i<ks.length) (hj:j<ks.length),i<j→ks[i].1<ks[j].1 from fun i j hi hj hij=>by
  have:=List.pairwise_iff_getElem.1 hs i j (by simpa using hi) (by simpa using hj) hij
  simpa using this)
 have HCT:=Hh (uT);clear hk hs;go_enter Tryz.func216,Tryz.ntmps216;go_wp2
 go_loopw [9,10] (fun a b wr=>∃ lo hi:Nat,a=.int .i64 lo∧b=.int .i64 hi∧lo≤hi∧hi≤ks.length∧Hg (Below w.heap.size w wr)∧Hg ((∀ t (h:t<ks.length),t<lo→ks[t].1<s)∧(∀ t (h:t<ks.length),hi≤t→¬ ks[t].1<s))) (fun a b _=>(intOf b).toNat-(intOf a).toNat)
 case atStart=>exact⟨0,ks.length,rfl,rfl,zw _,zo _,Hh (zB _ _),Hh ⟨fun t h ht=>absurd ht (Nat.not_lt_zero _),fun t h1 h2=>by omega⟩⟩
 case round =>
  obtain⟨lo,hi,rfl,rfl,hlh,hin,HB,HI⟩:=hrel;by_cases hlt:lo<hi
  ·have hmn:(lo+hi)/2<ks.length:=by omega
   have i1:(lo:Int)<(hi:Int):=by omega
   obtain⟨b,off,rfl,hlt2,⟨h0,hl⟩,v0,v1,v2,v3,c1,c2,c3,c4,hn⟩:=(HK.o.later HB.o).at hmn;have HX:=Hh (show ∃ h:(lo+hi)/2<ks.length,ks[(lo+hi)/2].1=ks[(lo+hi)/2].1 from ⟨hmn,rfl⟩);have HLO:=Hh (show ks[(lo+hi)/2].1<s→∀ t (h:t<ks.length),t<(lo+hi)/2+1→ks[t].1<s from fun hh t h ht=>by
    rcases zu t ((lo+hi)/2) with h1 | h1
    ·exact List.lt_trans (HS.o t _ h hmn h1) hh
    ·have:t=(lo+hi)/2:=by omega
     subst this
     exact hh)
   have HHI:=Hh (show ¬ ks[(lo+hi)/2].1<s→∀ t (h:t<ks.length),(lo+hi)/2≤t→¬ ks[t].1<s from fun hh t h ht hts=>by
    rcases zu ((lo+hi)/2) t with h1 | h1
    ·exact hh (List.lt_trans (HS.o _ t hmn h h1) hts)
    ·have:t=(lo+hi)/2:=by omega
     subst this
     exact hh hts)
   generalize ks[(lo+hi)/2]=kd at HLO HHI h0 hl hn;obtain⟨nm,x⟩:=kd;simp only at h0 hl hn HLO HHI;clear hn HX;have HC1:=Hh (fun W=>qHL nm s v0 v1 v2 v3 W);by_cases hyx:Lib.compareBytes nm s<0
   ·go_wp2_with (go_at_call 217;refine(HC1.o _).mono ?_;rintro e w2 ⟨rfl,hb2⟩;have HB2:=Hh (HB.o.trans (hb2.mono HB.o.size));clear hb2);have HYX:=Hh hyx;clear c1 c2 c3 c4 h0 hyx;go_roundw
    case rel =>
     exact⟨(lo+hi)/2+1,hi,by rw[show ((lo:Int)+(hi:Int))/2+1=(((lo+hi)/2+1:Nat):Int) by omega],rfl,by omega,hin,HB2,Hh ⟨HLO.o ((HCT.o nm s).1.1 HYX.o),HI.o.2⟩⟩
    case measure=>simp[intOf];omega
   ·go_wp2_with (go_at_call 217;refine(HC1.o _).mono ?_;rintro e w2 ⟨rfl,hb2⟩;have HB2:=Hh (HB.o.trans (hb2.mono HB.o.size));clear hb2);have HYX:=Hh hyx;clear c1 c2 c3 c4 h0 hyx;go_roundw
    case rel =>
     exact⟨lo,(lo+hi)/2,rfl,by rw[show ((lo:Int)+(hi:Int))/2=(((lo+hi)/2:Nat):Int) by omega],by omega,by omega,HB2,Hh ⟨HI.o.1,HHI.o (fun hh=>by have h1:=(HCT.o nm s).1.2 hh;have h2:=HYX.o;omega)⟩⟩
    case measure=>simp[intOf];omega
  ·obtain rfl:hi=lo:=by omega
   have HNO:=Hh (show ∀ q∈ks,q.1=s→∃ h:hi<ks.length,ks[hi].1=s from fun q hq e=>by
    obtain⟨t,ht,rfl⟩:=List.getElem_of_mem hq
    have h1:hi≤t:=by
     rcases zu t hi with h | h
     ·have:=HI.o.1 t ht h
      rw[e] at this
      exact absurd this (List.lt_irrefl _)
     ·exact h
    rcases zu hi t with h2 | h2
    ·have h3:=HS.o hi t (by omega) ht h2
     rw[e] at h3
     exact absurd h3 (HI.o.2 hi (by omega) (zo _))
    ·have:t=hi:=by omega
     subst this
     exact⟨ht,e⟩)
   by_cases hn:hi<ks.length
   ·have i1:(hi:Int)<(ks.length:Int):=by omega
    have i2:(0:Int)≤(hi:Int):=by omega
    obtain⟨b,off,rfl,hlt2,⟨h0,hl⟩,v0,v1,v2,v3,c1,c2,c3,c4,hnn⟩:=(HK.o.later HB.o).at hn;have HEQ:=Hh (show ∀ nm,ks[hi].1=nm→nm=s→∃ h:hi<ks.length,ks[hi].1=s from fun nm e e2=>⟨hn,e.trans e2⟩);have HNE:=Hh (show ∀ nm,ks[hi].1=nm→nm≠s→∀ q∈ks,q.1≠s from fun nm e e2 q hq e3=>by
     obtain⟨_,h⟩:=HNO.o q hq e3
     exact e2 (e▸h))
    clear hnn;have HGE:=Hh (show ks[hi].1=ks[hi].1 from rfl);generalize hgk:ks[hi].1=nm at h0 hl;have HGK:=Hh hgk;clear HGE hgk;have HC1:=Hh (fun W=>qHL nm s v0 v1 v2 v3 W);go_wp2_with (go_at_call 217;refine(HC1.o _).mono ?_;rintro e w2 ⟨rfl,hb2⟩;have HB2:=Hh (HB.o.trans (hb2.mono HB.o.size));clear hb2);go_ret2;exact⟨hi,Lib.compareBytes nm s==0,rfl,fun h=>HEQ.o nm HGK.o ((HCT.o nm s).2.1 (by simpa using h)),fun h=>HNE.o nm HGK.o (fun e=>by have h2:=(HCT.o nm s).2.2 e;rw[h2] at h;cases h),HB2.o⟩
   ·have i1:¬ (hi:Int)<(ks.length:Int):=by omega
    go_wp2;go_ret2;exact⟨hi,false,rfl,(fun h=>nomatch h),fun _ q hq e=>(HNO.o q hq e).elim fun h _=>hn h,HB.o⟩
theorem qNP (k d:List UInt8)(e:Bool)(A:Option Addr)(c:Nat)(ks:List (List UInt8×Nd))(hc:ks.length≤c)(hc2:ks.length≤140737488355328)(s:List UInt8)(w:World)(hk:KidsOf w A ks)(hs:(ks.map (·.1)).Pairwise (·<·)) :
  Calls Tryz.prog 159 #[.agg #[.string ⟨k.toArray⟩,.string ⟨d.toArray⟩,.bool e,.slice A ks.length c],.string ⟨s.toArray⟩] w (qKT ks s w):=by
 have hb1:Below w.heap.size w (w.alloc (.cells #[.string ⟨k.toArray⟩,.string ⟨d.toArray⟩,.bool e,.slice A ks.length c] 134)):=(zB _ w).alloc (zo _) _;have HK:=Hh (qD6 A c ks hc hc2 s _ (hk.later hb1) hs);have HB1:=Hh hb1;clear hk hs hb1;go_enter Tryz.func159,Tryz.ntmps159;go_wp2_with (go_at_call 216;refine HK.o.mono ?_;rintro ev w2 ⟨n,b,rfl,h1,h2,hb2⟩;have H1:=Hh h1;have H2:=Hh h2;have HB2:=Hh (HB1.o.trans (hb2.mono HB1.o.size));clear h1 h2 hb2);go_ret2;exact⟨n,b,rfl,H1.o,H2.o,HB2.o⟩
end Go.Proofs.YtbmkaekimccdgaaGreatDoor
