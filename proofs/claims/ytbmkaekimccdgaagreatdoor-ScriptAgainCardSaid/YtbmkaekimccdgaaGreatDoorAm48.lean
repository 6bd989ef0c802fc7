/- Proved: the law ScriptAgain answers true at every list of lines and every number, and leaves them as they were (the statement is its tied card). Conditions: none of mine; the row has its own (the package variables read as the program lays them; what is met fits in the addresses of a process). -/
import Derived.Carry
import Derived.Deep.DeepHandedRow
import Derived.Deep.DeepWitnessRowRef
import Derived.LaidHandle
import Derived.Laws.AppendOwnNone
import Derived.Lay
import Derived.ProofKit
import Derived.Test.YtbmkaekimccdgaaGreatDoorCards
import Derived.Test.YtbmkaekimccdgaaGreatDoorTie
import Derived.Test.YtbmkaekimccdgaaGreatDoorAm47
set_option maxHeartbeats 16000000
set_option maxRecDepth 1000000
set_option linter.all false
namespace Go.Proofs.YtbmkaekimccdgaaGreatDoor
open Go.RowKit
def qLa (b:Bool)(w:World)(e:Ending)(w':World):Prop:=e=.returned (.bool b)∧Below w.heap.size w w'
theorem qH0 (p:Nat→Addr)(c d:Nat)(hc:c≤13)(hd:d≤13)(w:World)(hE:Errs w p):Calls Tryz.prog 9 #[jK p c,.int .i64 d] w (qLa (decide (c=d)) w):=by
 have h:=qLA p c hc w hE;generalize jK p c=v at h;have H:=Hh h;clear h hE;go_enter Tryz.func9,Tryz.ntmps9;go_wp2_with fail;refine H.o.mono ?_;rintro ev w2 ⟨rfl,hb⟩;have HB:=Hh hb;by_cases hcd:c=d
 ·subst hcd;clear hb;go_wp2;go_ret;exact⟨by simp,HB.o⟩
 ·have h1:((c:Int)==(d:Int))=false:=by rw[zG1];omega
  have HD:=Hh (show decide (c=d)=false by simpa using hcd);clear hb hcd;go_wp2;go_ret;exact⟨by rw[HD.o];rfl,HB.o⟩
end Go.Proofs.YtbmkaekimccdgaaGreatDoor
namespace Go.Proofs.YtbmkaekimccdgaaGreatDoor
open Go.RowKit Go.Sort Go.Shelf Stl
def qHw (l:List (List UInt8))(m:Nat):Bool:=decide (m<l.length)||l.any fun x=>decide (250<x.length)
def oH (l:List (List UInt8))(m:Nat):Int:=if qHw l m then 1 else 0
theorem qEB (v:Value)(l:List (List UInt8))(m:Nat)(hm:m≤1000000)(hl:l.length≤9223372036854775806)(w:World)(hs:Strs w v l) :
  Calls Tryz.prog 6 #[v,.int .i64 m] w fun e w'=>e=.returned (.int .i64 (oH l m))∧w'=w:=by
 obtain⟨A,c,rfl,h1⟩:=id hs;clear h1;go_enter Tryz.func6,Tryz.ntmps6;have HS:=Hh hs;clear hs;have HE:Hg (oH l m=if (decide (m<l.length)||l.any fun x=>decide (250<x.length))=true then 1 else 0):=Hh rfl;generalize oH l m=r at HE;by_cases hb:m<l.length
 ·have i0:(m:Int)<(l.length:Int):=by omega
  have HF:=Hh (show r=1 by rw[HE.o];exact zM1 (by simp[hb]));go_wp2;go_ret;exact⟨by first | rfl | (rw[HF.o];rfl),rfl⟩
 have i0:(l.length:Int)≤(m:Int):=by omega
 go_wp2_with fail
 go_loopw [5] (fun a wr=>wr=w∧∃ k:Nat,k≤l.length∧a=.int .i64 k∧Hg ((l.take k).any (fun x=>decide (250<x.length))=false)) (fun a _=>l.length-(intOf a).toNat)
 case atStart=>exact⟨rfl,0,zw _,rfl,Hh rfl⟩
 case round =>
  obtain⟨rfl,k,hk,rfl,HP⟩:=hrel;by_cases hkl:k<l.length
  ·obtain⟨b,off,rfl,hb,hc⟩:=HS.o.cellAt hkl;have i1:(k:Int)<(l.length:Int):=by omega
   have i2:(0:Int)≤(k:Int):=by omega
   by_cases hx:250<(l[k]).length
   ·have HF:=Hh (show r=1 by
     rw[HE.o]
     refine zM1 ?_
     rw[Bool.or_eq_true]
     exact .inr (List.any_eq_true.2 ⟨l[k],zO _,by simpa using hx⟩))
    have i3:(250:Int)<((l[k]).length:Int):=by omega
    clear hx;go_wp2;go_ret;exact⟨by first | rfl | (rw[HF.o];rfl),rfl⟩
   ·have HX:=Hh hx;have i3:((l[k]).length:Int)≤250:=by omega
    clear hx;go_wp2;go_roundw
    case rel =>
     refine⟨trivial,k+1,hkl,rfl,Hh ?_⟩;rw[zn hkl,List.any_append,HP.o];simpa using HX.o
    case measure=>simp[intOf];omega
  ·have i1:¬ (k:Int)<(l.length:Int):=by omega
   have HF:=Hh (show r=0 by
    have h:=HP.o
    rw[zm (by omega)] at h
    rw[HE.o,h]
    simp[hb])
   go_wp2;go_ret;exact⟨by first | rfl | (rw[HF.o];rfl),rfl⟩
theorem qC4 (l:List (List UInt8)):∀ u∈l.map encStr,u.oneCell'=true:=by
 intro u hu;obtain⟨x,_,rfl⟩:=zb.1 hu;simp[Value.oneCell']
theorem qF4 {w:World}{A:Option Addr}{cl cl' n:Nat}{l:List (List UInt8)}(h:Strs w (.slice A l.length cl) l)(hn:n≤l.length):Strs w (.slice A n cl') (l.take n):=by
 obtain⟨A',c',he,hj⟩:=h;injection he with e1 _ _
 subst e1;refine⟨A,cl',by rw[List.length_take,Nat.min_eq_left hn],fun h0=>?_⟩;obtain⟨b,off,hA,hb,hx⟩:=hj (by intro e;subst e;simp at h0);exact⟨b,off,hA,hb,fun j x hjx=>by
  rw[List.getElem?_take] at hjx
  split at hjx
  ·exact hx j x hjx
  ·cases hjx⟩
theorem qDI (W:World)(A:Option Addr)(k n cl:Nat)(hn:n≤cl):(Instr.slice 22 (.slice A k cl) none (some (.int .i64 n)) none).run Tryz.prog W=.ok (.slice A n cl) W:=by
 have h2:(n:Int)≤(cl:Int):=by omega
 cases A with
 | none=>simp[go_sem,h2]
 | some a=>simp[go_sem,h2,Addr.add]
theorem qC7 (w:World)(p:Nat→Addr)(T:Nat→List UInt8)(hE:Errs w p)(hV:LibVars w)(hT:TextsAt w p T)(A:Option Addr)(cl:Nat)(l:List (List UInt8))(hl:l.length≤9223372036854775806)(hs:Strs w (.slice A l.length cl) l)(hA:A=none→l.length=0∧cl=0)(hcap:l.length≤cl)(cut:Int)(ha1:-9223372036854775808≤cut)(ha2:cut≤9223372036854775807) :
  Calls Tryz.prog 4 #[.slice A l.length cl,.int .i64 cut] w fun e w'=>e=.returned (.bool true)∧Below w.heap.size w w':=by
 have HEN:=Hh (show Env w (fun _=>Col.ro) p from ⟨w,hE,hV,zB _ _,fun _ _=>rfl⟩);have HHE:=Hh (qKD w p T HEN.o hT);have HS0:=Hh hs;have HT:=Hh hT;have HA:=Hh hA;have HCP:=Hh hcap;clear hE hV hT hs hA hcap;go_enter Tryz.func4,Tryz.ntmps4;go_upto_region 2 with (go_at_call 5;refine HHE.o.mono ?_;rintro ev w1 ⟨rfl,hb1⟩;have HB1:=Hh hb1;clear hb1);have HLL:=Hh (qEB (.slice A l.length cl) l 82 (by decide) hl w1 (HS0.o.later HB1.o));have HLI:Hg (oH l 82=if qHw l 82 then 1 else 0):=Hh rfl
 cases hll:qHw l 82 with
 | true =>
  rw[hll] at HLI;have h1:oH l 82=1:=HLI.o;rw[h1] at HLL;clear hll h1 HLI;go_wp2_with (go_at_call 6;refine HLL.o.mono ?_;rintro ev wz ⟨rfl,hwz⟩;have hwz:=hwz.symm;subst hwz);go_ret;exact⟨rfl,HB1.o⟩
 | false =>
  rw[hll] at HLI;have h1:oH l 82=0:=HLI.o;rw[h1] at HLL;have hlq:l.length≤82∧∀ x∈l,x.length≤250:=by
   unfold qHw at hll;rw[Bool.or_eq_false_iff] at hll;refine⟨by have:=hll.1;simp at this;omega,fun x hx=>?_⟩;have h2:=List.any_eq_false.1 hll.2 x hx;simp at h2;omega
  have hl82:=hlq.1;have HL250:=Hh hlq.2;clear hll h1 HLI hlq;by_cases hneg:cut<0
  ·go_wp2_with (go_at_call 6;refine HLL.o.mono ?_;rintro ev wz ⟨rfl,hwz⟩;have hwz:=hwz.symm;subst hwz);go_ret;exact⟨rfl,HB1.o⟩
  by_cases hbig:(l.length:Int)<cut
  ·go_wp2_with (go_at_call 6;refine HLL.o.mono ?_;rintro ev wz ⟨rfl,hwz⟩;have hwz:=hwz.symm;subst hwz);go_ret;exact⟨rfl,HB1.o⟩
  obtain⟨n,rfl⟩:∃ n:Nat,cut=(n:Int):=⟨cut.toNat,by omega⟩;have hnl:n≤l.length:=by omega
  obtain⟨i0,hi,hz0,hz1,hz2⟩:=pO;have Hi:=Hh hi;have Hz0:=Hh hz0;have Hz1:=Hh hz1;have Hz2:=Hh hz2;clear hi hz0 hz1 hz2;have HS1:=Hh (HS0.o.later HB1.o);have HN1:=Hh (zF1 w1 w.heap.size 9 1);go_upto_region 6 with (go_at_call 6;refine HLL.o.mono ?_;rintro ev wz ⟨rfl,hwz⟩;have hwz:=hwz.symm;subst hwz);have HRN:=Hh (fun (W:World) (hb:Below w.heap.size w W) (A7:Option Addr) (c7:Nat) (ho:W.ownsRow w.heap.size 9 1 (.slice A7 l.length c7) l.length (l.map encStr)) (h80:l.length≤80)=>qGj W (HEN.o.below hb) (HT.o.later hb) h80 HL250.o A7 c7 (jS ho));by_cases hlong:80<l.length
  ·have HRL:=Hh (fun (W:World) (hb:Below w.heap.size w W) (A7:Option Addr) (c7:Nat)=>qME W (HEN.o.below hb).errs A7 l.length c7 hlong (by omega));have i1:(80:Int)<(l.length:Int):=by omega
   go_upto_region 8 with (first
    | (at_builtin;refine Stl.wpList_app _ rfl _ _ 22 rfl w.heap.size 9 i0 (.string ByteArray.empty) 1 16 Tryz.underlying22 Hi.o Hz0.o Hz1.o Hz2.o rfl (by decide) (.slice none 0 0) 0 _ rfl HN1.o A l.length cl (l.map encStr) rfl (by simp) HA.o (wZ HS1.o) (qC4 l) (by unfold maxLen;omega) (by omega) HB1.o.size ?_;intro A7 c7 w7 hown7 hgr7 hat7;have HB7:=Hh (HB1.o.grown hgr7 HB1.o.size (fun k hk=>by cases hk));clear hown7 hgr7 hat7)
    | (go_at_call 8;refine(HRL.o _ HB7.o _ _).mono ?_;rintro ev w8 ⟨rfl,hb8⟩;have HB8:=Hh (HB7.o.trans (hb8.mono HB7.o.size));clear hb8))
   have HCD:=Hh (show Calls Tryz.prog 9 #[.iface 376 (.pointer (some (p 2))),.int .i64 2] w8 (qLa true w8) from by
    have h:=qH0 p 2 2 (by decide) (by decide) w8 (HEN.o.below HB8.o).errs
    rw[qD p (by decide)] at h
    exact h)
   go_wp2_with (go_at_call 9;refine HCD.o.mono ?_;rintro ev w9 ⟨rfl,hb9⟩;have HB9:=Hh (HB8.o.trans (hb9.mono HB8.o.size));clear hb9);go_ret;exact⟨rfl,HB9.o⟩
  ·have i1:¬ (80:Int)<(l.length:Int):=by omega
   go_upto_region 9 with (first
    | (at_builtin;refine Stl.wpList_app _ rfl _ _ 22 rfl w.heap.size 9 i0 (.string ByteArray.empty) 1 16 Tryz.underlying22 Hi.o Hz0.o Hz1.o Hz2.o rfl (by decide) (.slice none 0 0) 0 _ rfl HN1.o A l.length cl (l.map encStr) rfl (by simp) HA.o (wZ HS1.o) (qC4 l) (by unfold maxLen;omega) (by omega) HB1.o.size ?_;intro A7 c7 w7 hown7 hgr7 hat7;have HB7:=Hh (HB1.o.grown hgr7 HB1.o.size (fun k hk=>by cases hk));have HO7:=Hh hown7;clear hown7 hgr7 hat7)
    | (go_at_call 8;refine(HRN.o _ HB7.o _ _ (by simpa using HO7.o) (by omega)).mono ?_;rintro ev w8 ⟨A8,c8,rfl,hb8,ho8⟩;have HB8:=Hh (HB7.o.trans (hb8.mono HB7.o.size));have HO8:=Hh ho8;clear hb8 ho8))
   obtain⟨ra,hra⟩:∃ ra,ra=qY T dU mM l:=⟨_,rfl⟩;have HRA:=Hh hra;have hlr:ra.length=l.length:=by rw[hra];exact yB T l _ _
   have ho8:=HO8.o;rw[← hra,← hlr] at ho8;have hc8:=yG ho8;have HSA:=Hh (jS ho8);have HTK:=Hh (show (l.take n).length=n by rw[List.length_take];omega);have HS8:=Hh (HS0.o.later HB8.o);have HN8:=Hh (zF1 w8 w.heap.size 9 1);have hcl:=HCP.o;have hsl1:=fun W=>qDI W A l.length n cl (by omega)
   have hsl2:=fun W=>qDI W A8 l.length n c8 (by omega)
   have HST:=Hh (wZ (l:=l.take n) (c:=cl) (by rw[HTK.o];exact qF4 HS8.o hnl));have HLN:=Hh (show ((l.take n).map encStr).length=n*1 by rw[zT,HTK.o,Nat.mul_one]);have HA2:=Hh (fun (h:A=none)=>show n=0∧cl=0 from ⟨by have:=(HA.o h).1;omega,(HA.o h).2⟩);have HRM:=Hh (fun (W:World) (hb:Below w.heap.size w W) (A9:Option Addr) (c9:Nat) (ho:W.ownsRow w.heap.size 9 1 (.slice A9 n c9) n ((l.take n).map encStr))=>show Calls Tryz.prog 8 #[.slice A9 n c9] W (qKe W T (l.take n)) from by
    have h:=qGj (l:=l.take n) W (HEN.o.below hb) (HT.o.later hb) (by rw[HTK.o];omega) (fun x hx=>HL250.o x (List.mem_of_mem_take hx)) A9 c9 (jS (by rw[HTK.o];exact ho))
    rw[HTK.o] at h
    exact h)
   clear hra hlr ho8 hc8 hcl;go_upto_region 10 with (first
    | (at_builtin;refine Stl.wpList_app _ rfl _ _ 22 rfl w.heap.size 9 i0 (.string ByteArray.empty) 1 16 Tryz.underlying22 Hi.o Hz0.o Hz1.o Hz2.o rfl (by decide) (.slice none 0 0) 0 _ rfl HN8.o A n cl ((l.take n).map encStr) rfl HLN.o HA2.o HST.o (qC4 _) (by unfold maxLen;omega) (by omega) HB8.o.size ?_;intro A9 c9 w9 hown9 hgr9 hat9;have HB9:=Hh (HB8.o.grown hgr9 HB8.o.size (fun k hk=>by cases hk));have HG9:=Hh hgr9;have HO9:=Hh hown9;clear hown9 hgr9 hat9)
    | (go_at_call 8;refine(HRM.o _ HB9.o _ _ (by simpa using HO9.o)).mono ?_;rintro ev wa ⟨Aa,ca,hev,hba,hoa⟩;rw[HTK.o] at hev hoa;subst hev;have HBA:=Hh hba;have HOA:=Hh hoa;clear hba hoa))
   have HBW:=Hh (HB9.o.trans (HBA.o.mono HB9.o.size));have hb8a:Below w8.heap.size w8 wa:=((zB w8.heap.size w8).grown HG9.o (zo _) (fun k hk=>by cases hk)).trans (HBA.o.mono HG9.o.size);have HSM:=Hh (show Calls Tryz.prog 10 #[.slice A8 n c8,.slice Aa n ca] wa (fun e w'=>e=.returned (.bool true)∧Below wa.heap.size wa w') from by
    have hrl:ra.length=l.length:=by rw[HRA.o];exact yB T l _ _
    have e:qY T dU mM (l.take n)=ra.take n:=by rw[HRA.o];exact qDi T l _ _ n
    have hoa:=HOA.o
    rw[e] at hoa
    have hrt:(ra.take n).length=n:=by rw[List.length_take];omega
    refine(qBc (.slice A8 n c8) (.slice Aa n ca) (ra.take n) (ra.take n) (by omega) (by omega) wa (qF4 (HSA.o.later hb8a) (by omega)) ?_).mono fun ev w' h=>⟨h.1.trans (by rw[decide_eq_true rfl]),h.2⟩
    have:=jS (l:=ra.take n) (A:=Aa) (cap:=ca) (by rw[hrt];exact hoa)
    rw[hrt] at this
    exact this)
   clear hb8a;go_wp2_with (go_at_call 10;refine HSM.o.mono ?_;rintro ev wb ⟨rfl,hbb⟩;have HBB:=Hh (HBW.o.trans (hbb.mono HBW.o.size));clear hbb);go_ret;exact⟨rfl,HBB.o⟩
end Go.Proofs.YtbmkaekimccdgaaGreatDoor
namespace Go.Proofs.YtbmkaekimccdgaaGreatDoor
namespace Again
theorem s1:Tryz.pinned.checked.prog.funcNamed Rows.scriptAgainRow.func=some 4:=by kernel_rfl
theorem s3:Tryz.f4.isInstance Tryz.pinned.checked.prog Rows.scriptAgainRow.origin Rows.scriptAgainRow.targs:=of_decide_eq_true (by kernel_rfl)
theorem s4:Tryz.f4.isWrapper Tryz.pinned.checked.prog Rows.scriptAgainRow.wrapper Rows.scriptAgainRow.mainSum:=by unfold Func.isWrapper;first | (rw[zM1 (by decide +kernel)];kernel_rfl) | (rw[zL1 (by decide +kernel)];exact⟨rfl,rfl⟩)
theorem j0:(Rows.scriptAgainRow.wf (OpenSpec.ofChange (OpenSpec.ofChange Rows.scriptAgainSpec).bare))=true:=by kernel_rfl
theorem j1:(laidOutB Tryz.pinned.checked.prog)=true:=by kernel_rfl
theorem j2:(mapsRowed Tryz.pinned.checked.prog)=true:=by kernel_rfl
theorem j3:(Tryz.f4.params.all (Tryz.pinned.checked.prog.readableRec ·))=true:=by kernel_rfl
theorem j4:(namedTie Tryz.pinned.checked.prog Rows.scriptAgainRow.named (OpenSpec.ofChange Rows.scriptAgainSpec).bare.vars)=true:=by kernel_rfl
theorem j5:((Rows.scriptAgainRow.stops==[]))=true:=by kernel_rfl
theorem j6:((Tryz.pinned.checked.prog.stops==[]))=true:=by kernel_rfl
theorem j7:((Rows.scriptAgainRow.knobs==[]))=true:=by kernel_rfl
theorem j8:((Tryz.pinned.checked.prog.stopKnobs==[]))=true:=by kernel_rfl
theorem j9:((Rows.scriptAgainRow.inPlace==Tryz.pinned.checked.prog.inPlace 4))=true:=by kernel_rfl
theorem j10:((Rows.scriptAgainRow.unfollowed==Tryz.pinned.checked.prog.unfollowed 4))=true:=by kernel_rfl
theorem j11:((Rows.scriptAgainRow.recurses==Tryz.pinned.checked.prog.recurses 4))=true:=by kernel_rfl
theorem j12:((Rows.scriptAgainRow.named==Tryz.pinned.checked.prog.varsNamed 4))=true:=by kernel_rfl
theorem j13:((Rows.scriptAgainRow.maps==(Tryz.f4.params.toList++(OpenSpec.ofChange Rows.scriptAgainSpec).bare.plain.varTypes Tryz.pinned.checked.prog).any (Tryz.pinned.checked.prog.mapsRec ·)))=true:=by kernel_rfl
theorem j14:((Rows.scriptAgainRow.ifaces==(Tryz.f4.params.toList++(OpenSpec.ofChange Rows.scriptAgainSpec).bare.plain.varTypes Tryz.pinned.checked.prog).any (Tryz.pinned.checked.prog.ifacesRec ·)))=true:=by kernel_rfl
theorem j15:((Rows.scriptAgainRow.mapsOut==Tryz.pinned.checked.prog.mapsAmong Tryz.f4.resultTypes.toList))=true:=by kernel_rfl
theorem j16:((Rows.scriptAgainRow.loops==(Tryz.f4.params.toList++(OpenSpec.ofChange Rows.scriptAgainSpec).bare.plain.varTypes Tryz.pinned.checked.prog).any (Tryz.pinned.checked.prog.loopsFrom ·)))=true:=by kernel_rfl
theorem j17:((Rows.scriptAgainRow.wideKeys==(Tryz.f4.params.toList++(OpenSpec.ofChange Rows.scriptAgainSpec).bare.plain.varTypes Tryz.pinned.checked.prog++Tryz.f4.resultTypes.toList).any (Tryz.pinned.checked.prog.wideKeysFrom ·)))=true:=by kernel_rfl
theorem j18:((OpenSpec.ofChange Rows.scriptAgainSpec).bare.vars.all (Tryz.pinned.checked.prog.varReadable ·))=true:=by kernel_rfl
theorem j19:(Tryz.f4.resultTypes.all (fun t=>Tryz.pinned.checked.prog.readableRec t&&decide (t<Tryz.pinned.checked.prog.types.size)))=true:=by kernel_rfl
theorem j20:((Rows.scriptAgainRow.ifacesOut==Tryz.f4.resultTypes.toList.any (Tryz.pinned.checked.prog.ifacesRec ·)))=true:=by kernel_rfl
theorem j21:((Rows.scriptAgainRow.loopsOut==Tryz.f4.resultTypes.toList.any (Tryz.pinned.checked.prog.loopsFrom ·)))=true:=by kernel_rfl
theorem j22:((Rows.scriptAgainRow.plainKeys==Tryz.pinned.checked.prog.plainKeys))=true:=by kernel_rfl
theorem j23:(Rows.scriptAgainRow.shortTexts.isNone)=true:=by kernel_rfl
theorem j24:(Tryz.pinned.checked.prog.stopsHeard)=true:=by kernel_rfl
theorem j25:(Tryz.pinned.checked.prog.mayEnter)=true:=by kernel_rfl
theorem j26:((Rows.scriptAgainRow.lifted==Tryz.pinned.checked.prog.liftsFinal))=true:=by kernel_rfl
theorem j27:((Tryz.pinned.checked.prog.make==some Rows.scriptAgainRow.make))=true:=by kernel_rfl
theorem j28:((Rows.scriptAgainRow.kinds==(if Rows.scriptAgainRow.domain.isEmpty then [] else Tryz.f4.params.toList.map fun t=>match Tryz.pinned.checked.prog.underlying t with | some (.int k)=>some k | _=>none)))=true:=by kernel_rfl
theorem j29:((Rows.scriptAgainRow.pinned==Rows.scriptAgainRow.pinnedBy))=true:=by kernel_rfl
theorem j30:((Rows.scriptAgainRow.veiled==(Tryz.f4.params.toList++(OpenSpec.ofChange Rows.scriptAgainSpec).bare.plain.varTypes Tryz.pinned.checked.prog++Tryz.f4.resultTypes.toList).any (Tryz.pinned.checked.prog.veiledRec ·)))=true:=by kernel_rfl
theorem j31:(Rows.scriptAgainRow.veiledFits Tryz.pinned.checked.prog Tryz.f4.params.toList (Tryz.f4.params.toList++(OpenSpec.ofChange Rows.scriptAgainSpec).bare.plain.varTypes Tryz.pinned.checked.prog++Tryz.f4.resultTypes.toList))=true:=by kernel_rfl
end Again
namespace Again
theorem vD {a b:Bool}(h1:a=true)(h2:b=true):(a&&b)=true:=by rw[h1,h2];rfl
theorem qLd (P:Program)(f:FuncId)(fn:Func)(s:ChangeSpec)(c:OpenClaim)(h0:(c.wf (OpenSpec.ofChange s))=true)(h1:(laidOutB P)=true)(h2:(mapsRowed P)=true)(h3:(fn.params.all (P.readableRec ·))=true)(h4:(namedTie P c.named s.vars)=true)(h5:((c.stops==[]))=true)(h6:((P.stops==[]))=true)(h7:((c.knobs==[]))=true)(h8:((P.stopKnobs==[]))=true)(h9:((c.inPlace==P.inPlace f))=true)(h10:((c.unfollowed==P.unfollowed f))=true)(h11:((c.recurses==P.recurses f))=true)(h12:((c.named==P.varsNamed f))=true)(h13:((c.maps==(fn.params.toList++s.plain.varTypes P).any (P.mapsRec ·)))=true)(h14:((c.ifaces==(fn.params.toList++s.plain.varTypes P).any (P.ifacesRec ·)))=true)(h15:((c.mapsOut==P.mapsAmong fn.resultTypes.toList))=true)(h16:((c.loops==(fn.params.toList++s.plain.varTypes P).any (P.loopsFrom ·)))=true)(h17:((c.wideKeys==(fn.params.toList++s.plain.varTypes P++fn.resultTypes.toList).any (P.wideKeysFrom ·)))=true)(h18:(s.vars.all (P.varReadable ·))=true)(h19:(fn.resultTypes.all (fun t=>P.readableRec t&&decide (t<P.types.size)))=true)(h20:((c.ifacesOut==fn.resultTypes.toList.any (P.ifacesRec ·)))=true)(h21:((c.loopsOut==fn.resultTypes.toList.any (P.loopsFrom ·)))=true)(h22:((c.plainKeys==P.plainKeys))=true)(h23:(c.shortTexts.isNone)=true)(h24:(P.stopsHeard)=true)(h25:(P.mayEnter)=true)(h26:((c.lifted==P.liftsFinal))=true)(h27:((P.make==some c.make))=true)(h28:((c.kinds==(if c.domain.isEmpty then [] else fn.params.toList.map fun t=>match P.underlying t with | some (.int k)=>some k | _=>none)))=true)(h29:((c.pinned==c.pinnedBy))=true)(h30:((c.veiled==(fn.params.toList++s.plain.varTypes P++fn.resultTypes.toList).any (P.veiledRec ·)))=true)(h31:(c.veiledFits P fn.params.toList (fn.params.toList++s.plain.varTypes P++fn.resultTypes.toList))=true):joinedFacts P f fn s c=true:=by
 unfold joinedFacts;exact(vD (vD (vD (vD (vD (vD (vD (vD (vD (vD (vD (vD (vD (vD (vD (vD (vD (vD (vD (vD (vD (vD (vD (vD (vD (vD (vD (vD (vD (vD (vD h0 h1) h2) h3) h4) h5) h6) h7) h8) h9) h10) h11) h12) h13) h14) h15) h16) h17) h18) h19) h20) h21) h22) h23) h24) h25) h26) h27) h28) h29) h30) h31)
theorem s2:joinedFacts Tryz.pinned.checked.prog 4 Tryz.f4 (OpenSpec.ofChange Rows.scriptAgainSpec).bare Rows.scriptAgainRow=true :=
 qLd Tryz.pinned.checked.prog 4 Tryz.f4 (OpenSpec.ofChange Rows.scriptAgainSpec).bare Rows.scriptAgainRow j0 j1 j2 j3 j4 j5 j6 j7 j8 j9 j10 j11 j12 j13 j14 j15 j16 j17 j18 j19 j20 j21 j22 j23 j24 j25 j26 j27 j28 j29 j30 j31
end Again
end Go.Proofs.YtbmkaekimccdgaaGreatDoor
namespace Go.Proofs.YtbmkaekimccdgaaGreatDoor
open Go.ChangeShapes Go.ChangeMaps Go.WideShapes Go.ChangeAt Go.RowKit
namespace Again
theorem own:ownKnob Tryz.prog.godebug=none:=by kernel_rfl
theorem qN2:laidOutB Tryz.prog=true:=by kernel_rfl
theorem qOU (s:ByteArray):Value.string s=Value.string ⟨s.data.toList.toArray⟩:=by simp
theorem qN6:reachBytes≤140737488355328:=by decide
theorem qLo (H:Type)(enc:TypeId×Value→H)(W:World)(base:Nat)(args:Array Value)(ds gs:List (DataW H))(before:List MemPlace)
  (hval:∀ (j:Nat) t v,Tryz.f4.params[j]?=some t→args[j]?=some v→Value.okWide Tryz.prog W .any base t v)
  (hW:DataW.Whole enc Tryz.prog Tryz.f4.params.toList Rows.scriptAgainSpec.vars false W args.toList ds gs before)
  (hsz:(DataW.weightsEach Tryz.prog (Tryz.f4.params.toList++[]) (ds++gs)).all (·≤reachBytes)=true) (hL:laidMetH Tryz.prog Rows.scriptAgainRow.laid W) (hS:W.ShapedOpen Tryz.prog) :
  Calls Tryz.prog 4 args W fun e W'=>∃ v,e=.returned v∧Rows.scriptAgainSpec.post enc Tryz.prog Tryz.f4 false true false false W args v W':=by
 have hW':=hW;obtain⟨p,q,hA0,hV,rfl,hfz,hnd⟩:=hW;have hA:DataW.TrodAll enc Tryz.prog W 0 (fun _=>true) true Tryz.f4.params.toList args.toList ds p:=hA0;rw[Tryz.params4] at hA hval;obtain⟨v0,vs0,d0,ds0,p0,q0,hargs,rfl,rfl,h0,r0⟩:=trodAll_cons hA;obtain⟨v1,vs1,d1,ds1,p1,q1,rfl,rfl,rfl,h1,r1⟩:=trodAll_cons r0;obtain⟨rfl,rfl,rfl⟩:=trodAll_nil r1;obtain rfl:args=#[v0,v1]:=by cases args;simp_all
 obtain⟨rfl,rfl⟩:=trodVars_none hV;have hmin:IntKind.i64.min=-9223372036854775808:=rfl;have hmax:IntKind.i64.max=9223372036854775807:=rfl;obtain⟨A0,len0,cap0,rfl⟩:=okWide_slice Tryz.underlying22 (hval 0 22 v0 rfl rfl);obtain⟨n1,rfl,rfl,rfl,z1⟩:=open_int Tryz.underlying3 (hval 1 3 v1 rfl rfl) h1;have hz1:=z1;simp only[Lit.wf,zC,decide_eq_true_eq] at hz1;rw[hmin,hmax] at hz1;have h0k:=h0;have hlt0:∀ x∈p0,x.block<W.heap.size:=fun x hx=>hW'.lt x (by simp[hx])
 have fit:Fit (DataW.weightsEach Tryz.prog [22,3] [d0,.lit (.int .i64 n1)]):=fun x hx=>by
  have:=List.all_eq_true.1 hsz x (by rw[Tryz.params4];simpa using hx);simpa using this
 simp only[DataW.weightsEach,List.append_nil] at fit;have fit0:=fit.left;obtain⟨fuel0,t0⟩:=h0;obtain⟨An0,cn0,l0,e0,hs0⟩:=qEe t0 fit0;simp only[Value.cells,zD,and_true,zC1] at e0;obtain⟨rfl,rfl,rfl⟩:=e0;clear hA0 fit hsz;simp only[List.append_nil] at hW';obtain⟨pe,T,hE,hVr,hT⟩:=errs hL hS;have walk:=qC7 W pe T hE hVr hT A0 cap0 l0 (by have:=hs0.2.2.1;have:=hs0.2.2.2;omega) hs0.1 hs0.2.1 hs0.2.2.2 n1 hz1.1 hz1.2;refine walk.mono fun e W' ⟨he,hb⟩=>?_
 subst he;exact⟨_,rfl,_,_,_,[],_,[],hW',trodAll_mk1 (shut_bool Tryz.underlying4 _),trodAll_cons_mk (Below.trod qN2 (by kernel_rfl) (of_decide_eq_true (by kernel_rfl)) h0k hb hlt0) (trodAll_cons_mk (shut_int Tryz.underlying3 z1) trodAll_mk0),rfl,hb.frame _,fun h=>by cases h⟩
def qMW:Array Value:=#[.slice none 0 0,.int .i64 0]
noncomputable def qGc (os:Os):World :=
 let w0:=World.holding Tryz.prog os ⟨#[],#[],[]⟩
 { w0 with heap:=w0.heap.modify 13 fun
   | .cells _ t frozen=>.cells #[.iface 161 (.agg #[.pointer (some ⟨27,27,none⟩)])] t frozen
   | o=>o }
noncomputable def wP (os:Os):World:=(qGc os).layVars Tryz.prog (Rows.scriptAgainRow.laid.filter fun x=>x.2.handleName?.isNone)
theorem qFr (os:Os):(wP os).os=os:=World.layVars_os _ _ _
theorem qJz (os:Os):laidMet Tryz.prog (Rows.scriptAgainRow.laid.filter fun x=>x.2.handleName?.isNone) (wP os):=by
 generalize hd:(Rows.scriptAgainRow.laid.filter fun x=>x.2.handleName?.isNone)=data;have hw:wP os=(qGc os).layVars Tryz.prog data:=by rw[← hd];rfl
 have e1:(data.filter fun x=>(data.map (·.1)).contains x.1)=data:=List.filter_eq_self.2 fun x hx=>List.contains_iff_mem.2 (zb.2 ⟨x,hx,rfl⟩)
 have e2:(data.filter fun x=>!(data.map (·.1)).contains x.1)=[]:=List.filter_eq_nil_iff.2 fun x hx=>by rw[List.contains_iff_mem.2 (zb.2 ⟨x,hx,rfl⟩)];simp
 exact laidMet_layVars (w0:=qGc os) (data.map (·.1)) [] (by rw[e1,hw]) (by rw[e1,← hd];kernel_rfl) (by rw[e1,← hd];kernel_rfl) (by rw[e2];exact LaidIn.none)
theorem qL3 (os:Os):laidMetH Tryz.prog Rows.scriptAgainRow.laid ((wP os).forCall (fun _ _=>0) ⟨#[],qMW,[]⟩).memory :=
 laidMetH_of_parts ((qJz os).of_heap (by simp[World.memory,World.forCall,Input.heap])) (by kernel_rfl)
theorem reads (os:Os){H:Type}(enc:TypeId×Value→H):∃ ds places,DataW.whole enc Tryz.prog ((wP os).forCall (fun _ _=>0) ⟨#[],qMW,[]⟩).memory Tryz.f4.params.toList Rows.scriptAgainSpec.vars false qMW.toList 8=some (ds,[],places) :=
 ⟨[.nil,.lit (.int .i64 0)],[],by kernel_rfl⟩
theorem lifted (os:Os)(started:os.Started)(H:Type)(enc:TypeId×Value→H)(F:Stop.Interp) :
  ReturnsInHanded {} Tryz.checked os 4 .any ((OpenSpec.ofChange Rows.scriptAgainSpec).preRow enc Tryz.prog Tryz.f4 Rows.scriptAgainRow.domain false Rows.scriptAgainRow.laid) (((OpenSpec.ofChange Rows.scriptAgainSpec).at F).post enc Tryz.prog Tryz.f4 false true false false):=by
 obtain⟨ds,places,hx⟩:=reads os enc;refine returnsInHanded_of_row (C:=Tryz.checked) (s:=OpenSpec.ofChange Rows.scriptAgainSpec) own started (by kernel_rfl) Tryz.func4
  (witness_row_atRef (enc:=enc) (C:=Tryz.checked) false (wP os) qMW (qFr os) (by kernel_rfl) (by kernel_rfl) (by kernel_rfl)
   (OpenSpec.preRow_of_cond 8 hx (by rfl) (fun k hk=>by cases hk) (by kernel_rfl) (qL3 os))) ?_
 intro W base args ds gs before hval hW _ _ hsz hL hS _;exact qLo H enc W base args ds gs before hval hW hsz hL hS
theorem said:Rows.ScriptAgainSaid :=
 OpenClaim.holds_of_cond 4 Tryz.f4 rfl rfl rfl rfl rfl rfl rfl ⟨rfl,rfl,rfl,rfl,rfl⟩ rfl rfl rfl rfl rfl s1 Tryz.func4 s2
  s3 s4
  (fun os started H enc _ F=>by rw[OpenClaim.pre_eq_preRow];exact lifted os started H enc F)
theorem plain (f:FuncId)(fn:Func)(hf:Tryz.pinned.checked.prog.funcNamed "stillroom/stillroomlaw4.ScriptAgain"=some f)(hfn:Tryz.pinned.checked.prog.funcs[f]?=some fn) :
  true=Tryz.pinned.checked.prog.looks []∧∀ (j:Nat) t,fn.params[j]?=some t→Tryz.pinned.checked.prog.wantsStandIn t=false:=by
 obtain rfl:f=4:=Option.some.inj ((show Tryz.prog.funcNamed "stillroom/stillroomlaw4.ScriptAgain"=some 4 by kernel_rfl).symm.trans hf) |>.symm
 obtain rfl:fn=Tryz.f4:=(Option.some.inj (Tryz.func4.symm.trans hfn)).symm;refine⟨by kernel_rfl,fun j t ht=>?_⟩;rw[Tryz.params4] at ht;have hm:t=22∨t=3:=by
  have:=Array.mem_of_getElem? ht;simpa using this
 rcases hm with rfl | rfl
 ·exact(show Tryz.prog.wantsStandIn 22=false by kernel_rfl)
 ·exact(show Tryz.prog.wantsStandIn 3=false by kernel_rfl)
theorem card:Rows.ScriptAgainCardSaid :=
 Claim7.holds_tied_plain_at .later [] _ _ _ _ said (fun _ h=>by cases h) (by kernel_rfl) (fun _ h=>by cases h) scriptAgain_row_tie rfl ⟨rfl,rfl⟩ (by kernel_rfl) rfl plain (by kernel_rfl)
end Again
end Go.Proofs.YtbmkaekimccdgaaGreatDoor
