/- Proved: the law ScriptAnew answers true at every list of lines and every number, and leaves them as they were (the statement is its tied card). Conditions: none of mine; the row has its own (the package variables read as the program lays them; what is met fits in the addresses of a process). -/
import Derived.Carry
import Derived.Deep.DeepHandedRow
import Derived.Deep.DeepWitnessRowRef
import Derived.LaidHandle
import Derived.Lay
import Derived.ProofKit
import Derived.Test.YtbmkaekimccdgaaGreatDoorCards
import Derived.Test.YtbmkaekimccdgaaGreatDoorTie
import Derived.Test.YtbmkaekimccdgaaGreatDoorBm47
set_option maxHeartbeats 16000000
set_option maxRecDepth 1000000
set_option linter.all false
namespace Go.Proofs.YtbmkaekimccdgaaGreatDoor
open Go.RowKit Go.Sort Go.Shelf Stl
theorem qO7 {w w2:World}{base:Nat}{e:TypeId}{size:Nat}{v:Value}{n:Nat}{xs:List Value}(h:w.ownsRow base e size v n xs)(hb:Below w.heap.size w w2):w2.ownsRow base e size v n xs :=
 ((Ext.of_below hb (fun _=>Col.ro) S0).row h (fun _ _=>rfl) rfl).1
structure AnSt (w wr:World)(j:Nat)(xs ys:List (List UInt8))(Ax:Option Addr)(cx:Nat)(Ay:Option Addr)(m cy:Nat):Prop where
 base:Below w.heap.size w wr
 x:wr.ownsRow w.heap.size 9 1 (.slice Ax j cx) j (xs.map encStr)
 y:wr.ownsRow w.heap.size 9 1 (.slice Ay m cy) m (ys.map encStr)
 ne:∀ k,(Value.slice Ax j cx).ownBlock=some k→(Value.slice Ay m cy).ownBlock≠some k
section
variable {w wr w2 w3:World}{j:Nat}{xs ys:List (List UInt8)}{Ax:Option Addr}{cx:Nat}{Ay:Option Addr}{m cy:Nat}
theorem AnSt.below (h:AnSt w wr j xs ys Ax cx Ay m cy)(hb:Below wr.heap.size wr w2):AnSt w w2 j xs ys Ax cx Ay m cy :=
 ⟨h.base.trans (hb.mono h.base.size),qO7 h.x hb,qO7 h.y hb,h.ne⟩
theorem AnSt.moreX (h:AnSt w wr j xs ys Ax cx Ay m cy){z:List UInt8}{A7:Option Addr}{c7:Nat}(hown:w2.ownsRow w.heap.size 9 1 (.slice A7 (j+1) c7) (j+1) (xs.map encStr++[encStr z]))(hg:wr.grownBy w2 (Value.slice Ax j cx).ownBlock)(hat:(Value.slice A7 (j+1) c7).ownBlock=(Value.slice Ax j cx).ownBlock∨(Value.slice A7 (j+1) c7).ownBlock=some wr.heap.size) :
  AnSt w w2 (j+1) (xs++[z]) ys A7 c7 Ay m cy:=by
 refine⟨h.base.grown hg h.base.size (fun k hk=>(h.x.lt k hk).1),by rw[zU];exact hown,h.y.kept hg ?_,fun k hk e=>?_⟩
 ·cases hv:(Value.slice Ay m cy).ownBlock with
  | none=>exact .inl rfl
  | some k=>exact .inr fun e=>h.ne k e.symm hv
 ·have:=(h.y.lt k e).2
  rcases hat with h1 | h1
  ·rw[h1] at hk;exact h.ne k hk e
  ·rw[h1] at hk;injection hk with hk
   omega
theorem AnSt.moreY (h:AnSt w wr j xs ys Ax cx Ay m cy){z:List UInt8}{A7:Option Addr}{c7:Nat}(hown:w2.ownsRow w.heap.size 9 1 (.slice A7 (m+1) c7) (m+1) (ys.map encStr++[encStr z]))(hg:wr.grownBy w2 (Value.slice Ay m cy).ownBlock)(hat:(Value.slice A7 (m+1) c7).ownBlock=(Value.slice Ay m cy).ownBlock∨(Value.slice A7 (m+1) c7).ownBlock=some wr.heap.size) :
  AnSt w w2 j xs (ys++[z]) Ax cx A7 (m+1) c7:=by
 refine⟨h.base.grown hg h.base.size (fun k hk=>(h.y.lt k hk).1),h.x.kept hg ?_,by rw[zU];exact hown,fun k hk e=>?_⟩
 ·cases hv:(Value.slice Ax j cx).ownBlock with
  | none=>exact .inl rfl
  | some k=>exact .inr fun e=>h.ne k hv e.symm
 ·have:=(h.x.lt k hk).2
  rcases hat with h1 | h1
  ·rw[h1] at e;exact h.ne k hk e
  ·rw[h1] at e;injection e with e
   omega
end
theorem qO8 (w:World)(p:Nat→Addr)(T:Nat→List UInt8)(hE:Errs w p)(hV:LibVars w)(hT:TextsAt w p T)(A:Option Addr)(cl:Nat)(l:List (List UInt8))(hl:l.length≤9223372036854775806)(hs:Strs w (.slice A l.length cl) l)(cut:Int)(ha1:-9223372036854775808≤cut)(ha2:cut≤9223372036854775807) :
  Calls Tryz.prog 3 #[.slice A l.length cl,.int .i64 cut] w fun e w'=>e=.returned (.bool true)∧Below w.heap.size w w':=by
 have HEN:=Hh (show Env w (fun _=>Col.ro) p from ⟨w,hE,hV,zB _ _,fun _ _=>rfl⟩);have HHE:=Hh (qKD w p T HEN.o hT);have HS0:=Hh hs;have HT:=Hh hT;clear hE hV hT hs;go_enter Tryz.func3,Tryz.ntmps3;go_upto_region 2 with (go_at_call 5;refine HHE.o.mono ?_;rintro ev w1 ⟨rfl,hb1⟩;have HB1:=Hh hb1;clear hb1);have HLL:=Hh (qEB (.slice A l.length cl) l 30 (by decide) hl w1 (HS0.o.later HB1.o));have HLI:Hg (oH l 30=if qHw l 30 then 1 else 0):=Hh rfl
 cases hll:qHw l 30 with
 | true =>
  rw[hll] at HLI;have h1:oH l 30=1:=HLI.o;rw[h1] at HLL;clear hll h1 HLI;go_wp2_with (go_at_call 6;refine HLL.o.mono ?_;rintro ev wz ⟨rfl,hwz⟩;have hwz:=hwz.symm;subst hwz);go_ret;exact⟨rfl,HB1.o⟩
 | false =>
  rw[hll] at HLI;have h1:oH l 30=0:=HLI.o;rw[h1] at HLL;have hlq:l.length≤30∧∀ x∈l,x.length≤250:=by
   unfold qHw at hll;rw[Bool.or_eq_false_iff] at hll;refine⟨by have:=hll.1;simp at this;omega,fun x hx=>?_⟩;have h2:=List.any_eq_false.1 hll.2 x hx;simp at h2;omega
  have hl30:=hlq.1;have HL250:=Hh hlq.2;clear hll h1 HLI hlq;by_cases hneg:cut<0
  ·go_wp2_with (go_at_call 6;refine HLL.o.mono ?_;rintro ev wz ⟨rfl,hwz⟩;have hwz:=hwz.symm;subst hwz);go_ret;exact⟨rfl,HB1.o⟩
  by_cases hbig:(l.length:Int)<cut
  ·go_wp2_with (go_at_call 6;refine HLL.o.mono ?_;rintro ev wz ⟨rfl,hwz⟩;have hwz:=hwz.symm;subst hwz);go_ret;exact⟨rfl,HB1.o⟩
  obtain⟨n,rfl⟩:∃ n:Nat,cut=(n:Int):=⟨cut.toNat,by omega⟩;have hnl:n≤l.length:=by omega
  obtain⟨i0,hi,hz0,hz1,hz2⟩:=pO;have Hi:=Hh hi;have Hz0:=Hh hz0;have Hz1:=Hh hz1;have Hz2:=Hh hz2;clear hi hz0 hz1 hz2;have HA0:=Hh (show AnSt w w1 0 (l.take 0) (yOf l n 0) none 0 none 0 0 from ⟨HB1.o,zF1 _ _ _ _,by rw[yOf0];exact zF1 _ _ _ _,fun k hk=>by cases hk⟩);have hdn:decide ((n:Int)<0)=false:=by simp
  have hdl:decide (l.length<n)=false:=by simp;omega
  go_upto_region 7 with (go_at_call 6;refine HLL.o.mono ?_;rintro ev wz ⟨rfl,hwz⟩;have hwz:=hwz.symm;subst hwz);clear HLL HHE
  go_loopw [6,7,8] (fun a b i wr=>∃ (j:Nat) (Ax:Option Addr) (cx:Nat) (Ay:Option Addr) (m cy:Nat),a=.slice Ax j cx∧b=.slice Ay m cy∧i=.int .i64 j∧j≤l.length∧Hg (AnSt w wr j (l.take j) (yOf l n j) Ax cx Ay m cy∧∀ x∈l.take j,(x.takeWhile fun c=>c != 32)≠oN)) (fun _ _ i _=>l.length-(intOf i).toNat)
  case atStart=>exact⟨0,none,0,none,0,0,rfl,rfl,rfl,zw _,Hh ⟨HA0.o,fun x hx=>by simp at hx⟩⟩
  case round =>
   obtain⟨j,Ax,cx,Ay,m,cy,rfl,rfl,rfl,hj,HS⟩:=hrel;by_cases hlt:j<l.length
   ·have i1:(j:Int)<(l.length:Int):=by omega
    have i2:(0:Int)≤(j:Int):=by omega
    obtain⟨g,off,hA,hgl,q00⟩:=HS0.o.cellAt hlt;subst hA;have q0:=(HS.o.1.base.cell (p:=⟨g,off+j,none⟩) hgl).trans q00;have HQ0:=Hh q00;have hx:l[j]?=some l[j]:=zL hlt;have hlen:=HL250.o _ (zO hlt);generalize l[j]=line at *;have HX:=Hh hx;have HRC:=Hh (qPg line 32 (by omega) wr);clear q00 hx;go_upto_region 10 with (go_at_call 7;refine HRC.o.mono ?_;rintro ev w4 ⟨A3,cp3,lw,rfl,hlw1,hlw2,hfst,hr3,hb3⟩;have HR3:=Hh hr3;have HB3:=Hh hb3;have HFS:=Hh hfst;clear hr3 hb3 hfst);have HS4:=Hh (HS.o.1.below HB3.o);have hap:∃ g3,A3=some ⟨g3,0,none⟩:=by
     rcases HR3.o.2 with ⟨_,h0⟩ | ⟨g,cp,cur,e,_,h6,_⟩
     ·omega
     ·injection e with e _ _;exact⟨g,e⟩
    obtain⟨g3,rfl⟩:=hap;have r0:w4.cell? ⟨g3,0,none⟩=some (.string ⟨(line.takeWhile fun c=>c != 32).toArray⟩):=by
     rw[HR3.o.cellAt 0 (by omega),zN,HFS.o];rfl
    have n1:(0:Int)<(lw.length:Int):=by omega
    clear q0;have HNC:=Hh (fun (hc:(line.takeWhile fun c=>c != 32)≠oN)=>show ∀ x∈l.take (j+1),(x.takeWhile fun c=>c != 32)≠oN from fun x hx=>by
     obtain⟨hj',hx'⟩:=zM.1 HX.o
     rw[zn hj',hx',zX,zg] at hx
     rcases hx with hx | rfl
     ·exact HS.o.2 x hx
     ·exact hc)
    generalize (line.takeWhile fun c=>c != 32)=fw at *
    cases h1:fw==[99,117,116] with
    | true =>
     go_wp2;go_ret;exact⟨rfl,HS4.o.base⟩
    | false =>
    have HCU:=Hh (HNC.o (by intro e;subst e;cases h1));clear HNC HR3 HFS;go_upto_region 12 with fail
    go_upto_if 52 with fail
    go_cut [7] (fun v wx=>∃ (Ay2:Option Addr) (m2 cy2:Nat),v=.slice Ay2 m2 cy2∧Hg (AnSt w wx j (l.take j) (yOf l n j++if j=n then [pU] else []) Ax cx Ay2 m2 cy2))
    case first =>
     by_cases hjn:j=n
     ·subst hjn;have hm:=HS4.o.y.1;have HY5:=Hh (HS4.o.below (((zB w4.heap.size w4).alloc (zo _) (.cells #[.string ⟨#[97,103,97,105,110]⟩] 9))));have HLC:=Hh (show ∀ ad,(some ⟨w4.heap.size,0,none⟩:Option Addr)=some ad→∀ (q:Nat) u,[Value.string ⟨#[97,103,97,105,110]⟩][q]?=some u→(w4.alloc (.cells #[.string ⟨#[97,103,97,105,110]⟩] 9)).cell? (ad.add q)=some u from jD _ _ _);have hm31:m≤31:=by rw[zT,qPb (by omega),zL1 (by omega)] at hm;omega
      clear hm;go_wp2_with (at_builtin;refine Stl.wpList_app _ rfl _ _ 22 rfl w.heap.size 9 i0 (.string ByteArray.empty) 1 16 Tryz.underlying22 Hi.o Hz0.o Hz1.o Hz2.o rfl (by decide) (.slice Ay m cy) m _ rfl HY5.o.y (some ⟨w4.heap.size,0,none⟩) 1 1 [.string ⟨#[97,103,97,105,110]⟩] rfl rfl (fun h=>by cases h) HLC.o (by simp[Value.oneCell']) (by unfold maxLen;omega) (by omega) HY5.o.base.size ?_;intro A7 c7 w7 hown hgr hat;have HM7:=Hh (HY5.o.moreY hown hgr hat);clear hown hgr hat);go_meet
      case rel=>exact⟨A7,m+1,c7,rfl,Hh (by rw[zM1 trivial];exact HM7.o)⟩
     ·have e1:((j:Int)==(n:Int))=false:=by rw[zG1];omega
      have HJN:=Hh hjn;clear hjn;go_wp2_with fail;go_meet
      case rel=>exact⟨Ay,m,cy,rfl,Hh (by rw[zL1 HJN.o,List.append_nil];exact HS4.o)⟩
    case rest =>
     obtain⟨Ay2,m2,cy2,rfl,HM⟩:=hcut;have q1:=(HM.o.base.cell (p:=⟨g,off+j,none⟩) hgl).trans HQ0.o;have hm2:m2≤40:=by
      have h1:=HM.o.y.1;rw[zT,zP,qPb (by omega)] at h1;have h2:(if j=n then [pU] else []).length≤1:=by split<;>simp
      split at h1<;>omega
     have HX5:=Hh (HM.o.below (((zB wc.heap.size wc).alloc (zo _) (.cells #[.string ⟨line.toArray⟩] 9))));have HLC:=Hh (show ∀ ad,(some ⟨wc.heap.size,0,none⟩:Option Addr)=some ad→∀ (q:Nat) u,[Value.string ⟨line.toArray⟩][q]?=some u→(wc.alloc (.cells #[.string ⟨line.toArray⟩] 9)).cell? (ad.add q)=some u from jD _ _ _);go_upto_region 15 with (at_builtin;refine Stl.wpList_app _ rfl _ _ 22 rfl w.heap.size 9 i0 (.string ByteArray.empty) 1 16 Tryz.underlying22 Hi.o Hz0.o Hz1.o Hz2.o rfl (by decide) (.slice Ax j cx) j _ rfl HX5.o.x (some ⟨wc.heap.size,0,none⟩) 1 1 [.string ⟨line.toArray⟩] rfl rfl (fun h=>by cases h) HLC.o (by simp[Value.oneCell']) (by unfold maxLen;omega) (by omega) HX5.o.base.size ?_;intro A7 c7 w7 hown hgr hat;have HM7:=Hh (HX5.o.moreX hown hgr hat);clear hown hgr hat);clear q1;have q2:=(HM7.o.base.cell (p:=⟨g,off+j,none⟩) hgl).trans HQ0.o;have HX8:=Hh (HM7.o.below (((zB w7.heap.size w7).alloc (zo _) (.cells #[.string ⟨line.toArray⟩] 9))));have HLD:=Hh (show ∀ ad,(some ⟨w7.heap.size,0,none⟩:Option Addr)=some ad→∀ (q:Nat) u,[Value.string ⟨line.toArray⟩][q]?=some u→(w7.alloc (.cells #[.string ⟨line.toArray⟩] 9)).cell? (ad.add q)=some u from jD _ _ _);go_wp2_with (at_builtin;refine Stl.wpList_app _ rfl _ _ 22 rfl w.heap.size 9 i0 (.string ByteArray.empty) 1 16 Tryz.underlying22 Hi.o Hz0.o Hz1.o Hz2.o rfl (by decide) (.slice Ay2 m2 cy2) m2 _ rfl HX8.o.y (some ⟨w7.heap.size,0,none⟩) 1 1 [.string ⟨line.toArray⟩] rfl rfl (fun h=>by cases h) HLD.o (by simp[Value.oneCell']) (by unfold maxLen;omega) (by omega) HX8.o.base.size ?_;intro A9 c9 w9 hown hgr hat;have HM9:=Hh (HX8.o.moreY hown hgr hat);clear hown hgr hat);have HMZ:=Hh (show AnSt w w9 (j+1) (l.take (j+1)) (yOf l n (j+1)) A7 c7 A9 (m2+1) c9 from by
      rw[qPe HX.o,qPh HX.o]
      exact HM9.o)
     go_roundw
     case rel=>exact⟨j+1,A7,c7,A9,m2+1,c9,rfl,rfl,by go_num,by omega,Hh ⟨HMZ.o,HCU.o⟩⟩
     case measure=>simp[intOf];omega
   ·obtain rfl:j=l.length:=by omega
    have i1:¬ (l.length:Int)<(l.length:Int):=by omega
    have hs1:=HS.o.1;have hcu:=HS.o.2;rw[zk] at hs1 hcu;obtain⟨Y,hY⟩:∃ Y,Y=yOf l n l.length:=⟨_,rfl⟩;rw[← hY] at hs1;have HYE:=Hh hY;have hyl:Y.length=if n<l.length then l.length+1 else l.length:=by rw[hY];exact qPb (zo _)
    have hym:m=Y.length:=by have:=hs1.y.1;rw[zT] at this;omega
    subst hym;have HSE:=Hh hs1;have HCE:=Hh hcu;have HYL:=Hh hyl;have hy80:Y.length≤31:=by rw[hyl];split<;>omega
    have HYS:=Hh (show ∀ x∈Y,x.length≤250 by rw[hY];exact qPf (by decide) HL250.o);have HRX:=Hh (qGj (l:=l) wr (HEN.o.below hs1.base) (HT.o.later hs1.base) (by omega) HL250.o Ax cx (jS hs1.x));clear hs1 hcu hY hyl;go_upto_region 17 with (go_at_call 8;refine HRX.o.mono ?_;rintro ev wa ⟨Aa,ca,rfl,hba,hoa⟩;have HBA:=Hh hba;have HOA:=Hh hoa;clear hba hoa);have HSF:=Hh (HSE.o.below HBA.o);have HRY:=Hh (qGj (l:=Y) wa (HEN.o.below HSF.o.base) (HT.o.later HSF.o.base) (by omega) HYS.o Ay cy (jS HSF.o.y));go_upto_region 18 with (go_at_call 8;refine HRY.o.mono ?_;rintro ev wb ⟨Ab,cb,rfl,hbb,hob⟩;have HBB:=Hh hbb;have HOB:=Hh hob;clear hbb hob);have HBW:=Hh (HSF.o.base.trans (HBB.o.mono HSF.o.base.size));obtain⟨ra,hra⟩:∃ ra,ra=qY T dU mM l:=⟨_,rfl⟩;obtain⟨rb,hrb⟩:∃ rb,rb=qY T dU mM Y:=⟨_,rfl⟩;have hla:ra.length=l.length:=by rw[hra];exact yB T l _ _
    have hlb:rb.length=Y.length:=by rw[hrb];exact yB T Y _ _
    have hoa:=qO7 HOA.o HBB.o;have hob:=HOB.o;rw[← hra] at hoa;rw[← hrb] at hob;have HSA:=Hh (show Strs wb (.slice Aa l.length ca) ra by have:=jS (l:=ra) (by rw[hla];exact hoa);rw[hla] at this;exact this);have HSB:=Hh (show Strs wb (.slice Ab Y.length cb) rb by have:=jS (l:=rb) (by rw[hlb];exact hob);rw[hlb] at this;exact this);have HLA:=Hh hla;have HSAME:=Hh (show ∀ i,i<l.length→rb[if n<l.length∧n≤i then i+1 else i]?=ra[i]? from fun i hi=>by
     rw[hra,hrb,HYE.o]
     exact qPj T l n (by omega) HL250.o HCE.o i hi)
    clear hra hrb hla hlb hoa hob;go_upto_region 21 with fail
    go_loopw [14] (fun a w2=>∃ i:Nat,a=.int .i64 i∧i≤l.length∧Hg (Below wb.heap.size wb w2)) (fun a _=>l.length-(intOf a).toNat)
    case atStart=>exact⟨0,rfl,zw _,Hh (zB _ _)⟩
    case round =>
     obtain⟨i,rfl,hi,HB⟩:=hrel;by_cases hil:i<l.length
     ·have i3:(i:Int)<(l.length:Int):=by omega
      have i4:(0:Int)≤(i:Int):=by omega
      have hsm:=HSAME.o i hil;have hra:i<ra.length:=by have:=HLA.o;omega
      obtain⟨ga,oa,hAa,hga,q1⟩:=(HSA.o.later HB.o).cellAt hra;subst hAa;rw[zL hra] at hsm;generalize ra[i]=x at *;obtain⟨Ab',cb',he,hjb⟩:=HSB.o.later HB.o;injection he with e1 e2 e3
      subst e1 e3;clear e2;obtain⟨gb,ob,hAb,hgb,hxb⟩:=hjb (by intro e;rw[e] at hsm;simp at hsm);subst hAb;have q2:=hxb _ _ hsm;have hyl:=HYL.o;clear hra hjb hxb hsm hga hgb;by_cases hk:n<l.length∧n≤i
      ·rw[zM1 hk] at q2;rw[zM1 hk.1] at hyl;have i5:(l.length:Int)<(Y.length:Int):=by omega
       have i6:(n:Int)≤(i:Int):=by omega
       have i7:(i:Int)+1<(Y.length:Int):=by omega
       clear hyl hk;go_upto_region 26 with fail;go_quiet (fail);go_wp2;go_roundw
       case rel=>exact⟨i+1,by go_num,by omega,Hh (Below.drewN HB.o _)⟩
       case measure=>simp[intOf];omega
      ·rw[zL1 hk] at q2;by_cases hn:n<l.length
       ·rw[zM1 hn] at hyl;have i5:(l.length:Int)<(Y.length:Int):=by omega
        have i6:¬ (n:Int)≤(i:Int):=by omega
        have i7:(i:Int)<(Y.length:Int):=by omega
        clear hyl hk;go_upto_region 26 with fail;go_quiet (fail);go_wp2;go_roundw
        case rel=>exact⟨i+1,by go_num,by omega,Hh (Below.drewN HB.o _)⟩
        case measure=>simp[intOf];omega
       ·rw[zL1 hn] at hyl;have i5:¬ (l.length:Int)<(Y.length:Int):=by omega
        have i7:(i:Int)<(Y.length:Int):=by omega
        clear hyl hk hn;go_upto_region 26 with fail;go_quiet (fail);go_wp2;go_roundw
        case rel=>exact⟨i+1,by go_num,by omega,Hh (Below.drewN HB.o _)⟩
        case measure=>simp[intOf];omega
     ·have i3:¬ (i:Int)<(l.length:Int):=by omega
      go_wp2;go_ret;exact⟨rfl,HBW.o.trans (HB.o.mono HBW.o.size)⟩
end Go.Proofs.YtbmkaekimccdgaaGreatDoor
namespace Go.Proofs.YtbmkaekimccdgaaGreatDoor
namespace Anew
theorem s1:Tryz.pinned.checked.prog.funcNamed Rows.scriptAnewRow.func=some 3:=by kernel_rfl
theorem s3:Tryz.f3.isInstance Tryz.pinned.checked.prog Rows.scriptAnewRow.origin Rows.scriptAnewRow.targs:=of_decide_eq_true (by kernel_rfl)
theorem s4:Tryz.f3.isWrapper Tryz.pinned.checked.prog Rows.scriptAnewRow.wrapper Rows.scriptAnewRow.mainSum:=by unfold Func.isWrapper;first | (rw[zM1 (by decide +kernel)];kernel_rfl) | (rw[zL1 (by decide +kernel)];exact⟨rfl,rfl⟩)
theorem j0:(Rows.scriptAnewRow.wf (OpenSpec.ofChange (OpenSpec.ofChange Rows.scriptAnewSpec).bare))=true:=by kernel_rfl
theorem j1:(laidOutB Tryz.pinned.checked.prog)=true:=by kernel_rfl
theorem j2:(mapsRowed Tryz.pinned.checked.prog)=true:=by kernel_rfl
theorem j3:(Tryz.f3.params.all (Tryz.pinned.checked.prog.readableRec ·))=true:=by kernel_rfl
theorem j4:(namedTie Tryz.pinned.checked.prog Rows.scriptAnewRow.named (OpenSpec.ofChange Rows.scriptAnewSpec).bare.vars)=true:=by kernel_rfl
theorem j5:((Rows.scriptAnewRow.stops==[]))=true:=by kernel_rfl
theorem j6:((Tryz.pinned.checked.prog.stops==[]))=true:=by kernel_rfl
theorem j7:((Rows.scriptAnewRow.knobs==[]))=true:=by kernel_rfl
theorem j8:((Tryz.pinned.checked.prog.stopKnobs==[]))=true:=by kernel_rfl
theorem j9:((Rows.scriptAnewRow.inPlace==Tryz.pinned.checked.prog.inPlace 3))=true:=by kernel_rfl
theorem j10:((Rows.scriptAnewRow.unfollowed==Tryz.pinned.checked.prog.unfollowed 3))=true:=by kernel_rfl
theorem j11:((Rows.scriptAnewRow.recurses==Tryz.pinned.checked.prog.recurses 3))=true:=by kernel_rfl
theorem j12:((Rows.scriptAnewRow.named==Tryz.pinned.checked.prog.varsNamed 3))=true:=by kernel_rfl
theorem j13:((Rows.scriptAnewRow.maps==(Tryz.f3.params.toList++(OpenSpec.ofChange Rows.scriptAnewSpec).bare.plain.varTypes Tryz.pinned.checked.prog).any (Tryz.pinned.checked.prog.mapsRec ·)))=true:=by kernel_rfl
theorem j14:((Rows.scriptAnewRow.ifaces==(Tryz.f3.params.toList++(OpenSpec.ofChange Rows.scriptAnewSpec).bare.plain.varTypes Tryz.pinned.checked.prog).any (Tryz.pinned.checked.prog.ifacesRec ·)))=true:=by kernel_rfl
theorem j15:((Rows.scriptAnewRow.mapsOut==Tryz.pinned.checked.prog.mapsAmong Tryz.f3.resultTypes.toList))=true:=by kernel_rfl
theorem j16:((Rows.scriptAnewRow.loops==(Tryz.f3.params.toList++(OpenSpec.ofChange Rows.scriptAnewSpec).bare.plain.varTypes Tryz.pinned.checked.prog).any (Tryz.pinned.checked.prog.loopsFrom ·)))=true:=by kernel_rfl
theorem j17:((Rows.scriptAnewRow.wideKeys==(Tryz.f3.params.toList++(OpenSpec.ofChange Rows.scriptAnewSpec).bare.plain.varTypes Tryz.pinned.checked.prog++Tryz.f3.resultTypes.toList).any (Tryz.pinned.checked.prog.wideKeysFrom ·)))=true:=by kernel_rfl
theorem j18:((OpenSpec.ofChange Rows.scriptAnewSpec).bare.vars.all (Tryz.pinned.checked.prog.varReadable ·))=true:=by kernel_rfl
theorem j19:(Tryz.f3.resultTypes.all (fun t=>Tryz.pinned.checked.prog.readableRec t&&decide (t<Tryz.pinned.checked.prog.types.size)))=true:=by kernel_rfl
theorem j20:((Rows.scriptAnewRow.ifacesOut==Tryz.f3.resultTypes.toList.any (Tryz.pinned.checked.prog.ifacesRec ·)))=true:=by kernel_rfl
theorem j21:((Rows.scriptAnewRow.loopsOut==Tryz.f3.resultTypes.toList.any (Tryz.pinned.checked.prog.loopsFrom ·)))=true:=by kernel_rfl
theorem j22:((Rows.scriptAnewRow.plainKeys==Tryz.pinned.checked.prog.plainKeys))=true:=by kernel_rfl
theorem j23:(Rows.scriptAnewRow.shortTexts.isNone)=true:=by kernel_rfl
theorem j24:(Tryz.pinned.checked.prog.stopsHeard)=true:=by kernel_rfl
theorem j25:(Tryz.pinned.checked.prog.mayEnter)=true:=by kernel_rfl
theorem j26:((Rows.scriptAnewRow.lifted==Tryz.pinned.checked.prog.liftsFinal))=true:=by kernel_rfl
theorem j27:((Tryz.pinned.checked.prog.make==some Rows.scriptAnewRow.make))=true:=by kernel_rfl
theorem j28:((Rows.scriptAnewRow.kinds==(if Rows.scriptAnewRow.domain.isEmpty then [] else Tryz.f3.params.toList.map fun t=>match Tryz.pinned.checked.prog.underlying t with | some (.int k)=>some k | _=>none)))=true:=by kernel_rfl
theorem j29:((Rows.scriptAnewRow.pinned==Rows.scriptAnewRow.pinnedBy))=true:=by kernel_rfl
theorem j30:((Rows.scriptAnewRow.veiled==(Tryz.f3.params.toList++(OpenSpec.ofChange Rows.scriptAnewSpec).bare.plain.varTypes Tryz.pinned.checked.prog++Tryz.f3.resultTypes.toList).any (Tryz.pinned.checked.prog.veiledRec ·)))=true:=by kernel_rfl
theorem j31:(Rows.scriptAnewRow.veiledFits Tryz.pinned.checked.prog Tryz.f3.params.toList (Tryz.f3.params.toList++(OpenSpec.ofChange Rows.scriptAnewSpec).bare.plain.varTypes Tryz.pinned.checked.prog++Tryz.f3.resultTypes.toList))=true:=by kernel_rfl
end Anew
namespace Anew
theorem vD {a b:Bool}(h1:a=true)(h2:b=true):(a&&b)=true:=by rw[h1,h2];rfl
theorem qLd (P:Program)(f:FuncId)(fn:Func)(s:ChangeSpec)(c:OpenClaim)(h0:(c.wf (OpenSpec.ofChange s))=true)(h1:(laidOutB P)=true)(h2:(mapsRowed P)=true)(h3:(fn.params.all (P.readableRec ·))=true)(h4:(namedTie P c.named s.vars)=true)(h5:((c.stops==[]))=true)(h6:((P.stops==[]))=true)(h7:((c.knobs==[]))=true)(h8:((P.stopKnobs==[]))=true)(h9:((c.inPlace==P.inPlace f))=true)(h10:((c.unfollowed==P.unfollowed f))=true)(h11:((c.recurses==P.recurses f))=true)(h12:((c.named==P.varsNamed f))=true)(h13:((c.maps==(fn.params.toList++s.plain.varTypes P).any (P.mapsRec ·)))=true)(h14:((c.ifaces==(fn.params.toList++s.plain.varTypes P).any (P.ifacesRec ·)))=true)(h15:((c.mapsOut==P.mapsAmong fn.resultTypes.toList))=true)(h16:((c.loops==(fn.params.toList++s.plain.varTypes P).any (P.loopsFrom ·)))=true)(h17:((c.wideKeys==(fn.params.toList++s.plain.varTypes P++fn.resultTypes.toList).any (P.wideKeysFrom ·)))=true)(h18:(s.vars.all (P.varReadable ·))=true)(h19:(fn.resultTypes.all (fun t=>P.readableRec t&&decide (t<P.types.size)))=true)(h20:((c.ifacesOut==fn.resultTypes.toList.any (P.ifacesRec ·)))=true)(h21:((c.loopsOut==fn.resultTypes.toList.any (P.loopsFrom ·)))=true)(h22:((c.plainKeys==P.plainKeys))=true)(h23:(c.shortTexts.isNone)=true)(h24:(P.stopsHeard)=true)(h25:(P.mayEnter)=true)(h26:((c.lifted==P.liftsFinal))=true)(h27:((P.make==some c.make))=true)(h28:((c.kinds==(if c.domain.isEmpty then [] else fn.params.toList.map fun t=>match P.underlying t with | some (.int k)=>some k | _=>none)))=true)(h29:((c.pinned==c.pinnedBy))=true)(h30:((c.veiled==(fn.params.toList++s.plain.varTypes P++fn.resultTypes.toList).any (P.veiledRec ·)))=true)(h31:(c.veiledFits P fn.params.toList (fn.params.toList++s.plain.varTypes P++fn.resultTypes.toList))=true):joinedFacts P f fn s c=true:=by
 unfold joinedFacts;exact(vD (vD (vD (vD (vD (vD (vD (vD (vD (vD (vD (vD (vD (vD (vD (vD (vD (vD (vD (vD (vD (vD (vD (vD (vD (vD (vD (vD (vD (vD (vD h0 h1) h2) h3) h4) h5) h6) h7) h8) h9) h10) h11) h12) h13) h14) h15) h16) h17) h18) h19) h20) h21) h22) h23) h24) h25) h26) h27) h28) h29) h30) h31)
theorem s2:joinedFacts Tryz.pinned.checked.prog 3 Tryz.f3 (OpenSpec.ofChange Rows.scriptAnewSpec).bare Rows.scriptAnewRow=true :=
 qLd Tryz.pinned.checked.prog 3 Tryz.f3 (OpenSpec.ofChange Rows.scriptAnewSpec).bare Rows.scriptAnewRow j0 j1 j2 j3 j4 j5 j6 j7 j8 j9 j10 j11 j12 j13 j14 j15 j16 j17 j18 j19 j20 j21 j22 j23 j24 j25 j26 j27 j28 j29 j30 j31
end Anew
end Go.Proofs.YtbmkaekimccdgaaGreatDoor
namespace Go.Proofs.YtbmkaekimccdgaaGreatDoor
open Go.ChangeShapes Go.ChangeMaps Go.WideShapes Go.ChangeAt Go.RowKit
namespace Anew
theorem own:ownKnob Tryz.prog.godebug=none:=by kernel_rfl
theorem qN2:laidOutB Tryz.prog=true:=by kernel_rfl
theorem qOU (s:ByteArray):Value.string s=Value.string ⟨s.data.toList.toArray⟩:=by simp
theorem qN6:reachBytes≤140737488355328:=by decide
theorem qLo (H:Type)(enc:TypeId×Value→H)(W:World)(base:Nat)(args:Array Value)(ds gs:List (DataW H))(before:List MemPlace)
  (hval:∀ (j:Nat) t v,Tryz.f3.params[j]?=some t→args[j]?=some v→Value.okWide Tryz.prog W .any base t v)
  (hW:DataW.Whole enc Tryz.prog Tryz.f3.params.toList Rows.scriptAnewSpec.vars false W args.toList ds gs before)
  (hsz:(DataW.weightsEach Tryz.prog (Tryz.f3.params.toList++[]) (ds++gs)).all (·≤reachBytes)=true) (hL:laidMetH Tryz.prog Rows.scriptAnewRow.laid W) (hS:W.ShapedOpen Tryz.prog) :
  Calls Tryz.prog 3 args W fun e W'=>∃ v,e=.returned v∧Rows.scriptAnewSpec.post enc Tryz.prog Tryz.f3 false true false false W args v W':=by
 have hW':=hW;obtain⟨p,q,hA0,hV,rfl,hfz,hnd⟩:=hW;have hA:DataW.TrodAll enc Tryz.prog W 0 (fun _=>true) true Tryz.f3.params.toList args.toList ds p:=hA0;rw[Tryz.params3] at hA hval;obtain⟨v0,vs0,d0,ds0,p0,q0,hargs,rfl,rfl,h0,r0⟩:=trodAll_cons hA;obtain⟨v1,vs1,d1,ds1,p1,q1,rfl,rfl,rfl,h1,r1⟩:=trodAll_cons r0;obtain⟨rfl,rfl,rfl⟩:=trodAll_nil r1;obtain rfl:args=#[v0,v1]:=by cases args;simp_all
 obtain⟨rfl,rfl⟩:=trodVars_none hV;have hmin:IntKind.i64.min=-9223372036854775808:=rfl;have hmax:IntKind.i64.max=9223372036854775807:=rfl;obtain⟨A0,len0,cap0,rfl⟩:=okWide_slice Tryz.underlying22 (hval 0 22 v0 rfl rfl);obtain⟨n1,rfl,rfl,rfl,z1⟩:=open_int Tryz.underlying3 (hval 1 3 v1 rfl rfl) h1;have hz1:=z1;simp only[Lit.wf,zC,decide_eq_true_eq] at hz1;rw[hmin,hmax] at hz1;have h0k:=h0;have hlt0:∀ x∈p0,x.block<W.heap.size:=fun x hx=>hW'.lt x (by simp[hx])
 have fit:Fit (DataW.weightsEach Tryz.prog [22,3] [d0,.lit (.int .i64 n1)]):=fun x hx=>by
  have:=List.all_eq_true.1 hsz x (by rw[Tryz.params3];simpa using hx);simpa using this
 simp only[DataW.weightsEach,List.append_nil] at fit;have fit0:=fit.left;obtain⟨fuel0,t0⟩:=h0;obtain⟨An0,cn0,l0,e0,hs0⟩:=qEe t0 fit0;simp only[Value.cells,zD,and_true,zC1] at e0;obtain⟨rfl,rfl,rfl⟩:=e0;clear hA0 fit hsz;simp only[List.append_nil] at hW';obtain⟨pe,T,hE,hVr,hT⟩:=errs hL hS;have walk:=qO8 W pe T hE hVr hT A0 cap0 l0 (by have:=hs0.2.2.1;have:=hs0.2.2.2;omega) hs0.1 n1 hz1.1 hz1.2;refine walk.mono fun e W' ⟨he,hb⟩=>?_
 subst he;exact⟨_,rfl,_,_,_,[],_,[],hW',trodAll_mk1 (shut_bool Tryz.underlying4 _),trodAll_cons_mk (Below.trod qN2 (by kernel_rfl) (of_decide_eq_true (by kernel_rfl)) h0k hb hlt0) (trodAll_cons_mk (shut_int Tryz.underlying3 z1) trodAll_mk0),rfl,hb.frame _,fun h=>by cases h⟩
def qMW:Array Value:=#[.slice none 0 0,.int .i64 0]
noncomputable def qGc (os:Os):World :=
 let w0:=World.holding Tryz.prog os ⟨#[],#[],[]⟩
 { w0 with heap:=w0.heap.modify 13 fun
   | .cells _ t frozen=>.cells #[.iface 161 (.agg #[.pointer (some ⟨27,27,none⟩)])] t frozen
   | o=>o }
noncomputable def wP (os:Os):World:=(qGc os).layVars Tryz.prog (Rows.scriptAnewRow.laid.filter fun x=>x.2.handleName?.isNone)
theorem qFr (os:Os):(wP os).os=os:=World.layVars_os _ _ _
theorem qJz (os:Os):laidMet Tryz.prog (Rows.scriptAnewRow.laid.filter fun x=>x.2.handleName?.isNone) (wP os):=by
 generalize hd:(Rows.scriptAnewRow.laid.filter fun x=>x.2.handleName?.isNone)=data;have hw:wP os=(qGc os).layVars Tryz.prog data:=by rw[← hd];rfl
 have e1:(data.filter fun x=>(data.map (·.1)).contains x.1)=data:=List.filter_eq_self.2 fun x hx=>List.contains_iff_mem.2 (zb.2 ⟨x,hx,rfl⟩)
 have e2:(data.filter fun x=>!(data.map (·.1)).contains x.1)=[]:=List.filter_eq_nil_iff.2 fun x hx=>by rw[List.contains_iff_mem.2 (zb.2 ⟨x,hx,rfl⟩)];simp
 exact laidMet_layVars (w0:=qGc os) (data.map (·.1)) [] (by rw[e1,hw]) (by rw[e1,← hd];kernel_rfl) (by rw[e1,← hd];kernel_rfl) (by rw[e2];exact LaidIn.none)
theorem qL3 (os:Os):laidMetH Tryz.prog Rows.scriptAnewRow.laid ((wP os).forCall (fun _ _=>0) ⟨#[],qMW,[]⟩).memory :=
 laidMetH_of_parts ((qJz os).of_heap (by simp[World.memory,World.forCall,Input.heap])) (by kernel_rfl)
theorem reads (os:Os){H:Type}(enc:TypeId×Value→H):∃ ds places,DataW.whole enc Tryz.prog ((wP os).forCall (fun _ _=>0) ⟨#[],qMW,[]⟩).memory Tryz.f3.params.toList Rows.scriptAnewSpec.vars false qMW.toList 8=some (ds,[],places) :=
 ⟨[.nil,.lit (.int .i64 0)],[],by kernel_rfl⟩
theorem lifted (os:Os)(started:os.Started)(H:Type)(enc:TypeId×Value→H)(F:Stop.Interp) :
  ReturnsInHanded {} Tryz.checked os 3 .any ((OpenSpec.ofChange Rows.scriptAnewSpec).preRow enc Tryz.prog Tryz.f3 Rows.scriptAnewRow.domain false Rows.scriptAnewRow.laid) (((OpenSpec.ofChange Rows.scriptAnewSpec).at F).post enc Tryz.prog Tryz.f3 false true false false):=by
 obtain⟨ds,places,hx⟩:=reads os enc;refine returnsInHanded_of_row (C:=Tryz.checked) (s:=OpenSpec.ofChange Rows.scriptAnewSpec) own started (by kernel_rfl) Tryz.func3
  (witness_row_atRef (enc:=enc) (C:=Tryz.checked) false (wP os) qMW (qFr os) (by kernel_rfl) (by kernel_rfl) (by kernel_rfl)
   (OpenSpec.preRow_of_cond 8 hx (by rfl) (fun k hk=>by cases hk) (by kernel_rfl) (qL3 os))) ?_
 intro W base args ds gs before hval hW _ _ hsz hL hS _;exact qLo H enc W base args ds gs before hval hW hsz hL hS
theorem said:Rows.ScriptAnewSaid :=
 OpenClaim.holds_of_cond 3 Tryz.f3 rfl rfl rfl rfl rfl rfl rfl ⟨rfl,rfl,rfl,rfl,rfl⟩ rfl rfl rfl rfl rfl s1 Tryz.func3 s2
  s3 s4
  (fun os started H enc _ F=>by rw[OpenClaim.pre_eq_preRow];exact lifted os started H enc F)
theorem plain (f:FuncId)(fn:Func)(hf:Tryz.pinned.checked.prog.funcNamed "stillroom/stillroomlaw4.ScriptAnew"=some f)(hfn:Tryz.pinned.checked.prog.funcs[f]?=some fn) :
  true=Tryz.pinned.checked.prog.looks []∧∀ (j:Nat) t,fn.params[j]?=some t→Tryz.pinned.checked.prog.wantsStandIn t=false:=by
 obtain rfl:f=3:=Option.some.inj ((show Tryz.prog.funcNamed "stillroom/stillroomlaw4.ScriptAnew"=some 3 by kernel_rfl).symm.trans hf) |>.symm
 obtain rfl:fn=Tryz.f3:=(Option.some.inj (Tryz.func3.symm.trans hfn)).symm;refine⟨by kernel_rfl,fun j t ht=>?_⟩;rw[Tryz.params3] at ht;have hm:t=22∨t=3:=by
  have:=Array.mem_of_getElem? ht;simpa using this
 rcases hm with rfl | rfl
 ·exact(show Tryz.prog.wantsStandIn 22=false by kernel_rfl)
 ·exact(show Tryz.prog.wantsStandIn 3=false by kernel_rfl)
theorem card:Rows.ScriptAnewCardSaid :=
 Claim7.holds_tied_plain_at .later [] _ _ _ _ said (fun _ h=>by cases h) (by kernel_rfl) (fun _ h=>by cases h) scriptAnew_row_tie rfl ⟨rfl,rfl⟩ (by kernel_rfl) rfl plain (by kernel_rfl)
end Anew
end Go.Proofs.YtbmkaekimccdgaaGreatDoor
