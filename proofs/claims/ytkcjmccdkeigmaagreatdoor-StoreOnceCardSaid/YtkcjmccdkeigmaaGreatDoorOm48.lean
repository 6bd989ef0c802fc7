/- Texts of this claim, merged: OnceLaw, OnceFacts, OnceFact2. -/
import Derived.Carry
import Derived.Deep.DeepHandedRow
import Derived.Lay
import Derived.ProofKit
import Derived.Test.YtkcjmccdkeigmaaGreatDoorCards
import Derived.Test.YtkcjmccdkeigmaaGreatDoorOm46
import Derived.Test.YtkcjmccdkeigmaaGreatDoorOm47
set_option maxHeartbeats 16000000
set_option maxRecDepth 1000000
set_option linter.all false
namespace Go.Proofs.YtkcjmccdkeigmaaGreatDoor
open Go.RowKit Go.Sort Go.Shelf Stl
theorem PtAt.packs {w:World} {c:Nat→Col} {A:Option Addr} {ys:List PX} {m:List (Pk×Nd)} (h:PtAt w c A ys m):PacksAt w A ys :=
 ⟨fun hn=>by
  obtain ⟨g,ha,hg,_,hj⟩:=h.row hn
  exact ⟨g,0,ha,hg,fun j u hu=>by rw [zv];exact hj j u hu⟩,
  fun y hy=>⟨(h.refs y hy).1,(h.refs y hy).2.strs y.cap⟩⟩
theorem qIl {α β:Type} (F:α→Except Nat β):∀ (l:List α) (m:List (α×β)),l.mapM (fun p=>(F p).map fun n=>(p,n))=.ok m→m.map (·.1)=l
 | [],m,h=>by cases h;rfl
 | x::r,m,h=>by
  rw [List.mapM_cons] at h
  cases hx:F x with
  | error e=>rw [hx] at h;cases h
  | ok y =>
   rw [hx] at h
   cases hr:r.mapM (fun p=>(F p).map fun n=>(p,n)) with
   | error e=>rw [hr] at h;cases h
   | ok m' =>
    rw [hr] at h
    cases h
    rw [zV,qIl F r m' hr]
def qIL (r:Except Nat (List UInt8)):List UInt8:=match r with | .ok x=>x | .error _=>[]
def qRf (p:Nat→Addr) (w:World) (c:Nat→Col) (b tp:Nat) (s:Sto) (t:Stl.Tape) (line:List UInt8) (ev:Ending) (w':World):Prop :=
 ∃ c2,ev=.returned (.tuple #[.string ⟨(qIL (qAi s t line).1).toArray⟩,qAM p (codeOf (qAi s t line).1)])∧Ext w w' c c2 Sdo∧StAt w' c2 b tp p (qAi s t line).2.1 (qAi s t line).2.2
theorem qMY {w:World} {c:Nat→Col} {b tp:Nat} {p:Nat→Addr} {s:Sto} {t:Stl.Tape} (h:StAt w c b tp p s t) {i:Nat} (hr:qB7 i s t) (hi:i≤300) (line:List UInt8) (hl:line.length≤250) :
  Calls Tryz.prog 8 #[.pointer (some ⟨b,0,none⟩),.string ⟨line.toArray⟩] w (qRf p w c b tp s t line):=by
 refine (qIr h hr hi line hl).mono ?_
 rintro ev w' ⟨a,er,c2,rfl,he,hs,hm⟩
 refine ⟨c2,?_,he,hs⟩
 cases hd:(qAi s t line).1 with
 | error e =>
  rw [hd] at hm
  obtain ⟨rfl,_,rfl⟩:=hm
  rfl
 | ok x =>
  rw [hd] at hm
  obtain ⟨rfl,rfl⟩:=hm
  rfl
theorem qQX {w:World} {c:Nat→Col} {b tp:Nat} {p:Nat→Addr} {s t:Sto} {tt:Stl.Tape} (h:StAt w c b tp p t tt) (ha:Stl.Alike s t) {j:Nat} (hr:qB7 j t tt) (hj:j≤300) :
  Calls Tryz.prog 8 #[.pointer (some ⟨b,0,none⟩),.string ⟨#[111,112,116]⟩] w fun ev w'=>∃ (a:ByteArray) (c2:Nat→Col) (t':Sto) (tt':Stl.Tape),ev=.returned (.tuple #[.string a,.nilIface])∧Ext w w' c c2 Sdo∧StAt w' c2 b tp p t' tt'∧Stl.Alike s t'∧qB7 (j+1) t' tt':=by
 obtain ⟨a,h1,h2⟩:=qOC ha hr hj
 refine (qMY h hr hj [111,112,116] (by decide)).mono ?_
 rintro ev w' ⟨c2,rfl,he,hs⟩
 rw [h1]
 exact ⟨_,c2,_,_,rfl,he,hs,h2,qDl hr hj (by decide)⟩
theorem qO1 {i j:Nat} {s t:Sto} {ts tt:Stl.Tape} (h:Stl.Alike s t) (hr:qB7 i s ts) (hr2:qB7 j t tt) (hi:i≤300) (hj:j≤300) {line:List UInt8} (hl:line.length≤250) (hp:qBN line) :
  codeOf (qAi s ts line).1=8∨codeOf (qAi t tt line).1=8∨(codeOf (qAi t tt line).1=codeOf (qAi s ts line).1∧qIL (qAi t tt line).1=qIL (qAi s ts line).1∧Stl.Alike (qAi s ts line).2.1 (qAi t tt line).2.1):=by
 rcases qNb h hr hr2 hi hj hl hp with h1 | h1 | ⟨h1,h2⟩
 ·rw [h1];exact .inl rfl
 ·rw [h1];exact .inr (.inl rfl)
 ·rw [h1];exact .inr (.inr ⟨rfl,rfl,h2⟩)
structure OnSt (w wr:World) (c d:Nat→Col) (b tp b2 tp2:Nat) (p:Nat→Addr) (i:Nat) (s t:Sto) (ts tt:Stl.Tape):Prop where
 mem:TwoAt w wr c d b tp b2 tp2 p s t ts tt
 alike:Stl.Alike s t
 one:qB7 i s ts
 two:qB7 (2*i) t tt
theorem qNc {i j:Nat} {s:Sto} {t:Stl.Tape} (h:qB7 i s t) (hj:i≤j):qB7 j s t :=
 ⟨h.sto,h.disk,by have:=h.inos;have:=Nat.mul_le_mul_left 200 hj;omega,by have:=h.next;omega,by have:=h.ents;omega,h.off,h.cut,by have:=h.len;have:=Nat.mul_le_mul_left 300 hj;omega⟩
theorem qHU (w:World) (p:Nat→Addr) (hE:Errs w p) (hV:LibVars w) (v:Value) (l:List (List UInt8)) (hl:l.length≤9223372036854775806) (hs:Strs w v l) (at_:Int) (ha1:-9223372036854775808≤at_) (ha2:at_≤9223372036854775807) :
  Calls Tryz.prog 3 #[v,.int .i64 at_] w fun e w'=>e=.returned (.bool true)∧Below w.heap.size w w':=by
 obtain ⟨A,cl,rfl,hst⟩:=hs
 have HKP:=Hh (qOJ w p hE hV)
 have HS0:=Hh (show Strs w (.slice A l.length cl) l from ⟨A,cl,rfl,hst⟩)
 have HEN:=Hh (show Env w (fun _=>Col.ro) p from ⟨w,hE,hV,zB _ _,fun _ _=>rfl⟩)
 have HEE:=Hh hE
 clear hE hV hst
 go_enter Tryz.func3,Tryz.ntmps3
 go_upto_region 2 with (go_at_call 4;refine HKP.out.mono ?_;rintro ev w1 ⟨rfl,hb1⟩;have HB1:=Hh hb1;clear hb1)
 have HLL:=Hh (qHA (.slice A l.length cl) l 30 (by decide) hl w1 (HS0.out.later HB1.out))
 have HLI:Hid (qLc l 30=if qKs l 30 then 1 else 0):=Hh rfl
 cases hll:qKs l 30 with
 | true =>
  rw [hll] at HLI
  have h1:qLc l 30=1:=HLI.out
  rw [h1] at HLL
  clear hll h1 HLI
  go_wp2_with (go_at_call 5;refine HLL.out.mono ?_;rintro ev wz ⟨rfl,hwz⟩;have hwz:=hwz.symm;subst hwz)
  go_ret
  exact ⟨rfl,HB1.out⟩
 | false =>
  rw [hll] at HLI
  have h1:qLc l 30=0:=HLI.out
  rw [h1] at HLL
  have hlq:l.length≤30∧∀ x∈l,x.length≤250:=by
   unfold qKs at hll
   rw [Bool.or_eq_false_iff] at hll
   refine ⟨by have:=hll.1;simp at this;omega,fun x hx=>?_⟩
   have h2:=List.any_eq_false.1 hll.2 x hx
   simp at h2
   omega
  have hl30:=hlq.1
  have HL250:=Hh hlq.2
  clear hll h1 HLI hlq
  by_cases hneg:at_<0
  ·go_wp2_with (go_at_call 5;refine HLL.out.mono ?_;rintro ev wz ⟨rfl,hwz⟩;have hwz:=hwz.symm;subst hwz)
   go_ret
   exact ⟨rfl,HB1.out⟩
  have hat0:0≤at_:=by omega
  have HNW:=Hh (qFJ 500 (by decide) (by decide) w1 (fun _=>.ro))
  have HNX:=Hh (fun (W:World) (c:Nat→Col)=>qFJ 500 (by decide) (by decide) W c)
  go_upto_region 4 with (go_at_call 5;refine HLL.out.mono ?_;rintro ev wz ⟨rfl,hwz⟩;have hwz:=hwz.symm;subst hwz)
  go_upto_region 5 with (go_at_call 6;refine HNW.out.mono ?_;rintro ev w2 ⟨b,tp,c2,rfl,_,he2,hs2,ht2⟩;have HE2:=Hh he2;have HS2:=Hh hs2;have HT2:=Hh ht2;clear he2 hs2 ht2)
  go_upto_region 9 with (go_at_call 6;refine (HNX.out w2 (qA1 w1 (fun _=>.ro))).mono ?_;rintro ev w3 ⟨b2,tp2,d3,rfl,_,he3,hs3,ht3⟩;have HE3:=Hh he3;have HS3:=Hh hs3;have HT3:=Hh ht3;clear he3 hs3 ht3)
  have HM0:=Hh (show TwoAt w w3 (qA1 w2 c2) d3 b tp b2 tp2 p (Sto.new 500) (Sto.new 500) ⟨[],false,none⟩ ⟨[],false,none⟩ from by
   have hb1:=HB1.out
   have hb2:Below w1.heap.size w1 w2:=HE2.out.below (zo _) (fun _ _=>rfl)
   have hb3:Below w2.heap.size w2 w3:=HE3.out.below (zo _) (fun _ _=>rfl)
   have hlow:∀ k,k<w.heap.size→k<w1.heap.size∧k<w2.heap.size:=fun k hk=>⟨zt hk hb1.size,zt hk (zq hb1.size hb2.size)⟩
   have ec:Ext w2 w3 c2 (qA1 w2 c2) S0:=(Ext.of_below hb3 c2 S0).recolor fun _ hk _=>zL1 hk
   have ed:Ext w w3 (fun _=>.ro) d3 S0:=by
    refine ⟨?_,?_,?_,?_,fun k hk _=>⟨((hb1.trans (hb2.mono hb1.size)).trans (hb3.mono (zq hb1.size hb2.size))).block k hk,?_⟩⟩
    ·exact ((hb1.trans (hb2.mono hb1.size)).trans (hb3.mono (zq hb1.size hb2.size))).os
    ·exact ((hb1.trans (hb2.mono hb1.size)).trans (hb3.mono (zq hb1.size hb2.size))).tape
    ·exact ((hb1.trans (hb2.mono hb1.size)).trans (hb3.mono (zq hb1.size hb2.size))).output
    ·exact ((hb1.trans (hb2.mono hb1.size)).trans (hb3.mono (zq hb1.size hb2.size))).size
    ·rw [(HE3.out.keep k (hlow k hk).2 rfl).2]
     exact zL1 (hlow k hk).1
   refine ⟨(hb1.trans (hb2.mono hb1.size)).trans (hb3.mono (zq hb1.size hb2.size)),fun k hk=>⟨?_,?_⟩,⟨fun k _ hn=>?_,fun k _ hn=>?_⟩,⟨HS2.out.ext ec rfl (fun _ _=>rfl),HT2.out.ext ec rfl rfl,(HEN.out.below hb1).ext (HE2.out.trans ec) rfl⟩,⟨HS3.out,HT3.out,HEN.out.ext ed rfl⟩⟩
   ·rw [show qA1 w2 c2 k=c2 k from zL1 (hlow k hk).2]
    exact (HE2.out.keep k (hlow k hk).1 rfl).2
   ·rw [(HE3.out.keep k (hlow k hk).2 rfl).2]
    exact zL1 (hlow k hk).1
   ·by_cases hk:k<w2.heap.size
    ·rw [show qA1 w2 c2 k=c2 k from zL1 hk]
     by_cases hk1:k<w1.heap.size
     ·exact .inl (HE2.out.keep k hk1 rfl).2
     ·rw [(HE3.out.keep k hk rfl).2] at hn
      exact absurd (zK1 hk1) hn
    ·exact .inr (zK1 hk)
   ·by_cases hk:k<w2.heap.size
    ·rw [(HE3.out.keep k hk rfl).2]
     by_cases hk1:k<w1.heap.size
     ·exact .inl (zL1 hk1)
     ·exact .inr (zK1 hk1)
    ·exact absurd (zK1 hk) hn)
  clear HE2 HS2 HT2 HE3 HS3 HT3 HNW HNX HLL HKP
  go_loopw [10] (fun a wr=>∃ (i:Nat) (c d:Nat→Col) (s t:Sto) (ts tt:Stl.Tape),a=.int .i64 i∧i≤l.length∧Hid (OnSt w wr c d b tp b2 tp2 p i s t ts tt)) (fun a _=>l.length-(intOf a).toNat)
  case atStart=>exact ⟨0,_,_,_,_,_,_,rfl,zw _,Hh ⟨HM0.out,qM1 500,qFC (by decide),qFC (by decide)⟩⟩
  case round =>
   obtain ⟨i,c,d,s,t,ts,tt,rfl,hi,HS⟩:=hrel
   by_cases hil:i<l.length
   ·have i1:(i:Int)<(l.length:Int):=by omega
    have i2:(0:Int)≤(i:Int):=by omega
    obtain ⟨g,off,hA,hgl,q00⟩:=HS0.out.cellAt hil
    subst hA
    have q0:=(HS.out.mem.base.cell (p:=⟨g,off+i,none⟩) hgl).trans q00
    have HQ0:=Hh q00
    clear q00
    have hlen:=HL250.out _ (zO hil)
    generalize l[i]=line at *
    have HRC:=Hh (qOP line 32 (by omega) wr)
    go_upto_region 12 with (go_at_call 7;refine HRC.out.mono ?_;rintro ev w4 ⟨A3,cp3,lw,rfl,hlw1,hlw2,hfst,hr3,hb3⟩;have HR3:=Hh hr3;have HB3:=Hh hb3;have HFS:=Hh hfst;clear hr3 hb3 hfst)
    have HM4:=Hh (HS.out.mem.below HB3.out)
    have hap:∃ g3,A3=some ⟨g3,0,none⟩:=by
     rcases HR3.out.2 with ⟨_,h0⟩ | ⟨g,cp,cur,e,_,h6,_⟩
     ·omega
     ·injection e with e _ _;exact ⟨g,e⟩
    obtain ⟨g3,rfl⟩:=hap
    have r0:w4.cell? ⟨g3,0,none⟩=some (.string ⟨(line.takeWhile fun c=>c != 32).toArray⟩):=by
     rw [HR3.out.cellAt 0 (by omega),zN,HFS.out]
     rfl
    have n1:(0:Int)<(lw.length:Int):=by omega
    have q3:w4.cell? ⟨g,off+i,none⟩=some (.string ⟨line.toArray⟩):=(HM4.out.base.cell (p:=⟨g,off+i,none⟩) hgl).trans HQ0.out
    clear q0
    have HUP:=Hh (show OnSt w w4 (qA1 wr c) (qA1 wr d) b tp b2 tp2 p (i+1) s t ts tt from ⟨HM4.out,HS.out.alike,qNc HS.out.one (by omega),qNc HS.out.two (by omega)⟩)
    have HPF:=Hh (fun h=>qNZ (line:=line) h)
    generalize (line.takeWhile fun c=>c != 32)=fw at *
    cases h1:fw==[114,111,116] with
    | true =>
     go_wp2
     go_roundw
     case rel=>exact ⟨i+1,_,_,s,t,ts,tt,by go_num,hil,HUP⟩
     case measure=>simp [intOf];omega
    | false =>
    cases h2:fw==[109,101,110,100] with
    | true =>
     go_wp2
     go_roundw
     case rel=>exact ⟨i+1,_,_,s,t,ts,tt,by go_num,hil,HUP⟩
     case measure=>simp [intOf];omega
    | false =>
    cases h3:fw==[102,114,101,101] with
    | true =>
     go_wp2
     go_roundw
     case rel=>exact ⟨i+1,_,_,s,t,ts,tt,by go_num,hil,HUP⟩
     case measure=>simp [intOf];omega
    | false =>
    cases h4:fw==[115,97,118,101,100] with
    | true =>
     go_wp2
     go_roundw
     case rel=>exact ⟨i+1,_,_,s,t,ts,tt,by go_num,hil,HUP⟩
     case measure=>simp [intOf];omega
    | false =>
    cases h5:fw==[119,104,101,114,101] with
    | true =>
     go_wp2
     go_roundw
     case rel=>exact ⟨i+1,_,_,s,t,ts,tt,by go_num,hil,HUP⟩
     case measure=>simp [intOf];omega
    | false =>
    cases h6:fw==[111,112,116] with
    | true =>
     go_wp2
     go_roundw
     case rel=>exact ⟨i+1,_,_,s,t,ts,tt,by go_num,hil,HUP⟩
     case measure=>simp [intOf];omega
    | false =>
    have HPL:=Hh (HPF.out fun w hw=>by
     simp only [zY,List.not_mem_nil,or_false] at hw
     rintro rfl
     rcases hw with rfl | rfl | rfl | rfl | rfl | rfl
     ·exact absurd h1 (by decide)
     ·exact absurd h2 (by decide)
     ·exact absurd h3 (by decide)
     ·exact absurd h4 (by decide)
     ·exact absurd h5 (by decide)
     ·exact absurd h6 (by decide))
    have HCT:=Hh (fun (s:Sto) (t:Stl.Tape) (line:List UInt8)=>(qK6 (qLE s t line):codeOf (qAi s t line).1≤13))
    go_upto_region 13 with fail
    clear HPF HR3 HFS h1 h2 h3 h4 h5 h6 r0 HUP
    clear q3
    go_cut [109] (fun v wx=>∃ bb:Bool,v=.bool bb∧wx=w4)
    case first =>
     have hd0:¬ wrap64 (at_+1)=0:=by
      unfold wrap64
      omega
     go_wp2_with fail
     go_meet
     case rel=>exact ⟨_,rfl,rfl⟩
    case rest =>
     obtain ⟨bb,rfl,rfl⟩:=hcut
     go_upto_if 109 with fail
     go_cut [12,13] (fun _ _ wx=>∃ (c' d':Nat→Col) (t':Sto) (tt':Stl.Tape),Hid (TwoAt w wx c' d' b tp b2 tp2 p s t' ts tt'∧Stl.Alike s t'∧qB7 (2*i+1) t' tt'))
     case first =>
      cases bb
      case false =>
       go_wp2_with fail
       go_meet
       case rel=>exact ⟨_,_,t,tt,Hh ⟨HM4.out,HS.out.alike,qNc HS.out.two (by omega)⟩⟩
      case true =>
       have HDO:=Hh (qQX HM4.out.two HS.out.alike HS.out.two (by omega))
       go_wp2_with (go_at_call 8;refine HDO.out.mono ?_;rintro ev w5 ⟨a5,c5,t5,tt5,rfl,he5,hs5,hal5,hr5⟩;have HX5:=Hh (show TwoAt w w5 _ c5 b tp b2 tp2 p s t5 ts tt5∧Stl.Alike s t5∧qB7 (2*i+1) t5 tt5 from ⟨HM4.out.right he5 hs5,hal5,hr5⟩);clear he5 hs5 hal5 hr5)
       go_meet
       case rel=>exact ⟨_,_,_,_,HX5⟩
     case rest =>
      obtain ⟨c1,d1,t1,tt1,HX⟩:=hcut
      have HOL:=Hh (qO1 HX.out.2.1 HS.out.one HX.out.2.2 (by omega) (by omega) hlen HPL.out)
      have HC1:=HCT.out s ts line
      have HC2:=HCT.out t1 tt1 line
      have HRA:=Hh (qDl HS.out.one (by omega) hlen)
      have HRB:=Hh (qDl HX.out.2.2 (by omega) hlen)
      have HD1:=Hh (qMY HX.out.1.one HS.out.one (by omega) line hlen)
      have HD2:=Hh (fun (W:World) (c9 d9:Nat→Col) (s9:Sto) (ts9:Stl.Tape) (h:TwoAt w W c9 d9 b tp b2 tp2 p s9 t1 ts9 tt1)=>qMY h.two HX.out.2.2 (by omega) line hlen)
      unfold qRf at HD1 HD2
      generalize qAi s ts line=q1 at *
      generalize qAi t1 tt1 line=q2 at *
      have qx:=(HX.out.1.base.cell (p:=⟨g,off+i,none⟩) hgl).trans HQ0.out
      clear HCT HM4 HM0
      generalize qIL q1.1=x1 at *
      generalize qIL q2.1=x2 at *
      generalize codeOf q1.1=C1 at *
      generalize codeOf q2.1=C2 at *
      go_upto_region 18 with (go_at_call 8;refine HD1.out.mono ?_;rintro ev w5 ⟨c5,rfl,he5,hs5⟩;have HM5:=Hh (HX.out.1.left he5 hs5);clear he5 hs5)
      have qy:=(HM5.out.base.cell (p:=⟨g,off+i,none⟩) hgl).trans HQ0.out
      clear qx
      go_upto_region 19 with (go_at_call 8;refine (HD2.out _ _ _ _ _ HM5.out).mono ?_;rintro ev w6 ⟨d6,rfl,he6,hs6⟩;have HM6:=Hh (HM5.out.right he6 hs6);clear he6 hs6)
      clear qy
      have HK1:=Hh (qKN p C1 HC1 w6 (HEE.out.later HM6.out.base))
      go_upto_region 20 with (go_at_call 9;refine HK1.out.mono ?_;rintro ev w7 ⟨rfl,hb7⟩;have HB7:=Hh hb7;clear hb7)
      have HM7:=Hh (HM6.out.below HB7.out)
      have HK2:=Hh (qKN p C2 HC2 w7 (HEE.out.later HM7.out.base))
      go_upto_region 21 with (go_at_call 9;refine HK2.out.mono ?_;rintro ev w8 ⟨rfl,hb8⟩;have HB8:=Hh hb8;clear hb8)
      have HM8:=Hh (HM7.out.below HB8.out)
      clear HD1 HD2 HK1 HK2
      have HF1:=Hh HC1
      have HF2:=Hh HC2
      clear HC1 HC2
      by_cases e1:C1=8
      ·subst e1
       go_wp2
       go_ret
       exact ⟨rfl,HM8.out.base⟩
      have e1':((C1:Int)==8)=false:=by rw [zF1];omega
      by_cases e2:C2=8
      ·subst e2
       have E1:=Hh e1
       clear e1
       go_wp2
       go_ret
       exact ⟨rfl,HM8.out.base⟩
      have HAL:Hid (C2=C1∧x2=x1∧Stl.Alike q1.2.1 q2.2.1):=Hh (by
       rcases HOL.out with h | h | h
       ·exact absurd h e1
       ·exact absurd h e2
       ·exact h)
      obtain ⟨rfl,rfl,_⟩:=HAL.out
      have HAK:=Hh HAL.out.2.2
      clear HAL HOL e1 e2
      go_wp2
      go_roundw
      case rel=>exact ⟨i+1,_,_,q1.2.1,q2.2.1,q1.2.2,q2.2.2,by go_num,hil,Hh ⟨HM8.out,HAK.out,HRA.out,by have:=HRB.out;rwa [show 2*i+1+1=2*(i+1) by omega] at this⟩⟩
      case measure=>simp [intOf];omega
   ·have i1:¬ (i:Int)<(l.length:Int):=by omega
    obtain rfl:i=l.length:=by omega
    have hso:=HS.out.one.sto
    obtain ⟨m,hm⟩:=qJQ hso HS.out.alike.cs
    have HM:=Hh (show m.map (·.1)=s.l from qIl (fun q:Pk=>s.d.get q.k) s.l m hm)
    have hm2:t.packs=.ok m:=(qJ6 HS.out.alike).trans hm
    have HGA:=Hh (qHG HS.out.one (by omega))
    have HGB:=Hh (qHG HS.out.two (by omega))
    obtain ⟨xbd,xA,xcap,xzs,xR,xrc,hx⟩:=HS.out.mem.one.sto.open
    have HP1:=Hh (qI3 hx HGA.out HS.out.mem.one.env)
    rw [hm] at HP1
    have HSO:=Hh hso
    clear hx hm hso
    go_upto_region 26 with (go_at_call 10;refine HP1.out.mono ?_;rintro ev wa ⟨v1,er1,rfl,hba,rfl,A1,ys1,cp1,rfl,hcp1,hpt1⟩;have HBA:=Hh hba;have HPT1:=Hh hpt1;clear hba hpt1)
    have HMA:=Hh (HS.out.mem.below HBA.out)
    obtain ⟨ybd,yA,ycap,yzs,yR,yrc,hy⟩:=HMA.out.two.sto.open
    have HP2:=Hh (qI3 hy HGB.out HMA.out.two.env)
    rw [hm2] at HP2
    clear hy hm2
    go_upto_region 27 with (go_at_call 10;refine HP2.out.mono ?_;rintro ev wb ⟨v2,er2,rfl,hbb,rfl,A2,ys2,cp2,rfl,hcp2,hpt2⟩;have HBB:=Hh hbb;have HPT2:=Hh hpt2;clear hbb hpt2)
    have HPT1b:=Hh (HPT1.out.ext (qM0 _ S0 HBB.out) rfl)
    have HWB:=Hh (HMA.out.base.trans (HBB.out.mono HMA.out.base.size))
    have hyl1:ys1.length=m.length:=by have:=congrArg List.length HPT1.out.eq;simpa using this
    have hyl2:ys2.length=m.length:=by have:=congrArg List.length HPT2.out.eq;simpa using this
    have hm40:m.length≤40:=by
     have h1:=congrArg List.length HM.out
     rw [zT] at h1
     have:=HSO.out.pks.many
     omega
    have HRF:=Hh (show ∀ q∈m,q.1.refs.length≤1000000 from fun q hq=>by
     have h1:q.1∈s.l:=by rw [← HM.out];exact ze hq
     have:=HSO.out.pks.few _ h1
     omega)
    have HPA1:=Hh HPT1b.out.packs
    have HPA2:=Hh HPT2.out.packs
    have HND:=Hh (show ∀ (j:Nat) y z q,ys1[j]?=some y→ys2[j]?=some z→m[j]?=some q→NodeAt wb q.2 y.node∧NodeAt wb q.2 z.node from fun j y z q h1 h2 h3=>⟨NodeP.at _ _ (HPT1b.out.node j y q h1 h3),NodeP.at _ _ (HPT2.out.node j z q h2 h3)⟩)
    have HEQ1:=Hh HPT1.out.eq
    have HEQ2:=Hh HPT2.out.eq
    clear HP1 HP2 HM
    go_upto_region 30 with fail
    go_loopw [24] (fun a wr=>∃ i:Nat,a=.int .i64 i∧i≤m.length∧Hid (Below wb.heap.size wb wr)) (fun a _=>m.length-(intOf a).toNat)
    case atStart=>exact ⟨0,rfl,zw _,Hh (zB _ _)⟩
    case round =>
     obtain ⟨i,rfl,hi,HB⟩:=hrel
     by_cases hil:i<m.length
     ·have i1:(i:Int)<(m.length:Int):=by omega
      have i2:(0:Int)≤(i:Int):=by omega
      have hy1:i<ys1.length:=by omega
      have hz1:i<ys2.length:=by omega
      obtain ⟨g1,o1,hA1,hg1,p0,p1,p2,p3,p4,p5⟩:=(HPA1.out.later HB.out).at hy1
      obtain ⟨g2,o2,hA2,hg2,r0,r1,r2,r3,r4,r5⟩:=(HPA2.out.later HB.out).at hz1
      subst hA1 hA2
      have hmi:m[i]?=some m[i]:=zL hil
      have hyi:ys1[i]?=some ys1[i]:=zL hy1
      have hzi:ys2[i]?=some ys2[i]:=zL hz1
      have hnm:ys1[i].p=m[i].1:=by
       have h1:=congrArg (fun l:List Pk=>l[i]?) HEQ1.out
       simp only [zN,hmi,hyi,zz,zA1] at h1
       exact h1
      have hnz:ys2[i].p=m[i].1:=by
       have h1:=congrArg (fun l:List Pk=>l[i]?) HEQ2.out
       simp only [zN,hmi,hzi,zz,zA1] at h1
       exact h1
      have hrf:=HRF.out m[i] (zO hil)
      have hst1:=(HPA1.out.refs ys1[i] (zO hy1)).2
      have hst2:=(HPA2.out.refs ys2[i] (zO hz1)).2
      have HNN:=Hh (HND.out i _ _ _ hyi hzi hmi)
      rw [hnm] at p0 p1 hst1
      rw [hnz] at r0 r1 hst2
      clear hnm hnz hmi hyi hzi
      generalize ys1[i]=y at *
      generalize ys2[i]=z at *
      generalize m[i]=q at *
      have HST:=Hh (fun (W:World) (hb:Below wb.heap.size wb W)=>(show Calls Tryz.prog 12 #[.slice y.a q.1.refs.length y.cap,.slice z.a q.1.refs.length z.cap] W fun e w'=>e=.returned (.bool true)∧Below W.heap.size W w' from by
       have h1:=qHF _ _ q.1.refs q.1.refs hrf hrf W (hst1.later hb) (hst2.later hb)
       rwa [decide_eq_true rfl] at h1))
      clear hst1 hst2
      have HSM:=Hh (show Calls Tryz.prog 11 #[.agg #[.string y.t0,.string y.t1,.bool y.t2,.slice y.t3 y.t4 y.t5],.agg #[.string z.t0,.string z.t1,.bool z.t2,.slice z.t3 z.t4 z.t5]] wr.drew (fun e w'=>e=.returned (.bool true)∧Below wr.drew.heap.size wr.drew w') from by
       have h1:=qKV wb _ q.2 q.2 (zo _) y.node z.node wr.drew (HB.out.trans (((zB wr.heap.size wr).drew).mono HB.out.size)) HNN.out.1 HNN.out.2
       rwa [(qIT q.2 q.2).2 rfl] at h1)
      have HDRW:=Hh (zB wr.heap.size wr).drew
      have hs10:(fun w':World=>w'.cell? ⟨g1,o1+i*6,none⟩=some (.string ⟨q.1.name.toArray⟩)∧w'.cell? ⟨g1,o1+i*6+1,none⟩=some (.slice y.a q.1.refs.length y.cap)∧w'.cell? ⟨g1,o1+i*6+2,none⟩=some (.string y.t0)∧w'.cell? ⟨g1,o1+i*6+2+1,none⟩=some (.string y.t1)∧w'.cell? ⟨g1,o1+i*6+2+2,none⟩=some (.bool y.t2)∧w'.cell? ⟨g1,o1+i*6+2+3,none⟩=some (.slice y.t3 y.t4 y.t5)∧w'.cell? ⟨g2,o2+i*6,none⟩=some (.string ⟨q.1.name.toArray⟩)∧w'.cell? ⟨g2,o2+i*6+1,none⟩=some (.slice z.a q.1.refs.length z.cap)∧w'.cell? ⟨g2,o2+i*6+2,none⟩=some (.string z.t0)∧w'.cell? ⟨g2,o2+i*6+2+1,none⟩=some (.string z.t1)∧w'.cell? ⟨g2,o2+i*6+2+2,none⟩=some (.bool z.t2)∧w'.cell? ⟨g2,o2+i*6+2+3,none⟩=some (.slice z.t3 z.t4 z.t5)) wr:=⟨p0,p1,p2,p3,p4,p5,r0,r1,r2,r3,r4,r5⟩
      have HL1:=Hh hg1
      have HL2:=Hh hg2
      go_upto_region 32 with fail
      go_region_held3 (fun w'=>w'.cell? ⟨g1,o1+i*6,none⟩=some (.string ⟨q.1.name.toArray⟩)∧w'.cell? ⟨g1,o1+i*6+1,none⟩=some (.slice y.a q.1.refs.length y.cap)∧w'.cell? ⟨g1,o1+i*6+2,none⟩=some (.string y.t0)∧w'.cell? ⟨g1,o1+i*6+2+1,none⟩=some (.string y.t1)∧w'.cell? ⟨g1,o1+i*6+2+2,none⟩=some (.bool y.t2)∧w'.cell? ⟨g1,o1+i*6+2+3,none⟩=some (.slice y.t3 y.t4 y.t5)∧w'.cell? ⟨g2,o2+i*6,none⟩=some (.string ⟨q.1.name.toArray⟩)∧w'.cell? ⟨g2,o2+i*6+1,none⟩=some (.slice z.a q.1.refs.length z.cap)∧w'.cell? ⟨g2,o2+i*6+2,none⟩=some (.string z.t0)∧w'.cell? ⟨g2,o2+i*6+2+1,none⟩=some (.string z.t1)∧w'.cell? ⟨g2,o2+i*6+2+2,none⟩=some (.bool z.t2)∧w'.cell? ⟨g2,o2+i*6+2+3,none⟩=some (.slice z.t3 z.t4 z.t5))
       (first
        | exact hs10
        | exact HS11.out
        | exact HS12.out
        | go_keep)
       (first
        | (go_at_call 11;refine HSM.out.mono ?_;rintro ev w6 ⟨rfl,hb6'⟩;have hb6:Below wr.heap.size wr w6:=HDRW.out.trans hb6';have HB6:=Hh (HB.out.trans (hb6.mono HB.out.size));have HS11:=Hh (show w6.cell? ⟨g1,o1+i*6,none⟩=some (.string ⟨q.1.name.toArray⟩)∧w6.cell? ⟨g1,o1+i*6+1,none⟩=some (.slice y.a q.1.refs.length y.cap)∧w6.cell? ⟨g1,o1+i*6+2,none⟩=some (.string y.t0)∧w6.cell? ⟨g1,o1+i*6+2+1,none⟩=some (.string y.t1)∧w6.cell? ⟨g1,o1+i*6+2+2,none⟩=some (.bool y.t2)∧w6.cell? ⟨g1,o1+i*6+2+3,none⟩=some (.slice y.t3 y.t4 y.t5)∧w6.cell? ⟨g2,o2+i*6,none⟩=some (.string ⟨q.1.name.toArray⟩)∧w6.cell? ⟨g2,o2+i*6+1,none⟩=some (.slice z.a q.1.refs.length z.cap)∧w6.cell? ⟨g2,o2+i*6+2,none⟩=some (.string z.t0)∧w6.cell? ⟨g2,o2+i*6+2+1,none⟩=some (.string z.t1)∧w6.cell? ⟨g2,o2+i*6+2+2,none⟩=some (.bool z.t2)∧w6.cell? ⟨g2,o2+i*6+2+3,none⟩=some (.slice z.t3 z.t4 z.t5) from ⟨(hb6.cell (p:=⟨g1,o1+i*6,none⟩) HL1.out).trans p0,(hb6.cell (p:=⟨g1,o1+i*6+1,none⟩) HL1.out).trans p1,(hb6.cell (p:=⟨g1,o1+i*6+2,none⟩) HL1.out).trans p2,(hb6.cell (p:=⟨g1,o1+i*6+2+1,none⟩) HL1.out).trans p3,(hb6.cell (p:=⟨g1,o1+i*6+2+2,none⟩) HL1.out).trans p4,(hb6.cell (p:=⟨g1,o1+i*6+2+3,none⟩) HL1.out).trans p5,(hb6.cell (p:=⟨g2,o2+i*6,none⟩) HL2.out).trans r0,(hb6.cell (p:=⟨g2,o2+i*6+1,none⟩) HL2.out).trans r1,(hb6.cell (p:=⟨g2,o2+i*6+2,none⟩) HL2.out).trans r2,(hb6.cell (p:=⟨g2,o2+i*6+2+1,none⟩) HL2.out).trans r3,(hb6.cell (p:=⟨g2,o2+i*6+2+2,none⟩) HL2.out).trans r4,(hb6.cell (p:=⟨g2,o2+i*6+2+3,none⟩) HL2.out).trans r5⟩);have HBW:=Hh hb6;clear hb6 hb6')
        | (go_at_call 12;refine (HST.out _ HB6.out).mono ?_;rintro ev w7 ⟨rfl,hb7'⟩;have hb7:Below wr.heap.size wr w7:=HBW.out.trans (hb7'.mono HBW.out.size);have HB7:=Hh (HB.out.trans (hb7.mono HB.out.size));have HS12:=Hh (show w7.cell? ⟨g1,o1+i*6,none⟩=some (.string ⟨q.1.name.toArray⟩)∧w7.cell? ⟨g1,o1+i*6+1,none⟩=some (.slice y.a q.1.refs.length y.cap)∧w7.cell? ⟨g1,o1+i*6+2,none⟩=some (.string y.t0)∧w7.cell? ⟨g1,o1+i*6+2+1,none⟩=some (.string y.t1)∧w7.cell? ⟨g1,o1+i*6+2+2,none⟩=some (.bool y.t2)∧w7.cell? ⟨g1,o1+i*6+2+3,none⟩=some (.slice y.t3 y.t4 y.t5)∧w7.cell? ⟨g2,o2+i*6,none⟩=some (.string ⟨q.1.name.toArray⟩)∧w7.cell? ⟨g2,o2+i*6+1,none⟩=some (.slice z.a q.1.refs.length z.cap)∧w7.cell? ⟨g2,o2+i*6+2,none⟩=some (.string z.t0)∧w7.cell? ⟨g2,o2+i*6+2+1,none⟩=some (.string z.t1)∧w7.cell? ⟨g2,o2+i*6+2+2,none⟩=some (.bool z.t2)∧w7.cell? ⟨g2,o2+i*6+2+3,none⟩=some (.slice z.t3 z.t4 z.t5) from ⟨(hb7.cell (p:=⟨g1,o1+i*6,none⟩) HL1.out).trans p0,(hb7.cell (p:=⟨g1,o1+i*6+1,none⟩) HL1.out).trans p1,(hb7.cell (p:=⟨g1,o1+i*6+2,none⟩) HL1.out).trans p2,(hb7.cell (p:=⟨g1,o1+i*6+2+1,none⟩) HL1.out).trans p3,(hb7.cell (p:=⟨g1,o1+i*6+2+2,none⟩) HL1.out).trans p4,(hb7.cell (p:=⟨g1,o1+i*6+2+3,none⟩) HL1.out).trans p5,(hb7.cell (p:=⟨g2,o2+i*6,none⟩) HL2.out).trans r0,(hb7.cell (p:=⟨g2,o2+i*6+1,none⟩) HL2.out).trans r1,(hb7.cell (p:=⟨g2,o2+i*6+2,none⟩) HL2.out).trans r2,(hb7.cell (p:=⟨g2,o2+i*6+2+1,none⟩) HL2.out).trans r3,(hb7.cell (p:=⟨g2,o2+i*6+2+2,none⟩) HL2.out).trans r4,(hb7.cell (p:=⟨g2,o2+i*6+2+3,none⟩) HL2.out).trans r5⟩);clear hb7 hb7')
        | fail)
      go_wp2
      go_roundw
      case rel=>exact ⟨i+1,by go_num,hil,HB7⟩
      case measure=>simp [intOf];omega
     ·have i1:¬ (i:Int)<(m.length:Int):=by omega
      go_wp2
      go_ret
      exact ⟨rfl,HWB.out.trans (HB.out.mono HWB.out.size)⟩
end Go.Proofs.YtkcjmccdkeigmaaGreatDoor
namespace Go.Proofs.YtkcjmccdkeigmaaGreatDoor
namespace Once
theorem s1:Tryz.pinned.checked.prog.funcNamed Rows.storeOnceRow.func=some 3:=by kernel_rfl
theorem s3:Tryz.f3.isInstance Tryz.pinned.checked.prog Rows.storeOnceRow.origin Rows.storeOnceRow.targs:=of_decide_eq_true (by kernel_rfl)
theorem s4:Tryz.f3.isWrapper Tryz.pinned.checked.prog Rows.storeOnceRow.wrapper Rows.storeOnceRow.mainSum:=by unfold Func.isWrapper;first | (rw [zL1 (by decide +kernel)];kernel_rfl) | (rw [zK1 (by decide +kernel)];exact ⟨rfl,rfl⟩)
theorem j0:(Rows.storeOnceRow.wf (OpenSpec.ofChange (OpenSpec.ofChange Rows.storeOnceSpec).bare))=true:=by kernel_rfl
theorem j1:(laidOutB Tryz.pinned.checked.prog)=true:=by kernel_rfl
theorem j2:(mapsRowed Tryz.pinned.checked.prog)=true:=by kernel_rfl
theorem j3:(Tryz.f3.params.all (Tryz.pinned.checked.prog.readableRec ·))=true:=by kernel_rfl
theorem j4:(namedTie Tryz.pinned.checked.prog Rows.storeOnceRow.named (OpenSpec.ofChange Rows.storeOnceSpec).bare.vars)=true:=by kernel_rfl
theorem j5:((Rows.storeOnceRow.stops==[]))=true:=by kernel_rfl
theorem j6:((Tryz.pinned.checked.prog.stops==[]))=true:=by kernel_rfl
theorem j7:((Rows.storeOnceRow.knobs==[]))=true:=by kernel_rfl
theorem j8:((Tryz.pinned.checked.prog.stopKnobs==[]))=true:=by kernel_rfl
theorem j9:((Rows.storeOnceRow.inPlace==Tryz.pinned.checked.prog.inPlace 3))=true:=by kernel_rfl
theorem j10:((Rows.storeOnceRow.unfollowed==Tryz.pinned.checked.prog.unfollowed 3))=true:=by kernel_rfl
theorem j11:((Rows.storeOnceRow.recurses==Tryz.pinned.checked.prog.recurses 3))=true:=by kernel_rfl
theorem j12:((Rows.storeOnceRow.named==Tryz.pinned.checked.prog.varsNamed 3))=true:=by kernel_rfl
theorem j13:((Rows.storeOnceRow.maps==(Tryz.f3.params.toList++(OpenSpec.ofChange Rows.storeOnceSpec).bare.plain.varTypes Tryz.pinned.checked.prog).any (Tryz.pinned.checked.prog.mapsRec ·)))=true:=by kernel_rfl
theorem j14:((Rows.storeOnceRow.ifaces==(Tryz.f3.params.toList++(OpenSpec.ofChange Rows.storeOnceSpec).bare.plain.varTypes Tryz.pinned.checked.prog).any (Tryz.pinned.checked.prog.ifacesRec ·)))=true:=by kernel_rfl
theorem j15:((Rows.storeOnceRow.mapsOut==Tryz.pinned.checked.prog.mapsAmong Tryz.f3.resultTypes.toList))=true:=by kernel_rfl
theorem j16:((Rows.storeOnceRow.loops==(Tryz.f3.params.toList++(OpenSpec.ofChange Rows.storeOnceSpec).bare.plain.varTypes Tryz.pinned.checked.prog).any (Tryz.pinned.checked.prog.loopsFrom ·)))=true:=by kernel_rfl
theorem j17:((Rows.storeOnceRow.wideKeys==(Tryz.f3.params.toList++(OpenSpec.ofChange Rows.storeOnceSpec).bare.plain.varTypes Tryz.pinned.checked.prog++Tryz.f3.resultTypes.toList).any (Tryz.pinned.checked.prog.wideKeysFrom ·)))=true:=by kernel_rfl
theorem j18:((OpenSpec.ofChange Rows.storeOnceSpec).bare.vars.all (Tryz.pinned.checked.prog.varReadable ·))=true:=by kernel_rfl
theorem j19:(Tryz.f3.resultTypes.all (fun t=>Tryz.pinned.checked.prog.readableRec t&&decide (t<Tryz.pinned.checked.prog.types.size)))=true:=by kernel_rfl
theorem j20:((Rows.storeOnceRow.ifacesOut==Tryz.f3.resultTypes.toList.any (Tryz.pinned.checked.prog.ifacesRec ·)))=true:=by kernel_rfl
theorem j21:((Rows.storeOnceRow.loopsOut==Tryz.f3.resultTypes.toList.any (Tryz.pinned.checked.prog.loopsFrom ·)))=true:=by kernel_rfl
theorem j22:((Rows.storeOnceRow.plainKeys==Tryz.pinned.checked.prog.plainKeys))=true:=by kernel_rfl
theorem j23:(Rows.storeOnceRow.shortTexts.isNone)=true:=by kernel_rfl
theorem j24:(Tryz.pinned.checked.prog.stopsHeard)=true:=by kernel_rfl
theorem j25:(Tryz.pinned.checked.prog.mayEnter)=true:=by kernel_rfl
theorem j26:((Rows.storeOnceRow.lifted==Tryz.pinned.checked.prog.liftsFinal))=true:=by kernel_rfl
theorem j27:((Tryz.pinned.checked.prog.make==some Rows.storeOnceRow.make))=true:=by kernel_rfl
theorem j28:((Rows.storeOnceRow.kinds==(if Rows.storeOnceRow.domain.isEmpty then [] else Tryz.f3.params.toList.map fun t=>match Tryz.pinned.checked.prog.underlying t with | some (.int k)=>some k | _=>none)))=true:=by kernel_rfl
theorem j29:((Rows.storeOnceRow.pinned==Rows.storeOnceRow.pinnedBy))=true:=by kernel_rfl
theorem j30:((Rows.storeOnceRow.veiled==(Tryz.f3.params.toList++(OpenSpec.ofChange Rows.storeOnceSpec).bare.plain.varTypes Tryz.pinned.checked.prog++Tryz.f3.resultTypes.toList).any (Tryz.pinned.checked.prog.veiledRec ·)))=true:=by kernel_rfl
theorem j31:(Rows.storeOnceRow.veiledFits Tryz.pinned.checked.prog Tryz.f3.params.toList (Tryz.f3.params.toList++(OpenSpec.ofChange Rows.storeOnceSpec).bare.plain.varTypes Tryz.pinned.checked.prog++Tryz.f3.resultTypes.toList))=true:=by kernel_rfl
end Once
namespace Once
theorem qAR {a b:Bool} (h1:a=true) (h2:b=true):(a&&b)=true:=by rw [h1,h2];rfl
theorem qMF (P:Program) (f:FuncId) (fn:Func) (s:ChangeSpec) (c:OpenClaim) (h0:(c.wf (OpenSpec.ofChange s))=true) (h1:(laidOutB P)=true) (h2:(mapsRowed P)=true) (h3:(fn.params.all (P.readableRec ·))=true) (h4:(namedTie P c.named s.vars)=true) (h5:((c.stops==[]))=true) (h6:((P.stops==[]))=true) (h7:((c.knobs==[]))=true) (h8:((P.stopKnobs==[]))=true) (h9:((c.inPlace==P.inPlace f))=true) (h10:((c.unfollowed==P.unfollowed f))=true) (h11:((c.recurses==P.recurses f))=true) (h12:((c.named==P.varsNamed f))=true) (h13:((c.maps==(fn.params.toList++s.plain.varTypes P).any (P.mapsRec ·)))=true) (h14:((c.ifaces==(fn.params.toList++s.plain.varTypes P).any (P.ifacesRec ·)))=true) (h15:((c.mapsOut==P.mapsAmong fn.resultTypes.toList))=true) (h16:((c.loops==(fn.params.toList++s.plain.varTypes P).any (P.loopsFrom ·)))=true) (h17:((c.wideKeys==(fn.params.toList++s.plain.varTypes P++fn.resultTypes.toList).any (P.wideKeysFrom ·)))=true) (h18:(s.vars.all (P.varReadable ·))=true) (h19:(fn.resultTypes.all (fun t=>P.readableRec t&&decide (t<P.types.size)))=true) (h20:((c.ifacesOut==fn.resultTypes.toList.any (P.ifacesRec ·)))=true) (h21:((c.loopsOut==fn.resultTypes.toList.any (P.loopsFrom ·)))=true) (h22:((c.plainKeys==P.plainKeys))=true) (h23:(c.shortTexts.isNone)=true) (h24:(P.stopsHeard)=true) (h25:(P.mayEnter)=true) (h26:((c.lifted==P.liftsFinal))=true) (h27:((P.make==some c.make))=true) (h28:((c.kinds==(if c.domain.isEmpty then [] else fn.params.toList.map fun t=>match P.underlying t with | some (.int k)=>some k | _=>none)))=true) (h29:((c.pinned==c.pinnedBy))=true) (h30:((c.veiled==(fn.params.toList++s.plain.varTypes P++fn.resultTypes.toList).any (P.veiledRec ·)))=true) (h31:(c.veiledFits P fn.params.toList (fn.params.toList++s.plain.varTypes P++fn.resultTypes.toList))=true):joinedFacts P f fn s c=true:=by
 unfold joinedFacts
 exact (qAR (qAR (qAR (qAR (qAR (qAR (qAR (qAR (qAR (qAR (qAR (qAR (qAR (qAR (qAR (qAR (qAR (qAR (qAR (qAR (qAR (qAR (qAR (qAR (qAR (qAR (qAR (qAR (qAR (qAR (qAR h0 h1) h2) h3) h4) h5) h6) h7) h8) h9) h10) h11) h12) h13) h14) h15) h16) h17) h18) h19) h20) h21) h22) h23) h24) h25) h26) h27) h28) h29) h30) h31)
theorem s2:joinedFacts Tryz.pinned.checked.prog 3 Tryz.f3 (OpenSpec.ofChange Rows.storeOnceSpec).bare Rows.storeOnceRow=true :=
 qMF Tryz.pinned.checked.prog 3 Tryz.f3 (OpenSpec.ofChange Rows.storeOnceSpec).bare Rows.storeOnceRow j0 j1 j2 j3 j4 j5 j6 j7 j8 j9 j10 j11 j12 j13 j14 j15 j16 j17 j18 j19 j20 j21 j22 j23 j24 j25 j26 j27 j28 j29 j30 j31
end Once
end Go.Proofs.YtkcjmccdkeigmaaGreatDoor
