/- Texts of this claim, merged: KeepsLaw, KeepsFacts, KeepsFact2. -/
import Derived.Carry
import Derived.Deep.DeepHandedRow
import Derived.Lay
import Derived.ProofKit
import Derived.Test.YtceklhjomhjipaaGreatDoorCards
import Derived.Test.YtceklhjomhjipaaGreatDoorKm49
set_option maxHeartbeats 16000000
set_option maxRecDepth 1000000
set_option linter.all false
namespace Go.Proofs.YtceklhjomhjipaaGreatDoor
open Go.RowKit Go.Sort Go.Shelf Stl
def qNB (r:Except Nat (List UInt8)):List UInt8:=match r with | .ok x=>x | .error _=>[]
def qQt (p:Nat→Addr) (w:World) (c:Nat→Col) (b tp:Nat) (s:Sto) (t:Stl.Tape) (line:List UInt8) (ev:Ending) (w':World):Prop :=
 ∃ c2,ev=.returned (.tuple #[.string ⟨(qNB (qAh s t line).1).toArray⟩,qAB p (codeOf (qAh s t line).1)])∧Ext w w' c c2 Sdo∧StAt w' c2 b tp p (qAh s t line).2.1 (qAh s t line).2.2
theorem qKo {w:World} {c:Nat→Col} {b tp:Nat} {p:Nat→Addr} {s:Sto} {t:Stl.Tape} (h:StAt w c b tp p s t) (hg:qAS s) (h1:t.b.length≤1048576) (h2:∀ n,t.cut=some n→n≤9223372036854775807) (line:List UInt8) (hl:line.length≤250) :
  Calls Tryz.prog 10 #[.pointer (some ⟨b,0,none⟩),.string ⟨line.toArray⟩] w (qQt p w c b tp s t line):=by
 obtain ⟨bd,A,cap,zs,R,rc,hx⟩:=h.sto.open
 refine (qQW hx h.tape hg h.env line (by omega) h1 h2).mono ?_
 rintro ev w' ⟨a,er,c2,rfl,he,hs,ht,hm⟩
 refine ⟨c2,?_,he,hs,ht,h.env.ext he rfl⟩
 cases hd:(qAh s t line).1 with
 | error e =>
  rw [hd] at hm
  obtain ⟨rfl,_,rfl⟩:=hm
  rfl
 | ok x =>
  rw [hd] at hm
  obtain ⟨rfl,rfl⟩:=hm
  rfl
theorem qGb (p:Nat→Addr) (r:Except Nat (List UInt8)):(codeOf r=0∧qAB p (codeOf r)=.nilIface)∨(codeOf r≠0∧qAB p (codeOf r)=.iface 377 (.pointer (some (p (codeOf r))))):=by
 by_cases h:codeOf r=0
 ·exact .inl ⟨h,by rw [h];rfl⟩
 ·exact .inr ⟨h,qAc p h⟩
theorem qQ8 {i j:Nat} {s:Sto} {t:Stl.Tape} (h:RunOk i s t) (hj:i≤j):RunOk j s t :=
 ⟨h.sto,h.disk,by have:=h.inos;have:=Nat.mul_le_mul_left 200 hj;omega,by have:=h.next;omega,by have:=h.ents;omega,h.off,h.cut,by have:=h.len;have:=Nat.mul_le_mul_left 300 hj;omega⟩
structure KpSt (w wr:World) (c d:Nat→Col) (b tp b2 tp2:Nat) (p:Nat→Addr) (i:Nat) (s:Sto) (rs:List (List UInt8)) (ts tw:Stl.Tape):Prop where
 mem:TwoAt w wr c d b tp b2 tp2 p s s ts tw
 keep:Keep 40 i s rs
 run:RunOk i s tw
 on:ts.off=false
 cut:∀ n,ts.cut=some n→n≤9223372036854775807
 one:ts.b=qCS rs
 two:tw=⟨qCS rs,false,none⟩
structure qQu (w wr:World) (c d:Nat→Col) (b tp b2 tp2:Nat) (p:Nat→Addr) (i:Nat) (s:Sto) (rs:List (List UInt8)) (ts:Stl.Tape):Prop where
 mem:TwoAt w wr c d b tp b2 tp2 p s s ts ⟨qCS rs,false,none⟩
 keep:Keep 40 i s rs
 run:RunOk i s ⟨qCS rs,false,none⟩
 one:∃ x,ts.b=qCS rs++x∧qA0 x=none
 len:ts.b.length≤1048576
theorem StAt.cutAt {w w2:World} {c:Nat→Col} {b tp:Nat} {p:Nat→Addr} {s:Sto} {t t':Stl.Tape} (h:StAt w c b tp p s t) (e:Ext w w2 c c qAY) (ht:TapeAt w2 c tp t'):StAt w2 c b tp p s t' :=
 ⟨h.sto.ext e rfl (fun x hx=>by cases x<;>first | rfl | (cases hx)),ht,h.env.ext e rfl⟩
theorem qFB {w:World} {c:Nat→Col} {b tp:Nat} {s:Sto} (h:StoAt w c b s tp):Calls Tryz.prog 7 #[.pointer (some ⟨b,0,none⟩)] w fun e w'=>e=.returned (.pointer (some ⟨tp,0,none⟩))∧w'=w:=by
 obtain ⟨xbd,xA,xcap,xzs,xR,xrc,hx⟩:=h.open
 have c3:=ce3 hx.own
 clear hx h
 go_enter Tryz.func7,Tryz.ntmps7
 go_wp2
 go_ret
 exact ⟨rfl,rfl⟩
theorem qPj {w w1 w2 w3:World} {c2 d3:Nat→Col} {b tp b2 tp2:Nat} {p:Nat→Addr} {s:Sto} {t:Stl.Tape} (hb1:Below w.heap.size w w1) (hen:Env w (fun _=>.ro) p) (he2:Ext w1 w2 (fun _=>.ro) c2 S0) (hs2:StoAt w2 c2 b s tp) (ht2:TapeAt w2 c2 tp t) (he3:Ext w2 w3 (qAG w1 (fun _=>.ro)) d3 S0) (hs3:StoAt w3 d3 b2 s tp2) (ht3:TapeAt w3 d3 tp2 t) :
  TwoAt w w3 (qAG w2 c2) d3 b tp b2 tp2 p s s t t:=by
 have hb2:Below w1.heap.size w1 w2:=he2.below (zq _) (fun _ _=>rfl)
 have hb3:Below w2.heap.size w2 w3:=he3.below (zq _) (fun _ _=>rfl)
 have hlow:∀ k,k<w.heap.size→k<w1.heap.size∧k<w2.heap.size:=fun k hk=>⟨zu hk hb1.size,zu hk (zr hb1.size hb2.size)⟩
 have ec:Ext w2 w3 c2 (qAG w2 c2) S0:=(Ext.of_below hb3 c2 S0).recolor fun _ hk _=>zM1 hk
 have ed:Ext w w3 (fun _=>.ro) d3 S0:=by
  refine ⟨?_,?_,?_,?_,fun k hk _=>⟨((hb1.trans (hb2.mono hb1.size)).trans (hb3.mono (zr hb1.size hb2.size))).block k hk,?_⟩⟩
  ·exact ((hb1.trans (hb2.mono hb1.size)).trans (hb3.mono (zr hb1.size hb2.size))).os
  ·exact ((hb1.trans (hb2.mono hb1.size)).trans (hb3.mono (zr hb1.size hb2.size))).tape
  ·exact ((hb1.trans (hb2.mono hb1.size)).trans (hb3.mono (zr hb1.size hb2.size))).output
  ·exact ((hb1.trans (hb2.mono hb1.size)).trans (hb3.mono (zr hb1.size hb2.size))).size
  ·rw [(he3.keep k (hlow k hk).2 rfl).2]
   exact zM1 (hlow k hk).1
 refine ⟨(hb1.trans (hb2.mono hb1.size)).trans (hb3.mono (zr hb1.size hb2.size)),fun k hk=>⟨?_,?_⟩,⟨fun k _ hn=>?_,fun k _ hn=>?_⟩,⟨hs2.ext ec rfl (fun _ _=>rfl),ht2.ext ec rfl rfl,(hen.below hb1).ext (he2.trans ec) rfl⟩,⟨hs3,ht3,hen.ext ed rfl⟩⟩
 ·rw [show qAG w2 c2 k=c2 k from zM1 (hlow k hk).2]
  exact (he2.keep k (hlow k hk).1 rfl).2
 ·rw [(he3.keep k (hlow k hk).2 rfl).2]
  exact zM1 (hlow k hk).1
 ·by_cases hk:k<w2.heap.size
  ·rw [show qAG w2 c2 k=c2 k from zM1 hk]
   by_cases hk1:k<w1.heap.size
   ·exact .inl (he2.keep k hk1 rfl).2
   ·rw [(he3.keep k hk rfl).2] at hn
    exact absurd (zL1 hk1) hn
  ·exact .inr (zL1 hk)
 ·by_cases hk:k<w2.heap.size
  ·rw [(he3.keep k hk rfl).2]
   by_cases hk1:k<w1.heap.size
   ·exact .inl (zM1 hk1)
   ·exact .inr (zL1 hk1)
  ·exact absurd (zL1 hk) hn
theorem qGE (w:World) (p:Nat→Addr) (hE:Errs w p) (hV:LibVars w) (v v2:Value) (l more:List (List UInt8)) (hl:l.length≤9223372036854775806) (hm:more.length≤9223372036854775806) (hs:Strs w v l) (hs2:Strs w v2 more) (cut:Int) (ha1:-9223372036854775808≤cut) (ha2:cut≤9223372036854775807) :
  Calls Tryz.prog 3 #[v,.int .i64 cut,v2] w fun e w'=>e=.returned (.bool true)∧Below w.heap.size w w':=by
 obtain ⟨A,cl,rfl,hst⟩:=hs
 obtain ⟨A',cl',rfl,hst'⟩:=hs2
 have HKP:=Hh (qPs w p hE hV)
 have HS0:=Hh (show Strs w (.slice A l.length cl) l from ⟨A,cl,rfl,hst⟩)
 have HS0':=Hh (show Strs w (.slice A' more.length cl') more from ⟨A',cl',rfl,hst'⟩)
 have HEN:=Hh (show Env w (fun _=>Col.ro) p from ⟨w,hE,hV,zB _ _,fun _ _=>rfl⟩)
 clear hE hV hst hst'
 go_enter Tryz.func3,Tryz.ntmps3
 go_upto_region 2 with (go_at_call 4;refine HKP.out.mono ?_;rintro ev w1 ⟨rfl,hb1⟩;have HB1:=Hh hb1;clear hb1)
 have HLL:=Hh (qEd (.slice A l.length cl) l 30 (by decide) hl w1 (HS0.out.later HB1.out))
 have HLM:=Hh (qEd (.slice A' more.length cl') more 10 (by decide) hm w1 (HS0'.out.later HB1.out))
 have HLI:Hid (qGF l 30=if qFS l 30 then 1 else 0):=Hh rfl
 have HLJ:Hid (qGF more 10=if qFS more 10 then 1 else 0):=Hh rfl
 cases hll:qFS l 30 with
 | true =>
  rw [hll] at HLI
  have h1:qGF l 30=1:=HLI.out
  rw [h1] at HLL
  clear hll h1 HLI HLJ HLM
  go_wp2_with (go_at_call 5;refine HLL.out.mono ?_;rintro ev wz ⟨rfl,hwz⟩;have hwz:=hwz.symm;subst hwz)
  go_ret
  exact ⟨rfl,HB1.out⟩
 | false =>
 cases hlm:qFS more 10 with
 | true =>
  rw [hll] at HLI
  rw [hlm] at HLJ
  have h1:qGF l 30=0:=HLI.out
  have h2:qGF more 10=1:=HLJ.out
  rw [h1] at HLL
  rw [h2] at HLM
  clear hll h1 HLI HLJ hlm h2
  go_wp2_with fail
  refine HLL.out.mono ?_
  rintro ev wz ⟨rfl,hwz⟩
  have hwz:=hwz.symm
  subst hwz
  go_wp2_with fail
  refine HLM.out.mono ?_
  rintro ev wz ⟨rfl,hwz⟩
  have hwz:=hwz.symm
  subst hwz
  go_wp2_with fail
  go_ret
  exact ⟨rfl,HB1.out⟩
 | false =>
  rw [hll] at HLI
  rw [hlm] at HLJ
  have h1:qGF l 30=0:=HLI.out
  have h2:qGF more 10=0:=HLJ.out
  rw [h1] at HLL
  rw [h2] at HLM
  have hlq:l.length≤30∧∀ x∈l,x.length≤250:=by
   unfold qFS at hll
   rw [Bool.or_eq_false_iff] at hll
   refine ⟨by have:=hll.1;simp at this;omega,fun x hx=>?_⟩
   have h2:=List.any_eq_false.1 hll.2 x hx
   simp at h2
   omega
  have hmq:more.length≤10∧∀ x∈more,x.length≤250:=by
   unfold qFS at hlm
   rw [Bool.or_eq_false_iff] at hlm
   refine ⟨by have:=hlm.1;simp at this;omega,fun x hx=>?_⟩
   have h2:=List.any_eq_false.1 hlm.2 x hx
   simp at h2
   omega
  have hl30:=hlq.1
  have hm10:=hmq.1
  have HL250:=Hh hlq.2
  have HM250:=Hh hmq.2
  clear hll h1 HLI hlq hlm h2 HLJ hmq
  by_cases hneg:cut<0
  ·go_wp2_with fail
   refine HLL.out.mono ?_
   rintro ev wz ⟨rfl,hwz⟩
   have hwz:=hwz.symm
   subst hwz
   go_wp2_with fail
   refine HLM.out.mono ?_
   rintro ev wz ⟨rfl,hwz⟩
   have hwz:=hwz.symm
   subst hwz
   go_wp2_with fail
   go_ret
   exact ⟨rfl,HB1.out⟩
  have hc0:0≤cut:=by omega
  obtain ⟨cn,rfl⟩:=Int.eq_ofNat_of_zero_le hc0
  have HNW:=Hh (qEr 40 (by decide) (by decide) w1 (fun _=>.ro))
  have HNX:=Hh (fun (W:World) (c:Nat→Col)=>qEr 40 (by decide) (by decide) W c)
  go_wp2_with fail
  refine HLL.out.mono ?_
  rintro ev wz ⟨rfl,hwz⟩
  have hwz:=hwz.symm
  subst hwz
  go_wp2_with fail
  refine HLM.out.mono ?_
  rintro ev wz ⟨rfl,hwz⟩
  have hwz:=hwz.symm
  subst hwz
  go_upto_region 4 with fail
  go_upto_region 5 with (go_at_call 6;refine HNW.out.mono ?_;rintro ev w2 ⟨b,tp,c2,rfl,_,he2,hs2,ht2⟩;have HE2:=Hh he2;have HS2:=Hh hs2;have HT2:=Hh ht2;clear he2 hs2 ht2)
  go_upto_region 6 with (go_at_call 6;refine (HNX.out w2 (qAG w1 (fun _=>.ro))).mono ?_;rintro ev w3 ⟨b2,tp2,d3,rfl,_,he3,hs3,ht3⟩;have HE3:=Hh he3;have HS3:=Hh hs3;have HT3:=Hh ht3;clear he3 hs3 ht3)
  have HM0:=Hh (qPj HB1.out HEN.out HE2.out HS2.out HT2.out HE3.out HS3.out HT3.out)
  clear HE2 HS2 HT2 HE3 HS3 HT3 HNW HNX HLL HLM HKP
  have HTP:=Hh (qFB HM0.out.one.sto)
  have HCT:=Hh (qI3 HM0.out.one.tape rfl cn (by omega))
  go_upto_region 8 with (first
   | (go_at_call 7;refine HTP.out.mono ?_;rintro ev wz ⟨rfl,hwz⟩;have hwz:=hwz.symm;subst hwz)
   | (go_at_call 8;refine HCT.out.mono ?_;rintro ev w4 ⟨rfl,he4,ht4⟩;have HM4:=Hh (HM0.out.left (he4.mono (S':=Sdo) (fun x hx=>by cases x<;>first | rfl | (cases hx))) (StAt.cutAt HM0.out.one he4 ht4));clear he4 ht4))
  clear HTP HCT HM0
  go_upto_block 0 with fail
  go_cut [12,13,14,15,16] (fun _ _ _ _ _ wx=>∃ (i:Nat) (c d:Nat→Col) (s:Sto) (rs:List (List UInt8)) (ts:Stl.Tape),i≤31∧Hid (qQu w wx c d b tp b2 tp2 p i s rs ts))
  case first =>
   go_upto_region 9 with fail
   go_loopw [12] (fun a wr=>∃ (i:Nat) (c d:Nat→Col) (s:Sto) (rs:List (List UInt8)) (ts tw:Stl.Tape),a=.int .i64 i∧i≤l.length∧Hid (KpSt w wr c d b tp b2 tp2 p i s rs ts tw)) (fun a _=>l.length-(intOf a).toNat)
   case atStart=>exact ⟨0,_,_,_,[],⟨[],false,some cn⟩,_,rfl,zx _,Hh ⟨HM4.out,qLT 40,qFR (by decide),rfl,(fun n hn=>by simp only [zB1] at hn;omega),rfl,rfl⟩⟩
   case round =>
    obtain ⟨i,c,d,s,rs,ts,tw,rfl,hi,HS⟩:=hrel
    by_cases hil:i<l.length
    ·have i1:(i:Int)<(l.length:Int):=by omega
     have i2:(0:Int)≤(i:Int):=by omega
     obtain ⟨g,off,hA,hgl,q00⟩:=HS0.out.cellAt hil
     subst hA
     have HQ0:=Hh q00
     have q0:=(HS.out.mem.base.cell (p:=⟨g,off+i,none⟩) hgl).trans q00
     clear q00
     have hlen:=HL250.out _ (zO hil)
     generalize l[i]=line at *
     have HTP:=Hh (qFB HS.out.mem.one.sto)
     have hpw:=qIx HS.out.mem.one.tape
     rw [HS.out.on] at hpw
     have HPW:=Hh hpw
     clear hpw
     have HRL:=Hh (show ts.b.length≤100000 from by rw [HS.out.one];have h1:=HS.out.run.len;rw [HS.out.two] at h1;simp only at h1;omega)
     have HDC:=Hh (qKo HS.out.mem.one (qCL HS.out.run (by omega)) (by have:=HRL.out;omega) HS.out.cut line hlen)
     have HDW:=Hh (fun (W:World) (c9 d9:Nat→Col) (s9:Sto) (ts9:Stl.Tape) (h:TwoAt w W c9 d9 b tp b2 tp2 p s9 s ts9 tw)=>qKo h.two (qCL HS.out.run (by omega)) (by have h1:=HS.out.run.len;omega) (fun n hn=>by rw [HS.out.run.cut] at hn;cases hn) line hlen)
     have HKC:=Hh (qPc HS.out.keep HS.out.run (by omega) HS.out.one (by rw [HS.out.two]) HS.out.on hlen)
     have HKO:=Hh (qPZ HS.out.keep HS.out.run (by omega) (by rw [HS.out.two]) hlen)
     have HRN:=Hh (qDv HS.out.run (by omega) hlen)
     have HCU:=Hh (qLu s ts line HS.out.cut)
     have HCL:=Hh (qLf s ts line hlen)
     unfold qQt at HDC HDW
     obtain ⟨qa,hqa⟩:∃ qa,qa=qAh s ts line:=⟨_,rfl⟩
     obtain ⟨qb,hqb⟩:∃ qb,qb=qAh s tw line:=⟨_,rfl⟩
     rw [← hqa] at HDC HKC HCU HCL
     rw [← hqb] at HDW HKC HKO HRN
     clear hqa hqb
     go_upto_region 12 with (first
      | (go_at_call 7;refine HTP.out.mono ?_;rintro ev wz ⟨rfl,hwz⟩;have hwz:=hwz.symm;subst hwz)
      | (go_at_call 9;refine HPW.out.mono ?_;rintro ev wz ⟨rfl,hwz⟩;have hwz:=hwz.symm;subst hwz)
      | (go_at_call 10;refine HDC.out.mono ?_;rintro ev w5 ⟨c5,rfl,he5,hs5⟩;have HM5:=Hh (HS.out.mem.left he5 hs5);clear he5 hs5))
     have HTP2:=Hh (qFB HM5.out.one.sto)
     have hpw2:=qIx HM5.out.one.tape
     clear HTP HPW HDC q0
     rcases HKC.out with ⟨k1,k2,k3,x,k4,k5⟩ | ⟨k1,k2,k3,k4⟩
     ·rw [k1] at hpw2
      have HPW2:=Hh hpw2
      rw [k2,show qAB p (codeOf (Except.error 13:Except Nat (List UInt8)))=.iface 377 (.pointer (some (p 13))) from qAc p (c:=13) (by decide)]
      have HEND:=Hh (show qQu w w5 _ _ b tp b2 tp2 p (i+1) s rs qa.2.2 from ⟨by have h:=HM5.out;rwa [k3,HS.out.two] at h,HS.out.keep.up,by have h:=qQ8 HS.out.run (Nat.le_succ i);rwa [HS.out.two] at h,⟨x,k4,k5⟩,by have:=HCL.out;have:=HRL.out;omega⟩)
      clear hpw2 k1 k2 k3 k4 k5 HKC
      go_wp2_with (first
       | (go_at_call 7;refine HTP2.out.mono ?_;rintro ev wz ⟨rfl,hwz⟩;have hwz:=hwz.symm;subst hwz)
       | (go_at_call 9;refine HPW2.out.mono ?_;rintro ev wz ⟨rfl,hwz⟩;have hwz:=hwz.symm;subst hwz))
      go_meet
      case rel=>exact ⟨i+1,_,_,s,rs,_,by omega,HEND⟩
     ·rw [k1] at hpw2
      have HPW2:=Hh hpw2
      have qy:=(HM5.out.base.cell (p:=⟨g,off+i,none⟩) hgl).trans HQ0.out
      have HDW2:=Hh (HDW.out _ _ _ _ _ HM5.out)
      have HK3:=Hh k3
      have HK4:=Hh k4
      have HK1:=Hh k1
      rw [k2]
      clear hpw2 k1 k2 k3 k4 HKC HDW
      obtain ⟨er,her⟩:∃ er,er=qAB p (codeOf qb.1):=⟨_,rfl⟩
      have hec:=qGb p qb.1
      rw [← her] at HDW2 hec ⊢
      clear her
      replace hec:er=.nilIface∨er=.iface 377 (.pointer (some (p (codeOf qb.1)))):=hec.imp And.right And.right
      generalize codeOf qb.1=cdq at hec
      generalize qNB qb.1=txt at *
      obtain ⟨rs',hk',htw'⟩:=HKO.out
      have HKN:=Hh hk'
      have HTW:=Hh htw'
      have HUP:=Hh (fun (W:World) (c9 d9:Nat→Col) (h:TwoAt w W c9 d9 b tp b2 tp2 p qa.2.1 qb.2.1 qa.2.2 qb.2.2)=>(show KpSt w W c9 d9 b tp b2 tp2 p (i+1) qb.2.1 rs' qa.2.2 qb.2.2 from ⟨by rwa [HK3.out] at h,HKN.out,HRN.out,HK1.out,HCU.out,by rw [HK4.out,HTW.out],HTW.out⟩))
      clear hk' htw'
      rcases hec with rfl | rfl
      ·go_upto_region 16 with (first
        | (go_at_call 7;refine HTP2.out.mono ?_;rintro ev wz ⟨rfl,hwz⟩;have hwz:=hwz.symm;subst hwz)
        | (go_at_call 9;refine HPW2.out.mono ?_;rintro ev wz ⟨rfl,hwz⟩;have hwz:=hwz.symm;subst hwz)
        | (go_at_call 10;refine HDW2.out.mono ?_;rintro ev w6 ⟨d6,rfl,he6,hs6⟩;have HM6:=Hh (HM5.out.right he6 hs6);clear he6 hs6))
       go_quiet (fail)
       go_wp2
       go_roundw
       case rel=>exact ⟨i+1,_,_,_,rs',_,_,by go_num,hil,Hh (HUP.out _ _ _ (HM6.out.below (Below.drewN (zB _ _) _)))⟩
       case measure=>simp [intOf];omega
      ·go_upto_region 16 with (first
        | (go_at_call 7;refine HTP2.out.mono ?_;rintro ev wz ⟨rfl,hwz⟩;have hwz:=hwz.symm;subst hwz)
        | (go_at_call 9;refine HPW2.out.mono ?_;rintro ev wz ⟨rfl,hwz⟩;have hwz:=hwz.symm;subst hwz)
        | (go_at_call 10;refine HDW2.out.mono ?_;rintro ev w6 ⟨d6,rfl,he6,hs6⟩;have HM6:=Hh (HM5.out.right he6 hs6);clear he6 hs6))
       go_quiet (fail)
       go_wp2
       go_roundw
       case rel=>exact ⟨i+1,_,_,_,rs',_,_,by go_num,hil,Hh (HUP.out _ _ _ (HM6.out.below (Below.drewN (zB _ _) _)))⟩
       case measure=>simp [intOf];omega
    ·have i1:¬ (i:Int)<(l.length:Int):=by omega
     have HEND:=Hh (show qQu w wr c d b tp b2 tp2 p i s rs ts from ⟨by have h:=HS.out.mem;rwa [HS.out.two] at h,HS.out.keep,by have h:=HS.out.run;rwa [HS.out.two] at h,⟨[],by rw [List.append_nil];exact HS.out.one,rfl⟩,by rw [HS.out.one];have h1:=HS.out.run.len;rw [HS.out.two] at h1;simp only at h1;omega⟩)
     go_wp2
     go_meet
     case rel=>exact ⟨i,_,_,s,rs,_,by omega,HEND⟩
  case rest =>
   obtain ⟨i,c,d,s,rs,ts,hi,HK⟩:=hcut
   have HTP:=Hh (qFB HK.out.mem.one.sto)
   obtain ⟨x,hx1,hx2⟩:=HK.out.one
   have HREC:=Hh (qIp hx1 HK.out.keep.short hx2)
   have HOP:=Hh (qOg HK.out.mem.one.tape HK.out.mem.one.env HK.out.len 40 (by decide) (by decide) HREC.out HK.out.keep.short (by have:=HK.out.keep.many;omega) HK.out.keep.again)
   go_upto_region 19 with (first
    | (go_at_call 7;(with_reducible refine HTP.out.mono ?_);rintro ev wz ⟨rfl,hwz⟩;have hwz:=hwz.symm;subst hwz)
    | (go_at_call 11;refine HOP.out.mono ?_;rintro ev w4 ⟨bx,c4,rfl,he4,hs4⟩;have HE4:=Hh he4;have HS4:=Hh hs4;clear he4 hs4))
   have hop:=HK.out.mem.apart.opened HE4.out
   have HSO:=Hh (HK.out.mem.one.sto.ext hop.2.2 rfl (fun x hx=>by cases x<;>first | rfl | (cases hx)))
   have HX4:=Hh (show TwoAt w w4 c4 (qAG wc d) bx tp b2 tp2 p s s ⟨qCS rs,false,none⟩ ⟨qCS rs,false,none⟩ from
    ⟨HK.out.mem.base.trans (HE4.out.below HK.out.mem.base.size (fun k hk=>by rw [show kDo c k=.ro from by unfold kDo;rw [zM1 (HK.out.mem.low k hk).1]];rfl)),
     fun k hk=>⟨HE4.out.col (zu hk HK.out.mem.base.size) (by unfold kDo;rw [zM1 (HK.out.mem.low k hk).1]) rfl,(zM1 (zu hk HK.out.mem.base.size)).trans (HK.out.mem.low k hk).2⟩,
     hop.1,HS4.out,HK.out.mem.two.dead hop.2.1⟩)
   have hgd:=qCL HK.out.run (by omega)
   have HGD:=Hh hgd
   have HSM1:=Hh (qDX (p:=p) HX4.out.one.sto HSO.out hgd HX4.out.one.env)
   have HSM2:=Hh (fun (W:World) (c9 d9:Nat→Col) (h:TwoAt w W c9 d9 bx tp b2 tp2 p s s ⟨qCS rs,false,none⟩ ⟨qCS rs,false,none⟩)=>qDX (p:=p) h.one.sto h.two.sto hgd h.one.env)
   clear hop hgd HTP HOP
   go_upto_region 21 with (first
    | (go_at_call 12;(with_reducible refine HSM1.out.mono ?_);rintro ev w5 ⟨rfl,hb5⟩;have HX5:=Hh (HX4.out.below hb5);clear hb5)
    | (go_at_call 12;(with_reducible refine (HSM2.out _ _ _ HX5.out).mono ?_);rintro ev w6 ⟨rfl,hb6⟩;have HX6:=Hh (HX5.out.below hb6);clear hb6))
   have HRS:=Hh HK.out.run
   clear HSM1 HSM2 HX4 HX5 HSO
   go_upto_region 22 with fail
   go_loopw [19] (fun a wr=>∃ (j:Nat) (c d:Nat→Col) (s:Sto) (t:Stl.Tape),a=.int .i64 j∧j≤more.length∧Hid (TwoAt w wr c d bx tp b2 tp2 p s s t t∧RunOk (i+j) s t)) (fun a _=>more.length-(intOf a).toNat)
   case atStart=>exact ⟨0,_,_,s,_,rfl,zx _,Hh ⟨HX6.out,HRS.out⟩⟩
   case round =>
    obtain ⟨j,c,d,s,t,rfl,hj,HS⟩:=hrel
    by_cases hjl:j<more.length
    ·have i1:(j:Int)<(more.length:Int):=by omega
     have i2:(0:Int)≤(j:Int):=by omega
     obtain ⟨g,off,hA,hgl,q00⟩:=HS0'.out.cellAt hjl
     subst hA
     have HQ0:=Hh q00
     have q0:=(HS.out.1.base.cell (p:=⟨g,off+j,none⟩) hgl).trans q00
     clear q00
     have hlen:=HM250.out _ (zO hjl)
     generalize more[j]=line at *
     have hgd:=qCL HS.out.2 (by omega)
     have hln:t.b.length≤1048576:=by have:=HS.out.2.len;omega
     have hct:∀ n,t.cut=some n→n≤9223372036854775807:=fun n hn=>by rw [HS.out.2.cut] at hn;cases hn
     have HD1:=Hh (qKo HS.out.1.one hgd hln hct line hlen)
     have HD2:=Hh (fun (W:World) (c9 d9:Nat→Col) (s9:Sto) (ts9:Stl.Tape) (h:TwoAt w W c9 d9 bx tp b2 tp2 p s9 s ts9 t)=>qKo h.two hgd hln hct line hlen)
     have HRN:=Hh (qDv HS.out.2 (by omega) hlen)
     unfold qQt at HD1 HD2
     generalize qAh s t line=q at *
     obtain ⟨er,her⟩:∃ er,er=qAB p (codeOf q.1):=⟨_,rfl⟩
     have hec:=qGb p q.1
     rw [← her] at HD1 HD2 hec
     clear her hgd hln hct
     replace hec:er=.nilIface∨er=.iface 377 (.pointer (some (p (codeOf q.1)))):=hec.imp And.right And.right
     generalize codeOf q.1=cdq at hec
     generalize qNB q.1=txt at *
     go_upto_region 25 with (go_at_call 10;(with_reducible refine HD1.out.mono ?_);rintro ev w7 ⟨c7,rfl,he7,hs7⟩;have HM7:=Hh (HS.out.1.left he7 hs7);clear he7 hs7)
     have qy:=(HM7.out.base.cell (p:=⟨g,off+j,none⟩) hgl).trans HQ0.out
     clear q0
     go_upto_region 26 with (go_at_call 10;(with_reducible refine (HD2.out _ _ _ _ _ HM7.out).mono ?_);rintro ev w8 ⟨d8,rfl,he8,hs8⟩;have HM8:=Hh (HM7.out.right he8 hs8);clear he8 hs8)
     clear qy HD1 HD2
     rcases hec with rfl | rfl
     ·go_quiet (fail)
      go_wp2
      go_roundw
      case rel=>exact ⟨j+1,_,_,q.2.1,q.2.2,by go_num,hjl,Hh ⟨HM8.out.below (Below.drewN (zB _ _) _),by have:=HRN.out;rwa [Nat.add_assoc] at this⟩⟩
      case measure=>simp [intOf];omega
     ·go_quiet (fail)
      go_wp2
      go_roundw
      case rel=>exact ⟨j+1,_,_,q.2.1,q.2.2,by go_num,hjl,Hh ⟨HM8.out.below (Below.drewN (zB _ _) _),by have:=HRN.out;rwa [Nat.add_assoc] at this⟩⟩
      case measure=>simp [intOf];omega
    ·have i1:¬ (j:Int)<(more.length:Int):=by omega
     have HSF:=Hh (qDX (p:=p) HS.out.1.one.sto HS.out.1.two.sto (qCL HS.out.2 (by omega)) HS.out.1.one.env)
     go_wp2_with (go_at_call 12;(with_reducible refine HSF.out.mono ?_);rintro ev w9 ⟨rfl,hb9⟩;have HB9:=Hh (HS.out.1.base.trans (hb9.mono HS.out.1.base.size));clear hb9)
     go_ret
     exact ⟨rfl,HB9.out⟩
end Go.Proofs.YtceklhjomhjipaaGreatDoor
namespace Go.Proofs.YtceklhjomhjipaaGreatDoor
namespace Keeps
theorem s1:Tryz.pinned.checked.prog.funcNamed Rows.storeKeepsRow.func=some 3:=by kernel_rfl
theorem s3:Tryz.f3.isInstance Tryz.pinned.checked.prog Rows.storeKeepsRow.origin Rows.storeKeepsRow.targs:=of_decide_eq_true (by kernel_rfl)
theorem s4:Tryz.f3.isWrapper Tryz.pinned.checked.prog Rows.storeKeepsRow.wrapper Rows.storeKeepsRow.mainSum:=by unfold Func.isWrapper;first | (rw [zM1 (by decide +kernel)];kernel_rfl) | (rw [zL1 (by decide +kernel)];exact ⟨rfl,rfl⟩)
theorem j0:(Rows.storeKeepsRow.wf (OpenSpec.ofChange (OpenSpec.ofChange Rows.storeKeepsSpec).bare))=true:=by kernel_rfl
theorem j1:(laidOutB Tryz.pinned.checked.prog)=true:=by kernel_rfl
theorem j2:(mapsRowed Tryz.pinned.checked.prog)=true:=by kernel_rfl
theorem j3:(Tryz.f3.params.all (Tryz.pinned.checked.prog.readableRec ·))=true:=by kernel_rfl
theorem j4:(namedTie Tryz.pinned.checked.prog Rows.storeKeepsRow.named (OpenSpec.ofChange Rows.storeKeepsSpec).bare.vars)=true:=by kernel_rfl
theorem j5:((Rows.storeKeepsRow.stops==[]))=true:=by kernel_rfl
theorem j6:((Tryz.pinned.checked.prog.stops==[]))=true:=by kernel_rfl
theorem j7:((Rows.storeKeepsRow.knobs==[]))=true:=by kernel_rfl
theorem j8:((Tryz.pinned.checked.prog.stopKnobs==[]))=true:=by kernel_rfl
theorem j9:((Rows.storeKeepsRow.inPlace==Tryz.pinned.checked.prog.inPlace 3))=true:=by kernel_rfl
theorem j10:((Rows.storeKeepsRow.unfollowed==Tryz.pinned.checked.prog.unfollowed 3))=true:=by kernel_rfl
theorem j11:((Rows.storeKeepsRow.recurses==Tryz.pinned.checked.prog.recurses 3))=true:=by kernel_rfl
theorem j12:((Rows.storeKeepsRow.named==Tryz.pinned.checked.prog.varsNamed 3))=true:=by kernel_rfl
theorem j13:((Rows.storeKeepsRow.maps==(Tryz.f3.params.toList++(OpenSpec.ofChange Rows.storeKeepsSpec).bare.plain.varTypes Tryz.pinned.checked.prog).any (Tryz.pinned.checked.prog.mapsRec ·)))=true:=by kernel_rfl
theorem j14:((Rows.storeKeepsRow.ifaces==(Tryz.f3.params.toList++(OpenSpec.ofChange Rows.storeKeepsSpec).bare.plain.varTypes Tryz.pinned.checked.prog).any (Tryz.pinned.checked.prog.ifacesRec ·)))=true:=by kernel_rfl
theorem j15:((Rows.storeKeepsRow.mapsOut==Tryz.pinned.checked.prog.mapsAmong Tryz.f3.resultTypes.toList))=true:=by kernel_rfl
theorem j16:((Rows.storeKeepsRow.loops==(Tryz.f3.params.toList++(OpenSpec.ofChange Rows.storeKeepsSpec).bare.plain.varTypes Tryz.pinned.checked.prog).any (Tryz.pinned.checked.prog.loopsFrom ·)))=true:=by kernel_rfl
theorem j17:((Rows.storeKeepsRow.wideKeys==(Tryz.f3.params.toList++(OpenSpec.ofChange Rows.storeKeepsSpec).bare.plain.varTypes Tryz.pinned.checked.prog++Tryz.f3.resultTypes.toList).any (Tryz.pinned.checked.prog.wideKeysFrom ·)))=true:=by kernel_rfl
theorem j18:((OpenSpec.ofChange Rows.storeKeepsSpec).bare.vars.all (Tryz.pinned.checked.prog.varReadable ·))=true:=by kernel_rfl
theorem j19:(Tryz.f3.resultTypes.all (fun t=>Tryz.pinned.checked.prog.readableRec t&&decide (t<Tryz.pinned.checked.prog.types.size)))=true:=by kernel_rfl
theorem j20:((Rows.storeKeepsRow.ifacesOut==Tryz.f3.resultTypes.toList.any (Tryz.pinned.checked.prog.ifacesRec ·)))=true:=by kernel_rfl
theorem j21:((Rows.storeKeepsRow.loopsOut==Tryz.f3.resultTypes.toList.any (Tryz.pinned.checked.prog.loopsFrom ·)))=true:=by kernel_rfl
theorem j22:((Rows.storeKeepsRow.plainKeys==Tryz.pinned.checked.prog.plainKeys))=true:=by kernel_rfl
theorem j23:(Rows.storeKeepsRow.shortTexts.isNone)=true:=by kernel_rfl
theorem j24:(Tryz.pinned.checked.prog.stopsHeard)=true:=by kernel_rfl
theorem j25:(Tryz.pinned.checked.prog.mayEnter)=true:=by kernel_rfl
theorem j26:((Rows.storeKeepsRow.lifted==Tryz.pinned.checked.prog.liftsFinal))=true:=by kernel_rfl
theorem j27:((Tryz.pinned.checked.prog.make==some Rows.storeKeepsRow.make))=true:=by kernel_rfl
theorem j28:((Rows.storeKeepsRow.kinds==(if Rows.storeKeepsRow.domain.isEmpty then [] else Tryz.f3.params.toList.map fun t=>match Tryz.pinned.checked.prog.underlying t with | some (.int k)=>some k | _=>none)))=true:=by kernel_rfl
theorem j29:((Rows.storeKeepsRow.pinned==Rows.storeKeepsRow.pinnedBy))=true:=by kernel_rfl
theorem j30:((Rows.storeKeepsRow.veiled==(Tryz.f3.params.toList++(OpenSpec.ofChange Rows.storeKeepsSpec).bare.plain.varTypes Tryz.pinned.checked.prog++Tryz.f3.resultTypes.toList).any (Tryz.pinned.checked.prog.veiledRec ·)))=true:=by kernel_rfl
theorem j31:(Rows.storeKeepsRow.veiledFits Tryz.pinned.checked.prog Tryz.f3.params.toList (Tryz.f3.params.toList++(OpenSpec.ofChange Rows.storeKeepsSpec).bare.plain.varTypes Tryz.pinned.checked.prog++Tryz.f3.resultTypes.toList))=true:=by kernel_rfl
end Keeps
namespace Keeps
theorem qAO {a b:Bool} (h1:a=true) (h2:b=true):(a&&b)=true:=by rw [h1,h2];rfl
theorem qMV (P:Program) (f:FuncId) (fn:Func) (s:ChangeSpec) (c:OpenClaim) (h0:(c.wf (OpenSpec.ofChange s))=true) (h1:(laidOutB P)=true) (h2:(mapsRowed P)=true) (h3:(fn.params.all (P.readableRec ·))=true) (h4:(namedTie P c.named s.vars)=true) (h5:((c.stops==[]))=true) (h6:((P.stops==[]))=true) (h7:((c.knobs==[]))=true) (h8:((P.stopKnobs==[]))=true) (h9:((c.inPlace==P.inPlace f))=true) (h10:((c.unfollowed==P.unfollowed f))=true) (h11:((c.recurses==P.recurses f))=true) (h12:((c.named==P.varsNamed f))=true) (h13:((c.maps==(fn.params.toList++s.plain.varTypes P).any (P.mapsRec ·)))=true) (h14:((c.ifaces==(fn.params.toList++s.plain.varTypes P).any (P.ifacesRec ·)))=true) (h15:((c.mapsOut==P.mapsAmong fn.resultTypes.toList))=true) (h16:((c.loops==(fn.params.toList++s.plain.varTypes P).any (P.loopsFrom ·)))=true) (h17:((c.wideKeys==(fn.params.toList++s.plain.varTypes P++fn.resultTypes.toList).any (P.wideKeysFrom ·)))=true) (h18:(s.vars.all (P.varReadable ·))=true) (h19:(fn.resultTypes.all (fun t=>P.readableRec t&&decide (t<P.types.size)))=true) (h20:((c.ifacesOut==fn.resultTypes.toList.any (P.ifacesRec ·)))=true) (h21:((c.loopsOut==fn.resultTypes.toList.any (P.loopsFrom ·)))=true) (h22:((c.plainKeys==P.plainKeys))=true) (h23:(c.shortTexts.isNone)=true) (h24:(P.stopsHeard)=true) (h25:(P.mayEnter)=true) (h26:((c.lifted==P.liftsFinal))=true) (h27:((P.make==some c.make))=true) (h28:((c.kinds==(if c.domain.isEmpty then [] else fn.params.toList.map fun t=>match P.underlying t with | some (.int k)=>some k | _=>none)))=true) (h29:((c.pinned==c.pinnedBy))=true) (h30:((c.veiled==(fn.params.toList++s.plain.varTypes P++fn.resultTypes.toList).any (P.veiledRec ·)))=true) (h31:(c.veiledFits P fn.params.toList (fn.params.toList++s.plain.varTypes P++fn.resultTypes.toList))=true):joinedFacts P f fn s c=true:=by
 unfold joinedFacts
 exact (qAO (qAO (qAO (qAO (qAO (qAO (qAO (qAO (qAO (qAO (qAO (qAO (qAO (qAO (qAO (qAO (qAO (qAO (qAO (qAO (qAO (qAO (qAO (qAO (qAO (qAO (qAO (qAO (qAO (qAO (qAO h0 h1) h2) h3) h4) h5) h6) h7) h8) h9) h10) h11) h12) h13) h14) h15) h16) h17) h18) h19) h20) h21) h22) h23) h24) h25) h26) h27) h28) h29) h30) h31)
theorem s2:joinedFacts Tryz.pinned.checked.prog 3 Tryz.f3 (OpenSpec.ofChange Rows.storeKeepsSpec).bare Rows.storeKeepsRow=true :=
 qMV Tryz.pinned.checked.prog 3 Tryz.f3 (OpenSpec.ofChange Rows.storeKeepsSpec).bare Rows.storeKeepsRow j0 j1 j2 j3 j4 j5 j6 j7 j8 j9 j10 j11 j12 j13 j14 j15 j16 j17 j18 j19 j20 j21 j22 j23 j24 j25 j26 j27 j28 j29 j30 j31
end Keeps
end Go.Proofs.YtceklhjomhjipaaGreatDoor
