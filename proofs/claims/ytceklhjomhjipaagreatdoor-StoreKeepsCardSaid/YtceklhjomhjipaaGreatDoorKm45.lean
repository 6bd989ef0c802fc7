/- Texts of this claim, merged: LawLines, LawKept, Two, OpenMem, RecPure, KeepPure, CodesPure. -/
import Derived.Laws.AppendOwnNone
import Derived.Test.YtceklhjomhjipaaGreatDoorKm44
set_option maxHeartbeats 16000000
set_option maxRecDepth 1000000
set_option linter.all false
namespace Go.Proofs.YtceklhjomhjipaaGreatDoor
open Go.RowKit Go.Sort Go.Shelf Stl
def qFS (l:List (List UInt8)) (m:Nat):Bool:=decide (m<l.length)||l.any fun x=>decide (250<x.length)
def qGF (l:List (List UInt8)) (m:Nat):Int:=if qFS l m then 1 else 0
theorem qEd (v:Value) (l:List (List UInt8)) (m:Nat) (hm:m≤1000000) (hl:l.length≤9223372036854775806) (w:World) (hs:Strs w v l) :
  Calls Tryz.prog 5 #[v,.int .i64 m] w fun e w'=>e=.returned (.int .i64 (qGF l m))∧w'=w:=by
 obtain ⟨A,c,rfl,h1⟩:=id hs
 clear h1
 go_enter Tryz.func5,Tryz.ntmps5
 have HS:=Hh hs
 clear hs
 have HE:Hid (qGF l m=if (decide (m<l.length)||l.any fun x=>decide (250<x.length))=true then 1 else 0):=Hh rfl
 generalize qGF l m=r at HE
 by_cases hb:m<l.length
 ·have i0:(m:Int)<(l.length:Int):=by omega
  have HF:=Hh (show r=1 by rw [HE.out];exact zM1 (by simp [hb]))
  go_wp2
  go_ret
  exact ⟨by first | rfl | (rw [HF.out];rfl),rfl⟩
 have i0:(l.length:Int)≤(m:Int):=by omega
 go_wp2_with fail
 go_loopw [5] (fun a wr=>wr=w∧∃ k:Nat,k≤l.length∧a=.int .i64 k∧Hid ((l.take k).any (fun x=>decide (250<x.length))=false)) (fun a _=>l.length-(intOf a).toNat)
 case atStart=>exact ⟨rfl,0,zx _,rfl,Hh rfl⟩
 case round =>
  obtain ⟨rfl,k,hk,rfl,HP⟩:=hrel
  by_cases hkl:k<l.length
  ·obtain ⟨b,off,rfl,hb,hc⟩:=HS.out.cellAt hkl
   have i1:(k:Int)<(l.length:Int):=by omega
   have i2:(0:Int)≤(k:Int):=by omega
   by_cases hx:250<(l[k]).length
   ·have HF:=Hh (show r=1 by
     rw [HE.out]
     refine zM1 ?_
     rw [Bool.or_eq_true]
     exact .inr (List.any_eq_true.2 ⟨l[k],zO _,by simpa using hx⟩))
    have i3:(250:Int)<((l[k]).length:Int):=by omega
    clear hx
    go_wp2
    go_ret
    exact ⟨by first | rfl | (rw [HF.out];rfl),rfl⟩
   ·have HX:=Hh hx
    have i3:((l[k]).length:Int)≤250:=by omega
    clear hx
    go_wp2
    go_roundw
    case rel =>
     refine ⟨trivial,k+1,hkl,rfl,Hh ?_⟩
     rw [zo hkl,List.any_append,HP.out]
     simpa using HX.out
    case measure=>simp [intOf];omega
  ·have i1:¬ (k:Int)<(l.length:Int):=by omega
   have HF:=Hh (show r=0 by
    have h:=HP.out
    rw [zn (by omega)] at h
    rw [HE.out,h]
    simp [hb])
   go_wp2
   go_ret
   exact ⟨by first | rfl | (rw [HF.out];rfl),rfl⟩
structure StAt (w:World) (c:Nat→Col) (b tp:Nat) (p:Nat→Addr) (s:Sto) (t:Stl.Tape):Prop where
 sto:StoAt w c b s tp
 tape:TapeAt w c tp t
 env:Env w c p
theorem StAt.ext {w w2:World} {c c2:Nat→Col} {b tp:Nat} {p:Nat→Addr} {s:Sto} {t:Stl.Tape} (h:StAt w c b tp p s t) (e:Ext w w2 c c2 S0):StAt w2 c2 b tp p s t :=
 ⟨h.sto.ext e rfl (fun _ _=>rfl),h.tape.ext e rfl rfl,h.env.ext e rfl⟩
theorem qCL {i:Nat} {s:Sto} {t:Stl.Tape} (h:RunOk i s t) (hi:i≤300):qAS s:=by
 have h1:=h.disk
 have h2:=h.inos
 have h3:=h.next
 have h4:=h.ents
 exact ⟨h.sto,⟨h.sto.dirs,by omega,by omega,by omega,by omega⟩,by omega⟩
def qQ9 (p:Nat→Addr) (w:World) (c:Nat→Col) (b tp:Nat) (s:Sto) (t:Stl.Tape) (line:List UInt8) (ev:Ending) (w':World):Prop :=
 ∃ (a:ByteArray) (er:Value) (c2:Nat→Col),ev=.returned (.tuple #[.string a,er])∧Ext w w' c c2 Sdo∧StAt w' c2 b tp p (qAh s t line).2.1 (qAh s t line).2.2 ∧
  match (qAh s t line).1 with
  | .error cd=>er=qAB p cd∧cd≠0∧a=⟨#[]⟩
  | .ok x=>er=.nilIface∧a=⟨x.toArray⟩
theorem qKL {w:World} {c:Nat→Col} {b tp:Nat} {p:Nat→Addr} {s:Sto} {t:Stl.Tape} (h:StAt w c b tp p s t) {i:Nat} (hr:RunOk i s t) (hi:i≤300) (line:List UInt8) (hl:line.length≤250) :
  Calls Tryz.prog 10 #[.pointer (some ⟨b,0,none⟩),.string ⟨line.toArray⟩] w (qQ9 p w c b tp s t line):=by
 obtain ⟨bd,A,cap,zs,R,rc,hx⟩:=h.sto.open
 have h1:=qBP hl
 have h2:=hr.len
 refine (qQP hx h.tape (qCL hr hi) h.env line (by omega) hr.off hr.cut (by omega)).mono ?_
 rintro ev w' ⟨a,er,c2,rfl,he,hs,ht,hm⟩
 exact ⟨a,er,c2,rfl,he,⟨hs,ht,h.env.ext he rfl⟩,hm⟩
theorem qPs (w:World) (p:Nat→Addr) (hE:Errs w p) (hV:LibVars w) :
  Calls Tryz.prog 4 #[] w fun e w'=>e=.returned (.bool true)∧Below w.heap.size w w':=by
 have HEN:=Hh (show Env w (fun _=>Col.ro) p from ⟨w,hE,hV,zB _ _,fun _ _=>rfl⟩)
 have HNW:=Hh (qEr 8 (by decide) (by decide) w (fun _=>.ro))
 have r0:RunOk 0 kP0.1 kP0.2:=qFR (by decide)
 have r1:=qDv r0 (by decide) (line:=kl1) (by decide)
 have r2:=qDv r1 (by decide) (line:=kl2) (by decide)
 have r3:=qDv r2 (by decide) (line:=kl3) (by decide)
 have K1:=Hh qRx
 have K2:=Hh qRs
 have K3:=Hh qRA
 have K4:=Hh qRp
 have R0:=Hh r0
 have R1:=Hh r1
 have R2:=Hh r2
 have R3:=Hh r3
 clear r0 r1 r2 r3 hE hV
 go_enter Tryz.func4,Tryz.ntmps4
 go_upto_region 4 with (go_at_call 6;refine HNW.out.mono ?_;rintro ev w1 ⟨b,tp,c1,rfl,_,he1,hs1,ht1⟩;have HE1:=Hh he1;have HS1:=Hh (show StAt w1 c1 b tp p kP0.1 kP0.2 from ⟨hs1,ht1,HEN.out.ext he1 rfl⟩);clear he1 hs1 ht1)
 have HD1:=Hh (qKL HS1.out R0.out (by decide) kl1 (by decide))
 go_upto_region 5 with (go_at_call 10;refine HD1.out.mono ?_;rintro ev w2 ⟨a2,er2,c2,rfl,he2,hs2,hm2⟩;rw [K1.out] at hm2;obtain ⟨rfl,rfl⟩:=hm2;have HE2:=Hh he2;have HS2:=Hh hs2;clear he2 hs2)
 have HD2:=Hh (qKL HS2.out R1.out (by decide) kl2 (by decide))
 go_upto_region 6 with (go_at_call 10;refine HD2.out.mono ?_;rintro ev w3 ⟨a3,er3,c3,rfl,he3,hs3,hm3⟩;have hm3':er3=.nilIface∧a3=⟨#[111,107]⟩:=(by { have h1:(qAh (qAh kP0.1 kP0.2 kl1).2.1 (qAh kP0.1 kP0.2 kl1).2.2 kl2).1=.ok [111,107]:=K2.out;rw [h1] at hm3;exact hm3 });obtain ⟨rfl,rfl⟩:=hm3';have HE3:=Hh he3;have HS3:=Hh hs3;clear he3 hs3 hm3)
 have HD3:=Hh (qKL HS3.out R2.out (by decide) kl3 (by decide))
 go_upto_region 7 with (go_at_call 10;refine HD3.out.mono ?_;rintro ev w4 ⟨a4,er4,c4,rfl,he4,hs4,hm4⟩;have hm4':er4=.nilIface∧a4=⟨#[97]⟩:=(by { have h1:(qAh (qAh (qAh kP0.1 kP0.2 kl1).2.1 (qAh kP0.1 kP0.2 kl1).2.2 kl2).2.1 (qAh (qAh kP0.1 kP0.2 kl1).2.1 (qAh kP0.1 kP0.2 kl1).2.2 kl2).2.2 kl3).1=.ok [97]:=K3.out;rw [h1] at hm4;exact hm4 });obtain ⟨rfl,rfl⟩:=hm4';have HE4:=Hh he4;have HS4:=Hh hs4;clear he4 hs4 hm4)
 have HD4:=Hh (qKL HS4.out R3.out (by decide) kl4 (by decide))
 go_upto_region 8 with (go_at_call 10;refine HD4.out.mono ?_;rintro ev w5 ⟨a5,er5,c5,rfl,he5,hs5,hm5⟩;have hm5':er5=.nilIface∧a5=⟨#[120,121]⟩:=(by { have h1:=K4.out;unfold kD at h1;rw [h1] at hm5;exact hm5 });obtain ⟨rfl,rfl⟩:=hm5';have HE5:=Hh he5;clear he5 hs5 hm5)
 have HBF:=Hh (show Below w.heap.size w w5 from ((((HE1.out.mono (S':=Sdo) (fun _ _=>rfl)).trans HE2.out).trans HE3.out).trans HE4.out |>.trans HE5.out).below (zq _) (fun _ _=>rfl))
 clear HD1 HD2 HD3 HD4 HNW
 go_wp2
 go_ret
 exact ⟨rfl,HBF.out⟩
def qQw:Col→Bool:=fun y=>decide (y=.dead)
structure Apart (w:World) (c d:Nat→Col):Prop where
 left:∀ k,k<w.heap.size→d k≠.dead→c k=.ro∨c k=.dead
 right:∀ k,k<w.heap.size→c k≠.dead→d k=.ro∨d k=.dead
def qAG (w:World) (d:Nat→Col):Nat→Col:=fun k=>if k<w.heap.size then d k else .dead
section
variable {w w2:World} {c c2 d d2:Nat→Col}
theorem Apart.symm (h:Apart w c d):Apart w d c:=⟨h.right,h.left⟩
theorem qJO {x:Col} (h:x=.ro∨x=.dead):Sdo x=false:=by
 rcases h with rfl | rfl<;>rfl
theorem Apart.other (h:Apart w c d) (e:Ext w w2 c c2 Sdo):Ext w w2 d (qAG w d) qQw :=
 ⟨e.os,e.tape,e.output,e.size,fun b hb hs=>⟨(e.keep b hb (qJO (h.left b hb (fun hd=>by rw [hd] at hs;cases hs)))).1,zM1 hb⟩⟩
theorem Apart.step (h:Apart w c d) (e:Ext w w2 c c2 Sdo):Apart w2 c2 (qAG w d):=by
 refine ⟨fun k _ hn=>?_,fun k _ hn=>?_⟩
 ·by_cases hl:k<w.heap.size
  ·have hd:qAG w d k=d k:=zM1 hl
   rw [hd] at hn
   have h1:=h.left k hl hn
   rw [(e.keep k hl (qJO h1)).2]
   exact h1
  ·exact absurd (zL1 hl) hn
 ·by_cases hl:k<w.heap.size
  ·have hd:qAG w d k=d k:=zM1 hl
   rw [hd]
   by_cases hc:c k=.dead
   ·exact absurd ((e.keep k hl (qJO (.inr hc))).2.trans hc) hn
   ·exact h.right k hl hc
  ·exact .inr (zL1 hl)
theorem StAt.extB {S:Col→Bool} {b tp:Nat} {p:Nat→Addr} {s:Sto} {t:Stl.Tape} (h:StAt w c b tp p s t) (e:Ext w w2 c c2 S) (h0:S .ro=false) (h1:∀ x,qQX x=true→S x=false) (h2:S .tape=false) (h3:S .tapeL=false):StAt w2 c2 b tp p s t :=
 ⟨h.sto.ext e h0 h1,h.tape.ext e h2 h3,h.env.ext e h0⟩
theorem StAt.dead {b tp:Nat} {p:Nat→Addr} {s:Sto} {t:Stl.Tape} (h:StAt w c b tp p s t) (e:Ext w w2 c c2 qQw):StAt w2 c2 b tp p s t :=
 h.extB e rfl (fun x hx=>by cases x<;>first | rfl | (cases hx)) rfl rfl
end
structure TwoAt (w wr:World) (c d:Nat→Col) (b tp b2 tp2:Nat) (p:Nat→Addr) (s t:Sto) (ts tt:Stl.Tape):Prop where
 base:Below w.heap.size w wr
 low:∀ k,k<w.heap.size→c k=.ro∧d k=.ro
 apart:Apart wr c d
 one:StAt wr c b tp p s ts
 two:StAt wr d b2 tp2 p t tt
section
variable {w wr w2:World} {c c2 d d2:Nat→Col} {b tp b2 tp2:Nat} {p:Nat→Addr} {s t s' t':Sto} {ts tt ts' tt':Stl.Tape}
theorem TwoAt.left (h:TwoAt w wr c d b tp b2 tp2 p s t ts tt) (e:Ext wr w2 c c2 Sdo) (hs:StAt w2 c2 b tp p s' ts'):TwoAt w w2 c2 (qAG wr d) b tp b2 tp2 p s' t ts' tt :=
 ⟨h.base.trans (e.below h.base.size (fun k hk=>by rw [(h.low k hk).1];rfl)),
  fun k hk=>⟨e.col (zu hk h.base.size) (h.low k hk).1 rfl,(zM1 (zu hk h.base.size)).trans (h.low k hk).2⟩,
  h.apart.step e,hs,h.two.dead (h.apart.other e)⟩
theorem TwoAt.right (h:TwoAt w wr c d b tp b2 tp2 p s t ts tt) (e:Ext wr w2 d d2 Sdo) (hs:StAt w2 d2 b2 tp2 p t' tt'):TwoAt w w2 (qAG wr c) d2 b tp b2 tp2 p s t' ts tt' :=
 ⟨h.base.trans (e.below h.base.size (fun k hk=>by rw [(h.low k hk).2];rfl)),
  fun k hk=>⟨(zM1 (zu hk h.base.size)).trans (h.low k hk).1,e.col (zu hk h.base.size) (h.low k hk).2 rfl⟩,
  (h.apart.symm.step e).symm,h.one.dead (h.apart.symm.other e),hs⟩
theorem TwoAt.below (h:TwoAt w wr c d b tp b2 tp2 p s t ts tt) (hb:Below wr.heap.size wr w2):TwoAt w w2 (qAG wr c) (qAG wr d) b tp b2 tp2 p s t ts tt:=by
 have ec:∀ x:Nat→Col,Ext wr w2 x (qAG wr x) S0:=fun x=>(Ext.of_below hb x S0).recolor fun _ hk _=>zM1 hk
 refine ⟨h.base.trans (hb.mono h.base.size),fun k hk=>⟨(zM1 (zu hk h.base.size)).trans (h.low k hk).1,(zM1 (zu hk h.base.size)).trans (h.low k hk).2⟩,⟨fun k _ hn=>?_,fun k _ hn=>?_⟩,h.one.ext (ec c),h.two.ext (ec d)⟩
 ·by_cases hl:k<wr.heap.size
  ·rw [show qAG wr d k=d k from zM1 hl] at hn
   rw [show qAG wr c k=c k from zM1 hl]
   exact h.apart.left k hl hn
  ·exact .inr (zL1 hl)
 ·by_cases hl:k<wr.heap.size
  ·rw [show qAG wr c k=c k from zM1 hl] at hn
   rw [show qAG wr d k=d k from zM1 hl]
   exact h.apart.right k hl hn
  ·exact .inr (zL1 hl)
end
section
variable {w w2:World} {c c2 d:Nat→Col}
theorem qNP (w:World) (c:Nat→Col):Ext w w c (kDo c) qJl:=(Ext.refl w c qJl).recolor fun _ _ hs=>qHk hs
theorem qFZ (c:Nat→Col) (k:Nat):(qAY (c k)=true∧kDo c k=c k)∨(c k=.ro∧kDo c k=.ro)∨(qAY (c k)=false∧c k≠.ro∧kDo c k=.dead):=by
 unfold kDo
 cases hc:c k<;>simp [hc,qAY]
theorem Apart.opened (h:Apart w c d) (e:Ext w w2 (kDo c) c2 qAY):Apart w2 c2 (qAG w d)∧Ext w w2 d (qAG w d) qQw∧Ext w w2 c (qAG w c) qAY:=by
 have keep:∀ k,k<w.heap.size→qAY (c k)=false→w2.heap[k]?=w.heap[k]?∧c2 k=kDo c k:=fun k hk hs=>by
  refine e.keep k hk ?_
  rcases qFZ c k with ⟨h1,_⟩ | ⟨_,h2⟩ | ⟨_,_,h2⟩
  ·rw [hs] at h1;cases h1
  ·rw [h2];rfl
  ·rw [h2];rfl
 refine ⟨⟨fun k _ hn=>?_,fun k _ hn=>?_⟩,⟨e.os,e.tape,e.output,e.size,fun k hk hs=>⟨?_,zM1 hk⟩⟩,⟨e.os,e.tape,e.output,e.size,fun k hk hs=>⟨(keep k hk hs).1,zM1 hk⟩⟩⟩
 ·by_cases hl:k<w.heap.size
  ·rw [show qAG w d k=d k from zM1 hl] at hn
   have h1:=h.left k hl hn
   have hs:qAY (c k)=false:=by rcases h1 with h1 | h1<;>rw [h1]<;>rfl
   rw [(keep k hl hs).2]
   rcases qFZ c k with ⟨h2,_⟩ | ⟨_,h2⟩ | ⟨_,_,h2⟩
   ·rw [hs] at h2;cases h2
   ·exact .inl h2
   ·exact .inr h2
  ·exact absurd (zL1 hl) hn
 ·by_cases hl:k<w.heap.size
  ·rw [show qAG w d k=d k from zM1 hl]
   refine h.right k hl fun hc=>hn ?_
   have hs:qAY (c k)=false:=by rw [hc];rfl
   rw [(keep k hl hs).2]
   rcases qFZ c k with ⟨h2,_⟩ | ⟨h2,_⟩ | ⟨_,_,h2⟩
   ·rw [hs] at h2;cases h2
   ·rw [hc] at h2;cases h2
   ·exact h2
  ·exact .inr (zL1 hl)
 ·have h1:=h.left k hk (fun hd=>by rw [hd] at hs;cases hs)
  exact (keep k hk (by rcases h1 with h1 | h1<;>rw [h1]<;>rfl)).1
end
end Go.Proofs.YtceklhjomhjipaaGreatDoor
namespace Stl
def qCS:List Bytes→Bytes
 | []=>[]
 | r::rs=>record r++qCS rs
theorem qFO:∀ (a b:List Bytes),qCS (a++b)=qCS a++qCS b
 | [],b=>rfl
 | x::r,b=>by show record x++qCS (r++b)=(record x++qCS r)++qCS b;rw [qFO r b,List.append_assoc]
theorem qNC (rs:List Bytes) (x:Bytes):qCS (rs++[x])=qCS rs++record x:=by
 rw [qFO]
 show qCS rs++(record x++[])=_
 rw [List.append_nil]
theorem qKU:∀ n,n≤250→numberOf (dec n) 9=some n∧(dec n).contains 58=false:=by decide +kernel
theorem qD5 {c:UInt8}:∀ {a:Bytes} (b:Bytes),a.contains c=false→cutAt c (a++c::b)=some (a,b)
 | [],b,_=>by simp [cutAt]
 | x::r,b,h=>by
  simp only [List.contains_cons,Bool.or_eq_false_iff] at h
  have h1:x≠c:=fun e=>by subst e;simp at h
  show cutAt c (x::(r++c::b))=_
  simp only [cutAt,zL1 h1,qD5 b h.2]
  rfl
theorem qEM {c:UInt8}:∀ {a:Bytes},a.contains c=false→cutAt c a=none
 | [],_=>rfl
 | x::r,h=>by
  simp only [List.contains_cons,Bool.or_eq_false_iff] at h
  have h1:x≠c:=fun e=>by subst e;simp at h
  simp only [cutAt,zL1 h1,qEM h.2]
  rfl
theorem qHN {r:Bytes} (h:r.length≤250) (x:Bytes):qA0 (record r++x)=some r:=by
 obtain ⟨h1,h2⟩:=qKU _ h
 have e:record r++x=dec r.length++58::(r++([10,46]++x)):=by simp [record]
 unfold qA0
 rw [e,qD5 _ h2]
 simp only [h1]
 rw [zL1]
 ·rw [List.take_left]
 ·rw [List.drop_left]
  simp only [zP,zQ,List.length_nil]
  rintro (h3 | h3 | h3)
  ·omega
  ·omega
  ·exact h3 rfl
theorem qHj {c:UInt8} {a:Bytes} (h:a.contains c=false) (n:Nat):(a.take n).contains c=false:=by
 rw [← Bool.not_eq_true,List.contains_iff_mem] at *
 exact fun h1=>h (List.mem_of_mem_take h1)
theorem qJ2 {r:Bytes} (h:r.length≤250) {n:Nat} (hn:n<(record r).length):qA0 ((record r).take n)=none:=by
 obtain ⟨h1,h2⟩:=qKU _ h
 have hl:(record r).length=(dec r.length).length+(r.length+3):=by simp [record]
 unfold qA0
 by_cases hd:n≤(dec r.length).length
 ·have e:(record r).take n=(dec r.length).take n:=by
   unfold record
   rw [zk hd]
  rw [e,qEM (qHj h2 n)]
 ·have e:(record r).take n=dec r.length++58::(r++[10,46]).take (n-(dec r.length).length-1):=by
   unfold record
   rw [List.take_append,zn (by omega)]
   obtain ⟨k,hk⟩:∃ k,n-(dec r.length).length=k+1:=⟨n-(dec r.length).length-1,by omega⟩
   rw [hk,List.take_succ_cons]
   rfl
  rw [e,qD5 _ h2]
  simp only [h1]
  rw [zM1]
  refine .inr (.inl ?_)
  rw [List.length_take]
  omega
theorem qEa:∀ (rs:List Bytes) (f:Nat) (x:Bytes),(∀ r∈rs,r.length≤250)→rs.length<f→qA0 x=none→qAn f (qCS rs++x)=(rs,(qCS rs).length)
 | [],f+1,x,_,_,hx=>by
  show qAn (f+1) x=_
  unfold qAn
  rw [hx]
  rfl
 | r::rs,f+1,x,h,hf,hx=>by
  have e:qCS (r::rs)++x=record r++(qCS rs++x):=by show (record r++qCS rs)++x=_;rw [List.append_assoc]
  unfold qAn
  rw [e,qHN (h r (by simp))]
  simp only [List.drop_left]
  rw [qEa rs f x (fun y hy=>h y (by simp [hy])) (by simpa using hf) hx]
  show (r::rs,_)=(r::rs,(record r++qCS rs).length)
  rw [zP]
theorem qFF:∀ rs:List Bytes,rs.length≤(qCS rs).length
 | []=>zx _
 | r::rs=>by
  have:=qFF rs
  show rs.length+1≤(record r++qCS rs).length
  simp only [zP,record,zQ]
  omega
theorem qIp {t:Tape} {rs:List Bytes} {x:Bytes} (h:t.b=qCS rs++x) (hr:∀ r∈rs,r.length≤250) (hx:qA0 x=none):t.recover=(rs,⟨qCS rs,false,none⟩):=by
 unfold Tape.recover
 have h1:=qFF rs
 rw [h,qEa rs _ x hr (by rw [zP];omega) hx]
 simp only [List.take_left]
def qB4:Sto→List Bytes→Option Sto
 | s,[]=>some s
 | s,line::r=>match s.change line with
  | some (.ok (_,s1))=>qB4 s1 r
  | _=>none
theorem qCx {s s1:Sto} {line a:Bytes} (r:List Bytes) (h:s.change line=some (.ok (a,s1))):qB4 s (line::r)=qB4 s1 r:=by
 show (match s.change line with | some (.ok (_,s1))=>qB4 s1 r | _=>none)=_
 rw [h]
theorem qDZ {s s':Sto} {line:Bytes} {r:List Bytes} (h:qB4 s (line::r)=some s'):∃ a s1,s.change line=some (.ok (a,s1))∧qB4 s1 r=some s':=by
 have h':(match s.change line with | some (.ok (_,s1))=>qB4 s1 r | _=>none)=some s':=h
 cases hc:s.change line with
 | none=>rw [hc] at h';cases h'
 | some q =>
  cases q with
  | error e=>rw [hc] at h';cases h'
  | ok q=>obtain ⟨a,s1⟩:=q;rw [hc] at h';exact ⟨a,s1,rfl,h'⟩
theorem qGa:∀ (rs:List Bytes) {s s' s1:Sto} {line a:Bytes},qB4 s rs=some s'→s'.change line=some (.ok (a,s1))→qB4 s (rs++[line])=some s1
 | [],s,s',s1,line,a,h,hc=>by
  injection h with h
  subst h
  rw [zi,qCx [] hc]
  rfl
 | r::rs,s,s',s1,line,a,h,hc=>by
  obtain ⟨a',s2,h1,h2⟩:=qDZ h
  rw [zE,qCx _ h1]
  exact qGa rs h2 hc
theorem qJe:∀ (rs:List Bytes) {s s':Sto},qB4 s rs=some s'→∀ (j:Nat) (hj:j<rs.length),∃ sj a s1,qB4 s (rs.take j)=some sj∧sj.change rs[j]=some (.ok (a,s1))∧qB4 s (rs.take (j+1))=some s1
 | [],_,_,_,j,hj=>by simp at hj
 | r::rs,s,s',h,0,_=>by
  obtain ⟨a,s1,h1,_⟩:=qDZ h
  exact ⟨s,a,s1,rfl,h1,by rw [List.take_succ_cons,qCx _ h1];rfl⟩
 | r::rs,s,s',h,j+1,hj=>by
  obtain ⟨a,s1,h1,h2⟩:=qDZ h
  obtain ⟨sj,a',s2,h3,h4,h5⟩:=qJe rs h2 j (by simpa using hj)
  exact ⟨sj,a',s2,by rw [List.take_succ_cons,qCx _ h1];exact h3,by simpa using h4,by rw [List.take_succ_cons,qCx _ h1];exact h5⟩
structure Keep (n i:Nat) (s:Sto) (rs:List Bytes):Prop where
 short:∀ r∈rs,r.length≤250
 many:rs.length≤i
 again:qB4 (Sto.new n) rs=some s
theorem qLT (n:Nat):Keep n 0 (Sto.new n) []:=⟨by simp,zq _,rfl⟩
theorem Keep.up {n i:Nat} {s:Sto} {rs:List Bytes} (h:Keep n i s rs):Keep n (i+1) s rs:=⟨h.short,by have:=h.many;omega,h.again⟩
theorem Keep.line {n i:Nat} {s s1:Sto} {rs:List Bytes} {line a:Bytes} (h:Keep n i s rs) (hl:line.length≤250) (hc:s.change line=some (.ok (a,s1))):Keep n (i+1) s1 (rs++[line]) :=
 ⟨fun r hr=>by
  rcases zX.1 hr with h1 | h1
  ·exact h.short r h1
  ·rw [zh.1 h1];exact hl,by have:=h.many;simp;omega,qGa _ h.again hc⟩
theorem qPZ {n i:Nat} {s:Sto} {rs:List Bytes} {t:Tape} (h:Keep n i s rs) (hr:RunOk i s t) (hi:i≤300) (ht:t.b=qCS rs) {line:Bytes} (hl:line.length≤250) :
  ∃ rs',Keep n (i+1) (qAh s t line).2.1 rs'∧(qAh s t line).2.2=⟨qCS rs',false,none⟩:=by
 have et:t=⟨qCS rs,false,none⟩:=by
  have h1:=hr.off
  have h2:=hr.cut
  cases t
  simp only at ht h1 h2
  rw [ht,h1,h2]
 unfold qAh
 cases hc:s.change line with
 | none=>exact ⟨rs,h.up,et⟩
 | some q =>
  cases q with
  | error e=>exact ⟨rs,h.up,et⟩
  | ok q =>
   obtain ⟨a,s1⟩:=q
   simp only
   rw [qB7 hl hr.off hr.cut (by have:=hr.len;omega),zM1 rfl]
   refine ⟨rs++[line],h.line hl hc,?_⟩
   show ({ t with b:=t.b++record line }:Tape)=_
   rw [et,qNC]
theorem qPc {n i:Nat} {s:Sto} {rs:List Bytes} {t tw:Tape} (h:Keep n i s rs) (hr:RunOk i s tw) (hi:i≤300) (ht:t.b=qCS rs) (htw:tw.b=qCS rs) (hoff:t.off=false) {line:Bytes} (hl:line.length≤250) :
  ((qAh s t line).2.2.off=true∧(qAh s t line).1=.error 13∧(qAh s t line).2.1=s∧∃ x,(qAh s t line).2.2.b=qCS rs++x∧qA0 x=none) ∨
  ((qAh s t line).2.2.off=false∧(qAh s t line).1=(qAh s tw line).1∧(qAh s t line).2.1=(qAh s tw line).2.1∧(qAh s t line).2.2.b=(qAh s tw line).2.2.b):=by
 have hb:=htw
 have hbt:=ht
 unfold qAh
 cases hc:s.change line with
 | none=>exact .inr ⟨hoff,rfl,rfl,by rw [ht,htw]⟩
 | some q =>
  cases q with
  | error e=>exact .inr ⟨hoff,rfl,rfl,by rw [ht,htw]⟩
  | ok q =>
   obtain ⟨a,s1⟩:=q
   simp only
   have hlen:=hr.len
   have hrl:=qBP hl
   rw [qB7 hl hr.off hr.cut (by omega),zM1 rfl]
   have ea:t.append line=match t.cut with
     | none=>(0,{ t with b:=t.b++record line })
     | some n=>if n<(record line).length then (13,{ t with b:=t.b++(record line).take n,off:=true }) else (0,{ t with b:=t.b++record line,cut:=some (n-(record line).length) }):=by
    unfold Tape.append
    rw [htw] at hlen
    rw [zL1 (by omega),zL1 (by rw [ht];omega),zL1 (by rw [hoff];decide)]
    cases t.cut<;>rfl
   rw [ea]
   cases t.cut with
   | none =>
    simp only
    rw [zM1 trivial]
    exact .inr ⟨hoff,rfl,rfl,by rw [ht,htw]⟩
   | some n =>
    simp only
    by_cases hn:n<(record line).length
    ·rw [zM1 hn]
     simp only
     rw [zL1 (by decide)]
     exact .inl ⟨rfl,rfl,rfl,_,by rw [ht],qJ2 hl hn⟩
    ·rw [zL1 hn]
     simp only
     rw [zM1 trivial]
     exact .inr ⟨hoff,rfl,rfl,by rw [ht,htw]⟩
theorem qKp (t:Tape) (l:Bytes) {N:Nat} (h:∀ n,t.cut=some n→n≤N):∀ n,(t.append l).2.cut=some n→n≤N:=by
 unfold Tape.append
 split
 ·exact h
 ·split
  ·exact h
  ·split
   ·exact h
   ·cases hc:t.cut with
    | none=>intro n hn;simp only at hn;first | (cases hn) | (rw [hc] at hn;cases hn)
    | some m =>
     simp only
     split
     ·intro n hn;simp only at hn;exact h n (by rw [hc];first | exact hn | (rw [← hn]))
     ·intro n hn
      simp only [zB1] at hn
      have:=h m hc
      omega
theorem qLu (s:Sto) (t:Tape) (l:Bytes) {N:Nat} (h:∀ n,t.cut=some n→n≤N):∀ n,(qAh s t l).2.2.cut=some n→n≤N:=by
 unfold qAh
 cases s.change l with
 | none=>exact h
 | some q =>
  cases q with
  | error e=>exact h
  | ok q =>
   obtain ⟨a,s1⟩:=q
   simp only
   split
   ·exact qKp t l h
   ·exact qKp t l h
theorem qLz (t:Tape) (l:Bytes) (hl:l.length≤250):(t.append l).2.b.length≤t.b.length+300:=by
 have hr:=qBP hl
 unfold Tape.append
 split
 ·simp
 ·split
  ·simp
  ·split
   ·simp
   ·cases t.cut with
    | none=>simp only [zP];omega
    | some m =>
     simp only
     split
     ·simp only [zP,List.length_take];omega
     ·simp only [zP];omega
theorem qLf (s:Sto) (t:Tape) (l:Bytes) (hl:l.length≤250):(qAh s t l).2.2.b.length≤t.b.length+300:=by
 have h:=qLz t l hl
 unfold qAh
 cases s.change l with
 | none=>simp
 | some q =>
  cases q with
  | error e=>simp
  | ok q =>
   obtain ⟨a,s1⟩:=q
   simp only
   split
   ·exact h
   ·exact h
def codeOf {α:Type} (r:Except Nat α):Nat:=match r with | .error e=>e | .ok _=>0
end Stl
