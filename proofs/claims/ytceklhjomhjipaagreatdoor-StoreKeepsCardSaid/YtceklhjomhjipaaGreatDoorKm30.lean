/- Texts of this claim, merged: Tape, NumPure, Num, Append, Rot. -/
import Derived.Laws.IdiomStrings
import Derived.Lib.AtoiAll
import Derived.Lib.ItoaNum
import Derived.Test.YtceklhjomhjipaaGreatDoorKm27
set_option maxHeartbeats 16000000
set_option maxRecDepth 1000000
set_option linter.all false
namespace Go.Proofs.YtceklhjomhjipaaGreatDoor
open Go.RowKit Go.Sort Stl
def qJr (t:Stl.Tape):Int:=match t.cut with | none=>-1 | some n=>(n:Int)
abbrev qMe (l:List UInt8):List Value:=byteCells ⟨l.toArray⟩
theorem qJS (l:List UInt8):(qMe l).length=l.length:=by rw [byteCells_length];rfl
theorem qF6 (a b:List UInt8):qMe (a++b)=qMe a++qMe b:=by simp [byteCells]
structure TapeIn (w:World) (c:Nat→Col) (b:Nat) (t:Stl.Tape) (A:Option Addr) (cap:Nat):Prop where
 own:w.heap[b]?=some (.cells #[.slice A t.b.length cap,.bool t.off,.int .i64 (qJr t)] 54 (0,0))
 col:c b=.tape
 bytes:QueueAt w (fun k=>c k=.tapeL) A t.b.length cap (qMe t.b)
def TapeAt (w:World) (c:Nat→Col) (b:Nat) (t:Stl.Tape):Prop:=∃ A cap,TapeIn w c b t A cap
def qAY:Col→Bool
 | .tape | .tapeL=>true
 | _=>false
section
variable {w w2:World} {c c2:Nat→Col} {S:Col→Bool} {b:Nat} {t:Stl.Tape}
theorem TapeIn.ext {A:Option Addr} {cap:Nat} (h:TapeIn w c b t A cap) (e:Ext w w2 c c2 S) (h1:S .tape=false) (h2:S .tapeL=false):TapeIn w2 c2 b t A cap :=
 ⟨(e.kept h.own h.col h1).1,(e.kept h.own h.col h1).2,h.bytes.go e.size fun k hk hO=>by
  have:=e.keep k hk (by rw [hO];exact h2)
  exact ⟨this.1,this.2.trans hO⟩⟩
theorem TapeAt.ext (h:TapeAt w c b t) (e:Ext w w2 c c2 S) (h1:S .tape=false) (h2:S .tapeL=false):TapeAt w2 c2 b t:=by
 obtain ⟨A,cap,h⟩:=h
 exact ⟨A,cap,h.ext e h1 h2⟩
theorem TapeAt.lt (h:TapeAt w c b t):b<w.heap.size:=by
 obtain ⟨A,cap,h⟩:=h
 exact qAa h.own
def qML (w:World) (c:Nat→Col) (s:List UInt8) (e:Ending) (w':World):Prop :=
 ∃ b c2,e=.returned (.tuple #[.pointer (some ⟨b,0,none⟩),.nilIface])∧w.heap.size≤b∧Ext w w' c c2 S0∧TapeAt w' c2 b ⟨s,false,none⟩
theorem qJP (s:List UInt8) (w:World) (hs:s.length≤4000000):∃ cap w1,(convert 9 52 (.string ⟨s.toArray⟩)).run Tryz.prog w=.ok (.slice (some ⟨w.heap.size,0,none⟩) s.length cap) w1∧QueueAt w1 (fun k=>w.heap.size≤k) (some ⟨w.heap.size,0,none⟩) s.length cap (qMe s)∧Below w.heap.size w w1:=by
 refine ⟨grownCap w s.length 0 5,_,run_bytes_of_string w _ _ 5 ⟨s.toArray⟩ Tryz.underlying9 Tryz.underlying52 Tryz.underlying5,?_,⟨rfl,rfl,rfl,by simp,fun k hk=>Below.heap_alloc w.drew _ k hk⟩⟩
 have hsl:ByteArray.size ⟨s.toArray⟩=s.length:=rfl
 rw [hsl]
 have hge:=grownCap_ge w s.length 0 5
 have hcm:=grownCap_le_maxLen w s.length 0 5 (by unfold maxLen;omega)
 generalize grownCap w s.length 0 5=C at *
 have hbr:bytesRow ⟨s.toArray⟩ C=((qMe s).toArray++Array.replicate (C-s.length) (.int .u8 0)):=by
  unfold bytesRow
  rw [hsl]
  simp [byteCells]
 have hL:=qJS s
 have hce:∀ j,(w.drew.alloc (.cells (bytesRow ⟨s.toArray⟩ C) 5 ((bytesRow ⟨s.toArray⟩ C).size,(bytesRow ⟨s.toArray⟩ C).size+1))).cell? ⟨w.heap.size,0+j,none⟩=(bytesRow ⟨s.toArray⟩ C)[j]?:=fun j=>by
  rw [zw]
  have:=zK1 w.drew (.cells (bytesRow ⟨s.toArray⟩ C) 5 ((bytesRow ⟨s.toArray⟩ C).size,(bytesRow ⟨s.toArray⟩ C).size+1))
  exact qMG this j
 have hsz:(bytesRow ⟨s.toArray⟩ C).size=C:=by
  rw [hbr]
  simp only [Array.size_append,List.size_toArray,Array.size_replicate,hL]
  omega
 refine ⟨w.heap.size,0,⟨hge,fun _=>rfl,fun _=>by simp,by rw [hL];omega,fun j u hu=>?_,fun j hj=>?_⟩,fun _=>zq _,hcm⟩
 ·have hj:=(zM.1 hu).1
  rw [hce,hbr,Array.getElem?_append_left (by simpa using hj)]
  simpa using hu
 ·have e1:0+s.length*1+j=0+(s.length+j):=by omega
  rw [e1,hce]
  refine ⟨?_,?_⟩
  ·rw [Array.getElem?_eq_getElem (by rw [hsz];omega)]
   rfl
  ·have:=zK1 w.drew (.cells (bytesRow ⟨s.toArray⟩ C) 5 ((bytesRow ⟨s.toArray⟩ C).size,(bytesRow ⟨s.toArray⟩ C).size+1))
   unfold World.frozen?
   rw [show (w.drew.alloc (.cells (bytesRow ⟨s.toArray⟩ C) 5 ((bytesRow ⟨s.toArray⟩ C).size,(bytesRow ⟨s.toArray⟩ C).size+1))).heap[w.heap.size]?=_ from this]
   simp only [hsz]
   simp
   omega
theorem qMk (s:List UInt8) (hs:s.length≤1048576) (w:World) (c:Nat→Col) :
  Calls Tryz.prog 16 #[.string ⟨s.toArray⟩] w (qML w c s):=by
 obtain ⟨cap,w1,hcv,hq,hb⟩:=qJP s w (by omega)
 have HQ:=Hh hq
 have HB:=Hh hb
 have i1:¬ (1048576:Int)<(s.length:Int):=by omega
 clear hq hb
 go_enter Tryz.func16,Tryz.ntmps16
 go_wp2
 go_ret2
 have hb2:=HB.out.alloc HB.out.size (.cells #[.slice (some ⟨w.heap.size,0,none⟩) s.length cap,.bool false,.int .i64 (-1)] 54)
 have hk:Below w1.heap.size w1 (w1.alloc (.cells #[.slice (some ⟨w.heap.size,0,none⟩) s.length cap,.bool false,.int .i64 (-1)] 54)):=(zB _ w1).alloc (zq _) _
 refine ⟨w1.heap.size,fun k=>if k<w.heap.size then c k else if k=w1.heap.size then .tape else .tapeL,rfl,HB.out.size,?_,some ⟨w.heap.size,0,none⟩,cap,?_,?_,?_⟩
 ·exact (Ext.of_below hb2 c S0).recolor fun k hk _=>zM1 hk
 ·exact zK1 w1 _
 ·have:=HB.out.size
  show (if w1.heap.size<w.heap.size then c w1.heap.size else if w1.heap.size=w1.heap.size then Col.tape else Col.tapeL)=Col.tape
  rw [zL1 (by omega),zM1 rfl]
 ·have hsz:=HB.out.size
  refine (HQ.out.go (O':=fun k=>w.heap.size≤k∧k<w1.heap.size) (zq _) fun k hk1 hO=>⟨rfl,hO,hk1⟩).go hk.size fun k hk1 hO=>⟨hk.block k hk1,?_⟩
  show (if k<w.heap.size then c k else if k=w1.heap.size then Col.tape else Col.tapeL)=Col.tapeL
  rw [zL1 (by omega),zL1 (by omega)]
def qKO (w:World) (c:Nat→Col) (b:Nat) (t:Stl.Tape) (e:Ending) (w':World):Prop:=e=.returned .nilIface∧∃ c2,Ext w w' c c2 qAY∧TapeAt w' c2 b t
theorem qK8 (h:TapeAt w c b t) (h1:t.off=false) (h2:t.cut=none) (s:List UInt8) (hs:t.b.length+s.length≤4000000) :
  Calls Tryz.prog 48 #[.pointer (some ⟨b,0,none⟩),.string ⟨s.toArray⟩] w (qKO w c b { t with b:=t.b++s }):=by
 obtain ⟨A,cap,h⟩:=h
 obtain ⟨bs,off,cut⟩:=t
 simp only at h1 h2 hs
 subst h1 h2
 have hblt:=qAa h.own
 obtain ⟨i,hi,hz0,hz1,hz2⟩:=(show qBZ 5 (.int .u8 0) 1 1 from qBW (by kernel_rfl) rfl (by decide)).info
 have hsrc:=Src.ofString w (P:=Tryz.prog) Tryz.underlying9 ⟨s.toArray⟩
 obtain ⟨A',cap',w1,happ,hq,hk⟩:=h.bytes.app (ty:=52) Tryz.underlying52 hi hz0 hz1 hz2 rfl (.string ⟨s.toArray⟩) s.length (qMe s) hsrc (by unfold maxLen;simp only;omega) (by simp only;omega)
 simp only at happ hq hk
 have c0:=ce0 h.own
 have c1:=ce1 h.own
 have c2:=ce2 h.own
 have hne:c b≠.tapeL:=by rw [h.col];decide
 have hb1:w1.heap[b]?=some (.cells #[.slice A bs.length cap,.bool false,.int .i64 (-1)] 54 (0,0)):=(hk.block b (qAa h.own) hne).trans h.own
 have d0:=ce0 hb1
 have f0:=qAb hb1 0
 simp only [qJr] at c0 c1 c2 d0
 have HQ:=Hh hq
 have HK:=Hh hk
 have HB1:=Hh hb1
 have HC:=Hh h.col
 clear h hq hk hb1 hsrc hi hz0 hz1 hz2 hne
 go_enter Tryz.func48,Tryz.ntmps48
 go_wp2_with (at_builtin;refine qCD rfl _ _ 52 9 rfl rfl rfl happ ?_)
 go_ret
 have hsz:=HK.out.size
 have hs0:=qAd HB1.out 0 (.slice A' (bs.length+s.length) cap')
 have he1:Ext w w1 c (fun k=>if k<w.heap.size then c k else .tapeL) qAY:=⟨HK.out.os,HK.out.tape,HK.out.output,hsz,fun k hk hS=>⟨HK.out.block k hk (fun e=>by rw [e] at hS;cases hS),zM1 hk⟩⟩
 have hl:(bs++s).length=bs.length+s.length:=zP
 refine ⟨rfl,fun k=>if k<w.heap.size then c k else .tapeL,?_,A',cap',?_,?_,?_⟩
 ·exact he1.setCell (fun _=>by simp only;rw [HC.out];rfl) _
 ·simp only [hl]
  simpa [qJr] using hs0
 ·show (if b<w.heap.size then c b else Col.tapeL)=_
  rw [zM1 hblt]
  exact HC.out
 ·simp only [hl]
  rw [qF6]
  refine (HQ.out.go (O':=fun k=>(c k=.tapeL∧k<w.heap.size)∨w.heap.size≤k) (zq _) fun k hk1 hO=>⟨rfl,?_⟩).go (w':=w1.setCell ⟨b,0,none⟩ (.slice A' (bs.length+s.length) cap')) (by simp [World.setCell]) fun k hk1 hO=>?_
  ·rcases hO with hO | hO
   ·by_cases hkl:k<w.heap.size
    ·exact .inl ⟨hO,hkl⟩
    ·exact .inr (by omega)
   ·exact .inr hO
  ·have hkb:k≠b:=by
    rcases hO with ⟨hO,_⟩ | hO
    ·intro e;subst e;rw [HC.out] at hO;cases hO
    ·omega
   refine ⟨zA _ ⟨b,0,none⟩ _ k hkb,?_⟩
   show (if k<w.heap.size then c k else Col.tapeL)=_
   rcases hO with ⟨hO,h2⟩ | hO
   ·rw [zM1 h2];exact hO
   ·rw [zL1 (by omega)]
end
end Go.Proofs.YtceklhjomhjipaaGreatDoor
namespace Stl
open Go
theorem qPS:∀ n:Nat,n<10→(48:UInt8)+n.toUInt8=UInt8.ofNat (48+n):=by decide
theorem qPU:∀ n:Nat,n<10→isDigit (UInt8.ofNat (48+n))=true:=by decide
theorem qKZ:∀ n:Nat,n<10→(UInt8.ofNat (48+n)).toNat-48=n:=by decide
theorem qPl:∀ n:Nat,n<10→n≠0→UInt8.ofNat (48+n)≠48:=by decide
theorem qNX:∀ (f n:Nat),n<f→qQH f n=Lib.decDigits n
 | 0,n,h=>by omega
 | f+1,n,h=>by
  rw [Lib.decDigits]
  unfold qQH
  by_cases h1:n<10
  ·rw [zM1 h1,dif_pos h1,qPS n h1]
  ·rw [zL1 h1,dif_neg h1,qNX f (n/10) (by omega),qPS _ (Nat.mod_lt _ (by decide))]
theorem qK7 (n:Nat):dec n=Lib.decDigits n:=qNX _ _ (by omega)
theorem qEu (n:Nat):Lib.itoa (n:Int)=dec n:=by
 rw [qK7]
 unfold Lib.itoa
 rw [zL1 (by omega)]
 rfl
theorem qHZ (c:UInt8):isDigit c=true↔48≤c.toNat∧c.toNat≤57:=by
 unfold isDigit
 rw [zC,decide_eq_true_eq,decide_eq_true_eq,UInt8.le_iff_toNat_le,UInt8.le_iff_toNat_le]
 rfl
def qBC (a:Nat) (s:Bytes):Nat:=s.foldl (fun n c=>10*n+(c.toNat-48)) a
theorem qE1:∀ (s:Bytes) (a:Nat),s.all isDigit=true→qBC a s<(a+1)*10 ^ s.length
 | [],a,_=>by simp [qBC]
 | c::r,a,h=>by
  simp only [List.all_cons,zC] at h
  have ih:=qE1 r (10*a+(c.toNat-48)) h.2
  have hc:=(qHZ c).1 h.1
  refine zu ih ?_
  rw [zQ,Nat.pow_succ,Nat.mul_comm (10 ^ r.length) 10,← Nat.mul_assoc]
  exact Nat.mul_le_mul_right _ (by omega)
theorem qFs:∀ (s:Bytes) (a:Nat),s.all isDigit=true→(a+1)*10 ^ s.length≤1844674407370955162→Lib.parseUint10 a s=.ok (qBC a s)
 | [],a,_,_=>rfl
 | c::r,a,h,hl=>by
  simp only [List.all_cons,zC] at h
  have hc:=(qHZ c).1 h.1
  have h1:1≤10 ^ r.length:=Nat.one_le_pow _ _ (by decide)
  rw [zQ,Nat.pow_succ,Nat.mul_comm (10 ^ r.length) 10,← Nat.mul_assoc] at hl
  have h2:(a+1)*10≤1844674407370955162:=zr (Nat.le_mul_of_pos_right _ h1) hl
  have ih:=qFs r (10*a+(c.toNat-48)) h.2 (zr (Nat.mul_le_mul_right _ (by omega)) hl)
  unfold Lib.parseUint10
  rw [zM1 hc,zL1 (by omega),zL1 (by omega),show a*10+(c.toNat-48)=10*a+(c.toNat-48) by omega,ih]
  rfl
theorem qLH:∀ n:Nat,(Lib.decDigits n).all isDigit=true:=by
 intro n
 induction n using Nat.strongRecOn with
 | _ n ih =>
  rw [Lib.decDigits]
  split
  ·rename_i h
   simp only [List.all_cons,List.all_nil,qPU n h,Bool.and_self]
  ·rw [List.all_append,ih (n/10) (by omega)]
   simp only [List.all_cons,List.all_nil,qPU (n%10) (Nat.mod_lt _ (by decide)),Bool.and_self]
theorem qDG (a:Nat) (s r:Bytes):qBC a (s++r)=qBC (qBC a s) r:=by simp [qBC]
theorem qMR (n:Nat):qCa (Lib.decDigits n)=n:=by
 show qBC 0 (Lib.decDigits n)=n
 induction n using Nat.strongRecOn with
 | _ n ih =>
  rw [Lib.decDigits]
  split
  ·rename_i h
   simp only [qBC,List.foldl_cons,List.foldl_nil,qKZ n h]
   omega
  ·rename_i h
   rw [qDG,ih (n/10) (by omega)]
   simp only [qBC,List.foldl_cons,List.foldl_nil,qKZ _ (Nat.mod_lt n (show 0<10 by decide))]
   omega
theorem qQo:∀ (s:Bytes),s.all isDigit=true→s≠[]→¬ (1<s.length∧s.head?=some 48)→Lib.decDigits (qCa s)=s:=by
 have key:∀ (n:Nat) (s:Bytes),s.length=n→s.all isDigit=true→s≠[]→¬ (1<s.length∧s.head?=some 48)→Lib.decDigits (qCa s)=s:=by
  intro n
  induction n with
  | zero=>intro s h _ hn;exact absurd (zR.1 h) hn
  | succ n ih =>
   intro s hl hd hn h0
   obtain ⟨t,c,rfl⟩:∃ t c,s=t++[c]:=⟨s.dropLast,s.getLast hn,(List.dropLast_concat_getLast hn).symm⟩
   rw [List.all_append,zC] at hd
   have hc:=(qHZ c).1 (by simpa using hd.2)
   have hv:qCa (t++[c])=10*qCa t+(c.toNat-48):=by
    show qBC 0 (t++[c])=_
    rw [qDG]
    rfl
   have hcb:UInt8.ofNat (48+(c.toNat-48))=c:=by
    rw [show 48+(c.toNat-48)=c.toNat by omega]
    simp
   rw [hv]
   by_cases ht:t=[]
   ·subst ht
    rw [show qCa []=0 from rfl,Nat.mul_zero,zw,Lib.decDigits,dif_pos (by omega),hcb]
    rfl
   ·have h0':t.head?≠some 48:=by
     intro h
     apply h0
     refine ⟨?_,?_⟩
     ·have:=List.length_pos_iff.2 ht
      simp
      omega
     ·cases t with
      | nil=>exact absurd rfl ht
      | cons x r=>simpa using h
    have iht:=ih t (by simpa using hl) hd.1 ht (fun h=>h0' h.2)
    have hpos:qCa t≠0:=by
     intro h
     rw [h] at iht
     rw [Lib.decDigits,dif_pos (by omega)] at iht
     rw [← iht] at h0'
     exact h0' rfl
    rw [Lib.decDigits,dif_neg (by omega),show (10*qCa t+(c.toNat-48))/10=qCa t by omega,show (10*qCa t+(c.toNat-48))%10=c.toNat-48 by omega,hcb,iht]
 intro s
 exact key s.length s rfl
theorem qCn (s:Bytes) (most:Nat) (hm:most≤9) (n:Nat) :
  numberOf s most=some n↔Lib.atoiAll s=.ok (n:Int)∧s.length≤most∧Lib.itoa (n:Int)=s:=by
 unfold numberOf
 by_cases h:s.length<1∨most<s.length∨(1<s.length∧s.head?=some 48)∨s.all isDigit=false
 ·rw [zM1 h]
  refine ⟨fun h=>(by cases h),?_⟩
  rintro ⟨h1,h2,h4⟩
  exfalso
  rw [qEu,qK7] at h4
  rcases h with h | h | h | h
  ·have:s=[]:=zR.1 (by omega)
   subst this
   simp [Lib.atoiAll] at h1
  ·omega
  ·subst h4
   by_cases hn:n<10
   ·rw [Lib.decDigits,dif_pos hn] at h
    simp at h
   ·have hp:∀ m,m≠0→(Lib.decDigits m).head?≠some 48:=by
     intro m
     induction m using Nat.strongRecOn with
     | _ m ih =>
      intro hm
      rw [Lib.decDigits]
      split
      ·rename_i h5
       have:=qPl m h5 hm
       simpa using this
      ·rename_i h5
       have:=ih (m/10) (by omega) (by omega)
       have hne:Lib.decDigits (m/10)≠[]:=by
        intro he
        have:=qMR (m/10)
        rw [he] at this
        simp [qCa] at this
        omega
       cases hd:Lib.decDigits (m/10) with
       | nil=>exact absurd hd hne
       | cons x r=>rw [hd] at this;simpa using this
    exact hp n (by omega) h.2
  ·rw [← h4,qLH] at h
   cases h
 ·rw [zL1 h]
  constructor
  case mpr =>
   rintro ⟨_,_,h4⟩
   rw [qEu,qK7] at h4
   rw [← h4,qMR]
  simp only [not_or] at h
  obtain ⟨h1,h2,h3,h4⟩:=h
  have hd:s.all isDigit=true:=by simpa using h4
  have hn:s≠[]:=by rintro rfl;simp at h1
  intro e
  cases e
  refine ⟨?_,by omega,by rw [qEu,qK7];exact qQo s hd hn h3⟩
  cases s with
  | nil=>exact absurd rfl hn
  | cons c r =>
   have hc:=(qHZ c).1 (by simp only [List.all_cons,zC] at hd;exact hd.1)
   have hlt:=qE1 (c::r) 0 hd
   have hpw:10 ^ (c::r).length≤10 ^ 9:=Nat.pow_le_pow_right (by decide) (by omega)
   unfold Lib.atoiAll
   simp only
   rw [zL1 (by omega)]
   unfold Lib.parseMag
   rw [zL1 (by simp),qFs (c::r) 0 hd (by omega)]
   have e:qBC 0 (c::r)=qCa (c::r):=rfl
   rw [e] at hlt ⊢
   simp only
   rw [zL1 (by omega),zL1 (by omega),zL1 (by omega)]
theorem qJu {s:Bytes} {most n:Nat} (_:most≤9) (h:numberOf s most=some n):n<10 ^ most∧s.length≤most∧1≤s.length:=by
 unfold numberOf at h
 split at h
 ·cases h
 ·rename_i h1
  simp only [not_or] at h1
  cases h
  have hd:s.all isDigit=true:=by simpa using h1.2.2.2
  have:=qE1 s 0 hd
  have hpw:10 ^ s.length≤10 ^ most:=Nat.pow_le_pow_right (by decide) (by omega)
  refine ⟨?_,by omega,by omega⟩
  show qBC 0 s<_
  omega
end Stl
namespace Go.Proofs.YtceklhjomhjipaaGreatDoor
open Go.RowKit Go.Sort Go.Shelf Stl
theorem qEZ {B:Nat} {a w:World} (h:Below B a w) (hB:B≤w.heap.size) (os:Array Obj):Below B a (grow w os) :=
 ⟨h.os,h.tape,h.output,by have:=h.size;simp only [size_grow];omega,fun b hb=>by
  rw [← h.block b hb]
  exact Array.getElem?_append_left (zu hb hB)⟩
theorem qE8 (ch:UInt8) {s:List UInt8} (h:cutAt ch s=none) (hs:s.length≤4000000) (w:World) (hm:∃ m,w.cell? ⟨10,0,none⟩=some (.int .i64 m)) :
  Calls Tryz.prog 37 #[.string ⟨s.toArray⟩,.string ⟨#[ch]⟩] w fun e w'=>e=.returned (.tuple #[.string ⟨s.toArray⟩,.string ⟨#[]⟩,.bool false])∧Below w.heap.size w w':=by
 obtain ⟨m,hm⟩:=hm
 refine (Tryz.strings_Cut ⟨s.toArray⟩ ⟨#[ch]⟩ m w (by show s.toArray.size<4294967281;simp;omega) hm).mono ?_
 rintro e w' ⟨rfl,n,rfl⟩
 have:=qPQ ch s
 rw [h] at this
 refine ⟨?_,Below.drewN (zB _ w) n⟩
 show Ending.returned (.tuple #[.string ⟨(Lib.cut s.toArray.toList [ch]).1.toArray⟩,.string ⟨(Lib.cut s.toArray.toList [ch]).2.1.toArray⟩,.bool (Lib.cut s.toArray.toList [ch]).2.2])=_
 simp [this]
theorem qDh (ch:UInt8) {s a b:List UInt8} (h:cutAt ch s=some (a,b)) (hs:s.length≤4000000) (w:World) (hm:∃ m,w.cell? ⟨10,0,none⟩=some (.int .i64 m)) :
  Calls Tryz.prog 37 #[.string ⟨s.toArray⟩,.string ⟨#[ch]⟩] w fun e w'=>e=.returned (.tuple #[.string ⟨a.toArray⟩,.string ⟨b.toArray⟩,.bool true])∧Below w.heap.size w w':=by
 obtain ⟨m,hm⟩:=hm
 refine (Tryz.strings_Cut ⟨s.toArray⟩ ⟨#[ch]⟩ m w (by show s.toArray.size<4294967281;simp;omega) hm).mono ?_
 rintro e w' ⟨rfl,n,rfl⟩
 have:=qPQ ch s
 rw [h] at this
 refine ⟨?_,Below.drewN (zB _ w) n⟩
 show Ending.returned (.tuple #[.string ⟨(Lib.cut s.toArray.toList [ch]).1.toArray⟩,.string ⟨(Lib.cut s.toArray.toList [ch]).2.1.toArray⟩,.bool (Lib.cut s.toArray.toList [ch]).2.2])=_
 simp [this]
def NumIs (o:Option Nat) (n:Int) (ok:Bool):Prop:=(o=none∧ok=false)∨∃ m:Nat,o=some m∧ok=true∧n=(m:Int)
def qPY (o:Option Nat) (e:Ending):Prop:=∃ (n:Int) (ok:Bool),e=.returned (.tuple #[.int .i64 n,.bool ok])∧NumIs o n ok
theorem qMp {s:List UInt8} (h:∀ n:Nat,¬ (Lib.atoiAll s=.ok (n:Int)∧s.length≤6∧Lib.itoa (n:Int)=s)):numberOf s 6=none:=by
 cases hn:numberOf s 6 with
 | none=>rfl
 | some n=>exact absurd ((qCn s 6 (by omega) n).1 hn) (h n)
theorem qGQ {s:List UInt8} {v:Int} (h:Lib.atoiAll s=.ok v):v≤9223372036854775807:=by
 unfold Lib.atoiAll at h
 cases s with
 | nil=>cases h
 | cons c r =>
  simp only at h
  split at h
  ·cases h
  ·cases h
  ·rename_i u _
   split at h
   ·cases h
   ·split at h
    ·cases h
    ·injection h with h
     rename_i h1 _
     subst h
     split
     ·omega
     ·rename_i h2
      have:¬ 9223372036854775808≤u:=fun h3=>h1 ⟨h2,h3⟩
      omega
theorem qBE (s:List UInt8) (hs:s.length≤4000000) (w:World) (hv:LibVars w) :
  Calls Tryz.prog 82 #[.string ⟨s.toArray⟩] w fun e w'=>Below w.heap.size w w'∧qPY (numberOf s 6) e:=by
 obtain ⟨e2,hsy1,hsy2⟩:=hv.syn
 obtain ⟨e3,hrg1,hrg2⟩:=hv.rng
 have HP:=Hh hv.pow
 rcases ha:Lib.atoiAll s with v | _ | _
 ·
  have HA:=Hh ha
  have HAT:=Hh (show Calls Tryz.prog 139 #[.string ⟨s.toArray⟩] w fun e w'=>e=.returned (.tuple #[.int .i64 v,.nilIface])∧Below w.heap.size w w' from (Tryz.strconv_Atoi_ok ⟨s.toArray⟩ (by show s.toArray.size≤_;simp;omega) v (by simpa using ha) w).mono (by
   rintro e w' ⟨rfl,h⟩
   refine ⟨rfl,?_⟩
   rcases h with rfl | ⟨t,rfl⟩
   ·exact zB _ _
   ·exact Lib.bytesWorld_below w _ t))
  clear ha hsy1 hsy2 hrg1 hrg2 hv
  have HNO:=Hh (show (∀ n:Nat,v=(n:Int)→¬ (s.length≤6∧Lib.itoa (n:Int)=s))→numberOf s 6=none from fun h=>qMp fun n ⟨h1,h2⟩=>by
   rw [HA.out] at h1
   injection h1 with h1
   exact h n h1 h2)
  by_cases h6:s.length≤6
  case neg =>
   have HN:=Hh (HNO.out fun n _ h=>h6 h.1)
   have i6:¬ (s.length:Int)≤6:=by omega
   clear h6
   go_enter Tryz.func82,Tryz.ntmps82
   go_wp2_with (go_at_call 139;refine HAT.out.mono ?_;rintro ev w2 ⟨rfl,hb2⟩;have HB2:=Hh hb2;clear hb2)
   go_ret2
   exact ⟨HB2.out,v,false,rfl,.inl ⟨HN.out,rfl⟩⟩
  case pos =>
  have i6:(s.length:Int)≤6:=by omega
  by_cases h0:0≤v
  case neg =>
   have HN:=Hh (HNO.out fun n hn _=>h0 (by omega))
   clear h6
   go_enter Tryz.func82,Tryz.ntmps82
   go_wp2_with (go_at_call 139;refine HAT.out.mono ?_;rintro ev w2 ⟨rfl,hb2⟩;have HB2:=Hh hb2;clear hb2)
   go_ret2
   exact ⟨HB2.out,v,false,rfl,.inl ⟨HN.out,rfl⟩⟩
  case pos =>
  obtain ⟨n,rfl⟩:=Int.eq_ofNat_of_zero_le h0
  have hbig:(n:Int)≤9223372036854775807:=by
   have:=qGQ HA.out
   omega
  have H6:=Hh h6
  have HIT:=Hh (fun (w2:World) (hb:Below w.heap.size w w2)=>(show Calls Tryz.prog 71 #[.int .i64 n] w2 fun e w'=>e=.returned (.string ⟨(Lib.itoa (n:Int)).toArray⟩)∧Below w2.heap.size w2 w' from (Tryz.strconv_Itoa n (by omega) hbig w2 (qFN HP.out hb)).mono (by
   rintro e w' ⟨rfl,k,os,rfl⟩
   exact ⟨rfl,qEZ (Below.drewN (zB _ w2) k) (zq _) os⟩)))
  by_cases hi:Lib.itoa (n:Int)=s
  case neg =>
   have HN:=Hh (HNO.out fun m hm h=>hi (by rw [hm];exact h.2))
   have hq:(Lib.itoa (n:Int)==s)=false:=by simpa using hi
   clear h6 hi
   generalize Lib.itoa (n:Int)=t at *
   go_enter Tryz.func82,Tryz.ntmps82
   go_wp2_with (first
    | (go_at_call 139;refine HAT.out.mono ?_;rintro ev w2 ⟨rfl,hb2⟩;have HB2:=Hh hb2;clear hb2)
    | (go_at_call 71;refine (HIT.out w2 HB2.out).mono ?_;rintro ev w3 ⟨rfl,hb3⟩;have HB3:=Hh (HB2.out.trans (hb3.mono HB2.out.size));clear hb3)
    | fail)
   go_ret2
   exact ⟨HB3.out,n,false,rfl,.inl ⟨HN.out,rfl⟩⟩
  case pos =>
   have HN:=Hh ((qCn s 6 (by omega) n).2 ⟨HA.out,H6.out,hi⟩)
   have hq:(Lib.itoa (n:Int)==s)=true:=by simpa using hi
   clear h6 hi
   generalize Lib.itoa (n:Int)=t at *
   go_enter Tryz.func82,Tryz.ntmps82
   go_wp2_with (first
    | (go_at_call 139;refine HAT.out.mono ?_;rintro ev w2 ⟨rfl,hb2⟩;have HB2:=Hh hb2;clear hb2)
    | (go_at_call 71;refine (HIT.out w2 HB2.out).mono ?_;rintro ev w3 ⟨rfl,hb3⟩;have HB3:=Hh (HB2.out.trans (hb3.mono HB2.out.size));clear hb3)
    | fail)
   go_ret2
   exact ⟨HB3.out,n,true,rfl,.inr ⟨n,HN.out,rfl,rfl⟩⟩
 ·
  have HN:=Hh (qMp (s:=s) fun n h=>by rw [ha] at h;cases h.1)
  have HAT:=Hh (Tryz.strconv_Atoi_syntax ⟨s.toArray⟩ (by show s.toArray.size≤_;simp;omega) (by first | simpa using ha | exact ha) e2 w hsy1 hsy2)
  clear ha hsy1 hsy2 hrg1 hrg2 hv
  go_enter Tryz.func82,Tryz.ntmps82
  go_wp2_with (go_at_call 139;refine HAT.out.mono ?_;rintro ev w2 ⟨N,rfl,_,_,hb2⟩;have HB2:=Hh hb2;clear hb2)
  go_ret2
  exact ⟨HB2.out,0,false,rfl,.inl ⟨HN.out,rfl⟩⟩
 ·
  have HN:=Hh (qMp (s:=s) fun n h=>by rw [ha] at h;cases h.1)
  have HAT:=Hh (Tryz.strconv_Atoi_range ⟨s.toArray⟩ (by show s.toArray.size≤_;simp;omega) (by simpa using ha) e3 w hrg1 hrg2)
  clear ha hsy1 hsy2 hrg1 hrg2 hv
  go_enter Tryz.func82,Tryz.ntmps82
  go_wp2_with (go_at_call 139;refine HAT.out.mono ?_;rintro ev w2 ⟨N,rfl,_,_,hb2⟩;have HB2:=Hh hb2;clear hb2)
  go_ret2
  exact ⟨HB2.out,_,false,rfl,.inl ⟨HN.out,rfl⟩⟩
theorem qDq (n:Nat) (hn:n≤9223372036854775807) (w:World) (hv:LibVars w) :
  Calls Tryz.prog 71 #[.int .i64 n] w fun e w'=>e=.returned (.string ⟨(dec n).toArray⟩)∧Below w.heap.size w w' :=
 (Tryz.strconv_Itoa n (by omega) (by omega) w hv.pow).mono (by
  rintro e w' ⟨rfl,k,os,rfl⟩
  exact ⟨by rw [qEu],qEZ (Below.drewN (zB _ w) k) (zq _) os⟩)
theorem qCA:∀ (f n:Nat),(qQH f n).length≤f
 | 0,_=>zq _
 | f+1,n=>by
  unfold qQH
  split
  ·simp
  ·have:=qCA f (n/10)
   simp only [zP,zQ,List.length_nil]
   omega
theorem qE0 (s:List UInt8) (hs:s.length≤4000000) (w:World) (hv:LibVars w) :
  Calls Tryz.prog 47 #[.string ⟨s.toArray⟩] w fun e w'=>e=.returned (.string ⟨(record s).toArray⟩)∧Below w.heap.size w w':=by
 have HI:=Hh (qDq s.length (by omega) w hv)
 have HR:=Hh (show record s=dec s.length++58::(s++[10,46]) from rfl)
 have hds:(dec s.length).length≤4000001:=zr (qCA _ _) (by omega)
 generalize record s=r at HR ⊢
 generalize dec s.length=ds at HI HR hds
 clear hv
 go_enter Tryz.func47,Tryz.ntmps47
 go_wp2_with (go_at_call 71;refine HI.out.mono ?_;rintro e w2 ⟨rfl,hb2⟩;have HB2:=Hh hb2;clear hb2)
 go_ret
 refine ⟨?_,HB2.out⟩
 rw [HR.out]
 show Ending.returned (.string _)=Ending.returned (.string _)
 congr 2
 apply ByteArray.ext
 simp [ByteArray.data_append]
def qKw (p:Nat→Addr) (w:World) (c:Nat→Col) (b:Nat) (r:Nat×Stl.Tape) (e:Ending) (w':World):Prop:=e=.returned (qAB p r.1)∧∃ c2,Ext w w' c c2 qAY∧TapeAt w' c2 b r.2
section
variable {w:World} {c:Nat→Col} {b:Nat} {t:Stl.Tape} {p:Nat→Addr}
theorem qMr (h:TapeAt w c b t) (h1:t.off=false) (h2:t.cut=none) (s:List UInt8) (hs:s.length≤20000) (hb:t.b.length+(record s).length≤1048576) (hv:LibVars w) :
  Calls Tryz.prog 20 #[.pointer (some ⟨b,0,none⟩),.string ⟨s.toArray⟩] w (qKO w c b { t with b:=t.b++record s }):=by
 have HW:=Hh (fun (W:World) (hb:Below w.heap.size w W)=>qK8 (h.ext (Ext.of_below hb c S0) rfl rfl) h1 h2 (record s) (by omega))
 obtain ⟨A,cap,h⟩:=h
 have HREC:=Hh (fun (W:World) (hb:Below w.heap.size w W)=>qE0 s (by omega) W (hv.later hb))
 generalize record s=r at *
 have c0:=ce0 h.own
 have hbl:=qAa h.own
 have i1:¬ (20000:Int)<(s.length:Int):=by omega
 have i2:¬ (1048576-(t.b.length:Int))<(r.length:Int):=by omega
 have i3:IntKind.i64.wrap (1048576-(t.b.length:Int))=1048576-(t.b.length:Int):=wrap_i64 (by omega) (by omega)
 have HD0:=Hh (zB w.heap.size w).drew
 clear h hv h1 h2 hb hs
 go_enter Tryz.func20,Tryz.ntmps20
 go_upto_region 5 with fail
 go_region_held3 (fun w'=>w'.cell? ⟨b,0,none⟩=some (.slice A t.b.length cap))
  (first
   | exact c0
   | exact d0
   | go_keep)
  (first
   | (go_at_call 47;refine (HREC.out _ HD0.out).mono ?_;rintro ev w2 ⟨rfl,hb2⟩;have HB2:=Hh (HD0.out.trans hb2);have d0:=(HB2.out.cell (p:=⟨b,0,none⟩) hbl).trans c0;clear hb2)
   | fail)
 clear c0 d0
 go_wp2_with (first
  | (go_at_call 47;refine (HREC.out _ HB2.out).mono ?_;rintro ev w3 ⟨rfl,hb3⟩;have HB3:=Hh (HB2.out.trans (hb3.mono HB2.out.size));clear hb3)
  | (go_at_call 48;refine (HW.out _ HB3.out).mono ?_;rintro ev w4 ⟨rfl,c4,he4,ht4⟩))
 go_ret
 exact ⟨rfl,c4,(Ext.of_below HB3.out c qAY).trans he4,ht4⟩
end
theorem join_eq:∀ l:List (List UInt8),l≠[]→Lib.join l [32]=qAx l
 | [],h=>absurd rfl h
 | [x],_=>by simp [Lib.join,qAx]
 | x::y::r,_=>by
  have:=join_eq (y::r) (by simp)
  simp only [Lib.join,qAx] at this ⊢
  simp [this]
theorem qBq {w:World} {A:Option Addr} {cap:Nat} {l:List (List UInt8)} (h:Strs w (.slice A l.length cap) l) (hcap:l.length≤cap) (hl:l.length≤1000000) (hj:(qAx l).length≤140737488355328) :
  Calls Tryz.prog 86 #[.slice A l.length cap] w fun e w'=>e=.returned (.string ⟨(qAx l).toArray⟩)∧Below w.heap.size w w':=by
 by_cases hn:l=[]
 ·subst hn
  clear h
  go_enter Tryz.func86,Tryz.ntmps86
  go_wp2
  go_ret
  exact ⟨rfl,zB _ _⟩
 ·obtain ⟨A2,c2,e,h1⟩:=h
  injection e with e1 e2 e3
  subst e1 e3
  obtain ⟨b,off,rfl,hb,hc⟩:=h1 hn
  have hpos:0<l.length:=by
   cases l with
   | nil=>exact absurd rfl hn
   | cons=>simp
  have HJ:=Hh (Tryz.strings_Join b off cap (l.map fun x=>(⟨x.toArray⟩:ByteArray)) ⟨#[32]⟩ w (fun j x hx=>by
   rw [zN] at hx
   cases hx2:l[j]? with
   | none=>rw [hx2] at hx;cases hx
   | some y =>
    rw [hx2] at hx
    simp only [zA1,zB1] at hx
    rw [← hx]
    exact hc j y hx2) hb (by simp;omega) (by simpa using hcap) (by
     have e:(l.map fun x=>(⟨x.toArray⟩:ByteArray)).map (·.data.toList)=l:=by rw [zW];exact List.map_id' l
     rw [e]
     clear e
     have:Lib.join l [32]=qAx l:=join_eq l hn
     rw [show (⟨#[32]⟩:ByteArray).data.toList=[32] from rfl,this]
     exact hj))
  rw [show (l.map fun x=>(⟨x.toArray⟩:ByteArray)).map (·.data.toList)=l by rw [zW];exact List.map_id' l,show (⟨#[32]⟩:ByteArray).data.toList=[32] from rfl,join_eq l hn,zT] at HJ
  generalize qAx l=r at HJ ⊢
  have i1:¬ (l.length:Int)=0:=by omega
  clear h1 hc hn hcap e2
  go_enter Tryz.func86,Tryz.ntmps86
  go_wp2_with (go_at_call 145;refine HJ.out.mono ?_;rintro e w' ⟨rfl,hb'⟩)
  go_ret
  exact ⟨rfl,hb'⟩
end Go.Proofs.YtceklhjomhjipaaGreatDoor
namespace Go.Proofs.YtceklhjomhjipaaGreatDoor
open Go.RowKit Go.Sort Stl
section
variable {w:World} {c:Nat→Col} {b:Nat} {D:List (List UInt8)}
theorem qIc (h:DiskAt w c b D) (k:Nat) (hk:k≤1000000) :
  Calls Tryz.prog 140 #[.pointer (some ⟨b,0,none⟩),.int .i64 k] w fun e w'=>e=.returned (.bool (decide (D.length≤k)))∧w'=w:=by
 obtain ⟨v,hb,hc,hr⟩:=h
 obtain ⟨A,cap,rfl⟩:=hr.slice
 have c0:=ce0 hb
 have i1:¬ (k:Int)<0:=by omega
 clear hb hr hc
 by_cases hx:D.length≤k
 ·rw [decide_eq_true hx]
  have i2:(D.length:Int)≤(k:Int):=by omega
  go_enter Tryz.func140,Tryz.ntmps140
  go_wp2
  go_ret
  exact ⟨rfl,rfl⟩
 ·rw [decide_eq_false hx]
  have i2:¬ (D.length:Int)≤(k:Int):=by omega
  go_enter Tryz.func140,Tryz.ntmps140
  go_wp2
  go_ret
  exact ⟨rfl,rfl⟩
theorem qP8 (h:DiskAt w c b D) (k bit:Nat) (hk:k≤1000000) (hb:bit≤1000000) (hx:D.length≤k∨128≤bit) {te:TypeId} {pe:Value} (hg:w.cell? ⟨0,0,none⟩=some (.iface te pe)) :
  Calls Tryz.prog 84 #[.pointer (some ⟨b,0,none⟩),.int .i64 k,.int .i64 bit] w fun e w'=>e=.returned (.iface te pe)∧w'=w:=by
 have HB:=Hh (qIc h k hk)
 have i1:¬ (bit:Int)<0:=by omega
 clear h
 by_cases hkl:D.length≤k
 ·rw [decide_eq_true hkl] at HB
  clear hkl hx
  go_enter Tryz.func84,Tryz.ntmps84
  go_wp2_with (go_at_call 140;refine HB.out.mono ?_;rintro ev w2 ⟨rfl,rfl⟩)
  go_ret
  exact ⟨rfl,rfl⟩
 ·rw [decide_eq_false hkl] at HB
  have i2:(128:Int)≤(bit:Int):=by omega
  clear hkl hx
  go_enter Tryz.func84,Tryz.ntmps84
  go_wp2_with (go_at_call 140;refine HB.out.mono ?_;rintro ev w2 ⟨rfl,rfl⟩)
  go_ret
  exact ⟨rfl,rfl⟩
theorem qQb {w2:World} {g k cap:Nat} (hb0:w.heap[b]?=some (.cells #[.slice (some ⟨g,0,none⟩) D.length cap,.slice none 0 0] 79 (0,0))) (hc:c b=.disk) (hr:RowAt w c .diskL 9 1 (.slice (some ⟨g,0,none⟩) D.length cap) D.length (D.map encStr)) (hb:Below w.heap.size w w2) (x:List UInt8) :
  Ext w (w2.setCell ⟨g,k,none⟩ (.string ⟨x.toArray⟩)) c c qC1∧DiskAt (w2.setCell ⟨g,k,none⟩ (.string ⟨x.toArray⟩)) c b (D.set k x):=by
 have e0:Ext w w2 c c qC1:=Ext.of_below hb c qC1
 have hr2:=hr.ext (Ext.of_below hb c S0) rfl
 have hb2:=(Ext.of_below hb c S0).kept hb0 hc rfl
 obtain ⟨h3,e3⟩:=hr2.stored k (.string ⟨x.toArray⟩)
 refine ⟨e0.then e3 (qAE rfl),_,(e3.kept hb2.1 hb2.2 rfl).1,hc,?_⟩
 rw [List.length_set,List.map_set]
 exact h3
theorem qQr (h:DiskAt w c b D) (k bit:Nat) (hk:k<D.length) (hD:D.length≤1000000) (hb:bit<128) (hl:D[k].length=16) :
  Calls Tryz.prog 84 #[.pointer (some ⟨b,0,none⟩),.int .i64 k,.int .i64 bit] w fun e w'=>e=.returned .nilIface∧Ext w w' c c qC1∧DiskAt w' c b (D.set k (turnBit D[k] bit)):=by
 have HB:=Hh (qIc h k (by omega))
 rw [decide_eq_false (by omega)] at HB
 have HT:=Hh (qLN D[k] bit hl hb)
 obtain ⟨v,hb0,hc,hr⟩:=h
 obtain ⟨g,cap,rfl,hgc,hgl,_,_⟩:=hr.pos (by omega)
 have c0:=ce0 hb0
 have q0:w.cell? ⟨g,k,none⟩=some (.string ⟨D[k].toArray⟩):=by
  rw [hr.cellAt k (by omega)]
  simp [hk]
 have i1:¬ (bit:Int)<0:=by omega
 have i2:(bit:Int)<128:=by omega
 have i3:¬ (128:Int)≤(bit:Int):=by omega
 have j1:(k:Int)<(D.length:Int):=by omega
 have j2:(0:Int)≤(k:Int):=by omega
 have hbl:=qAa hb0
 have hbg:b≠g:=qFH hc hgc (by decide)
 have HB0:=Hh hb0
 have HC:=Hh hc
 have HR:=Hh hr
 have f0:=hr.frozenAt k
 clear hb0 hc hr
 go_enter Tryz.func84,Tryz.ntmps84
 go_upto_region 3 with (go_at_call 140;refine HB.out.mono ?_;rintro ev w2 ⟨rfl,hw2⟩;have hw3:w=w2:=hw2.symm;clear hw2;subst hw3)
 go_cut [6] (fun s wx=>s=.nilIface∧Hid (Ext w wx c c qC1∧DiskAt wx c b (D.set k (turnBit D[k] bit))))
 case first =>
  go_region_law
   (first
    | (go_simp;go_at_call 141;refine (HT.out _).mono ?_;rintro ev w2 ⟨rfl,hb2⟩;have hb3:Below w.heap.size w w2:=(zB _ w).drew.trans (hb2.mono (zq _));have c0':w2.cell? ⟨b,0,none⟩=some (.slice (some ⟨g,0,none⟩) D.length cap):=(hb3.cell (p:=⟨b,0,none⟩) hbl).trans c0;have f0':w2.frozen? ⟨g,k,none⟩=false:=(hb3.frozen (p:=⟨g,k,none⟩) hgl).trans f0;have q0':w2.cell? ⟨g,k,none⟩=some (.string ⟨D[k].toArray⟩):=(hb3.cell (p:=⟨g,k,none⟩) hgl).trans q0;have HB3:=Hh hb3;clear hb2 hb3)
    | fail)
  all_goals
   have HF:=Hh (qQb (k:=k) HB0.out HC.out HR.out HB3.out (turnBit D[k] bit))
   clear c0 q0 f0 c0' q0' f0'
   go_wp2
   go_meet
   case rel=>exact ⟨rfl,HF⟩
 case rest =>
  obtain ⟨rfl,HX⟩:=hcut
  obtain ⟨v2,hb2,_,_⟩:=HX.out.2
  have c1:=ce1 hb2
  clear c0 q0 f0 hb2
  go_wp2_with fail
  go_loopw [41] (fun a wr=>wr=wc∧a=.int .i64 0) (fun _ _=>0)
  case atStart=>exact ⟨rfl,rfl⟩
  case round =>
   obtain ⟨rfl,rfl⟩:=hrel
   go_wp2
   go_ret
   exact ⟨rfl,HX.out.1,HX.out.2⟩
end
end Go.Proofs.YtceklhjomhjipaaGreatDoor
