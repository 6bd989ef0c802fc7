/- Lemmas. -/
import Derived.BigQuiet
import Derived.Deep.QuietTactic
import Derived.Maps.AppendAt
import Derived.Maps.OwnSet
import Derived.OwnWalkIn
import Derived.Sort.KeysCollected
import Derived.StillTailTactics
import Derived.TacticsInMore
import Derived.WalkLawsBesides
import Derived.WalkSpells
import Derived.Test.YtbmkaekimccdgaaGreatDoorBm09
set_option maxHeartbeats 16000000
set_option maxRecDepth 1000000
set_option linter.all false
namespace Go.Proofs.YtbmkaekimccdgaaGreatDoor
open Go.RowKit
def xO:List UInt8:=[97,98,99,100,101,102,103,104,105,106,107,108,109,110,111,112,113,114,115,116,117,118,119,120,121,122,48,49,50,51,52,53,54,55,56,57,46,45]
theorem qAw (c:UInt8):xO.contains c=Stl.isLetter c:=by
 have h:∀ n:Nat,n<256→xO.contains (UInt8.ofNat n)=Stl.isLetter (UInt8.ofNat n):=by decide +kernel
 have:=h c.toNat (UInt8.toNat_lt c);simpa using this
theorem qCh (l:List UInt8):Lib.trimLeftS l xO=l.drop (Stl.word l).length:=by
 unfold Lib.trimLeftS
 induction l with
 | nil=>rfl
 | cons c r ih =>
  rw[List.dropWhile_cons,qAw]
  cases hc:Stl.isLetter c
  ·simp[Stl.word,hc]
  ·have:Stl.word (c::r)=c::Stl.word r:=by simp[Stl.word,hc]
   rw[this];simpa using ih
theorem dropWhile_nil {p:UInt8→Bool}:∀ l:List UInt8,l.dropWhile p=[]↔l.all p=true
 | []=>by simp
 | c::r=>by
  rw[List.dropWhile_cons]
  cases hc:p c
  ·simp[hc]
  ·simp[hc,dropWhile_nil r]
theorem qBZ (l:List UInt8):Lib.trimS l xO=[]↔l.all Stl.isLetter=true:=by
 unfold Lib.trimS Lib.trimLeftS Lib.trimRightS;have e:(fun c=>xO.contains c)=Stl.isLetter:=funext qAw;rw[e,dropWhile_nil,List.all_eq_true,List.all_eq_true];constructor
 ·intro h;have hr:(l.reverse.dropWhile Stl.isLetter)=[]:=by
   cases hd:l.reverse.dropWhile Stl.isLetter with
   | nil=>rfl
   | cons x t =>
    have h1:=h x (by simp[hd]);have h2:=List.head?_dropWhile_not Stl.isLetter l.reverse;rw[hd] at h2;simp[h1] at h2
  have:=(dropWhile_nil _).1 hr;rw[List.all_eq_true] at this;intro x hx;exact this x (by simpa using hx)
 ·intro h x hx;have h1:x∈l.reverse.dropWhile Stl.isLetter:=by simpa using hx
  exact h x (by simpa using (List.dropWhile_sublist _).mem h1)
theorem qM8:(Tryz.prog.info? 306).map (fun i=>(i.zero,i.size))=some (some (.agg (Array.replicate 256 (.bool false))),256):=by kernel_rfl
theorem qBn:∀ (j:Nat) b,(⟨xO.toArray⟩:ByteArray).data.toList[j]?=some b→b.toNat<128:=ascii_of_all (by decide)
theorem qLt (l:List UInt8)(w:World)(hl:l.length≤9223372036854775807) :
  Calls Tryz.prog 158 #[.string ⟨l.toArray⟩,.string ⟨xO.toArray⟩] w fun e w'=>e=.returned (.string ⟨(Lib.trimS l xO).toArray⟩)∧Below w.heap.size w w' :=
 Any.strings_Trim_laid Tryz.lays160 qM8 ⟨l.toArray⟩ ⟨xO.toArray⟩ w (by show l.toArray.size≤_;simpa using hl) (by decide) qBn
theorem qFG (l:List UInt8)(w:World) :
  Calls Tryz.prog 308 #[.string ⟨l.toArray⟩,.string ⟨xO.toArray⟩] w fun e w'=>e=.returned (.string ⟨(l.drop (Stl.word l).length).toArray⟩)∧Below w.heap.size w w':=by
 have h:=Any.strings_TrimLeft_laid Tryz.lays161 qM8 ⟨l.toArray⟩ ⟨xO.toArray⟩ w (by decide) qBn;simp only[qCh] at h;exact h
theorem yN (l:List UInt8)(k:Nat):(⟨l.toArray⟩:ByteArray).extract 0 k=⟨(l.take k).toArray⟩:=by
 apply ByteArray.ext;simp[ByteArray.extract,ByteArray.copySlice]
theorem extract_drop (l:List UInt8)(k:Nat):(⟨l.toArray⟩:ByteArray).extract k l.length=⟨(l.drop k).toArray⟩:=by
 apply ByteArray.ext;simp[ByteArray.extract,ByteArray.copySlice];rw[zm (by simp)]
theorem qEH (l:List UInt8)(i k:Nat):(⟨l.toArray⟩:ByteArray).extract i k=⟨((l.take k).drop i).toArray⟩:=by
 apply ByteArray.ext;simp[ByteArray.extract,ByteArray.copySlice,List.extract_eq_take_drop,List.drop_take]
theorem qLl (l:List UInt8)(w:World)(hl:l.length≤9223372036854775807) :
  Calls Tryz.prog 276 #[.string ⟨l.toArray⟩] w fun e w'=>e=.returned (.string ⟨(Stl.word l).toArray⟩)∧Below w.heap.size w w':=by
 have hw:=Stl.word_length_le l;go_enter Tryz.func276,Tryz.ntmps276;go_wp2_with (go_at_call 308;refine(qFG _ _).mono ?_;rintro e w' ⟨rfl,hb⟩);go_ret;refine⟨?_,hb⟩;rw[yN,show l.length-(l.length-(Stl.word l).length)=(Stl.word l).length by omega,Stl.word_take];rfl
theorem gD (l:List UInt8)(w:World)(hl:l.length≤9223372036854775807) :
  Calls Tryz.prog 103 #[.string ⟨l.toArray⟩] w fun e w'=>e=.returned (.bool (Stl.isName l))∧Below w.heap.size w w':=by
 go_enter Tryz.func103,Tryz.ntmps103;go_wp2_with (go_at_call 158;refine(qLt _ _ (by assumption)).mono ?_;rintro e w' ⟨rfl,hb⟩)
 all_goals go_ret
 all_goals refine⟨?_,by first | exact zB _ _ | assumption⟩
 ·rename_i h1
  subst h1;rfl
 ·rename_i h1 h2 h3 h4
  subst h4;rfl
 ·rename_i h1 h2 h3 h4
  have h5:(l.all Stl.isLetter)=true:=(qBZ l).1 (by assumption);have h6:1≤l.length:=by
   cases l
   ·exact absurd rfl (by assumption)
   ·simp
  have h7:l.length≤12:=by omega
  have h8:l.isEmpty=false:=by cases l<;>simp_all
  have e:(!l.isEmpty&&!l==[46]&&!l==[46,46])=Stl.isName l:=by
   simp[Stl.isName,h5,h6,h7,h8,bne]
  rw[← e];rfl
 ·rename_i h1 h2 h3
  have h5:(l.all Stl.isLetter)=false:=by
   cases h:l.all Stl.isLetter
   ·rfl
   ·exact absurd ((qBZ l).2 h) (by assumption)
  have e:Stl.isName l=false:=by simp only[Stl.isName,h5,Bool.and_false,Bool.false_and]
  rw[e];rfl
 ·have h6:¬ l.length≤12:=by omega
  have e:Stl.isName l=false:=by simp only[Stl.isName,decide_eq_false h6,Bool.and_false,Bool.false_and]
  rw[e];rfl
theorem qCv:∀ (r:List UInt8) (k:Nat),(Lib.indexByte r 35=-1∧Stl.mentsAt k r=[]) ∨
  ∃ j:Nat,Lib.indexByte r 35=j∧j<r.length∧Stl.mentsAt k r=(k+j+1,Stl.word (r.drop (j+1)))::Stl.mentsAt (k+j+1) (r.drop (j+1))
 | [],k=>.inl ⟨rfl,rfl⟩
 | c::r,k=>by
  have e0:Stl.mentsAt k (c::r)=if c==35 then (k+1,Stl.word r)::Stl.mentsAt (k+1) r else Stl.mentsAt (k+1) r:=rfl
  have e1:Lib.indexByte (c::r) 35=if c==35 then 0 else if Lib.indexByte r 35==-1 then -1 else Lib.indexByte r 35+1:=rfl
  rw[e0,e1]
  cases hc:(c==35)
  ·rcases qCv r (k+1) with ⟨h1,h2⟩ | ⟨j,h1,h2,h3⟩
   ·exact .inl ⟨by rw[h1];rfl,by rw[h2];rfl⟩
   ·refine .inr ⟨j+1,?_,by simp;omega,?_⟩
    ·have:(Lib.indexByte r 35==-1)=false:=by rw[h1,zG1];omega
     rw[this,h1];rfl
    ·rw[h3,List.drop_succ_cons,show k+1+j+1=k+(j+1)+1 by omega];rfl
  ·exact .inr ⟨0,rfl,by simp,rfl⟩
theorem qFo (l:List UInt8)(hl:l.length≤9223372036854775807)(g:Nat)(caps:Array Value)(hg:∀ args w,(callFunc g args).run Tryz.prog w=.ok (.enter g args) w)
  (I:List (Nat×List UInt8)→World→Prop) (hst:∀ pre W W',I pre W→Below W.heap.size W W'→I pre W')
  (hdo:∀ (pre:List (Nat×List UInt8)) (at_:Nat) (W:World),I pre W→at_≤l.length→(∃ rest,pre++(at_,Stl.word (l.drop at_))::rest=Stl.mentsAt 0 l)→Calls Tryz.prog g (#[.int .i64 at_,.string ⟨(Stl.word (l.drop at_)).toArray⟩]++caps) W fun e W'=>e=.returned (.tuple #[])∧I (pre++[(at_,Stl.word (l.drop at_))]) W')
  (w:World) (h0:I [] w) :
  Calls Tryz.prog 233 #[.string ⟨l.toArray⟩,.func (.func g) #[] caps] w fun e w'=>e=.returned (.tuple #[])∧I (Stl.mentsAt 0 l) w':=by
 have HST:=Hh hst;have HDO:=Hh hdo;have H0:=Hh h0;clear hst hdo h0;go_enter Tryz.func233,Tryz.ntmps233;go_wp2_with fail
 go_loopw [4] (fun a wr=>∃ (k:Nat) (pre:List (Nat×List UInt8)),k≤l.length∧a=.int .i64 k∧Hg (I pre wr)∧Hg (pre++Stl.mentsAt k (l.drop k)=Stl.mentsAt 0 l)) (fun a _=>l.length-(intOf a).toNat)
 case atStart=>exact⟨0,[],zw _,rfl,Hh H0.o,Hh (by simp)⟩
 case round =>
  obtain⟨k,pre,hk,rfl,HI,HP⟩:=hrel;have hx:=extract_drop l
  rcases qCv (l.drop k) k with ⟨h1,h2⟩ | ⟨j,h1,h2,h3⟩
  ·have H2:=Hh h2;clear h2;go_wp2_with (go_at_call 54;refine(Tryz.strings_Index_one _ 35 _).mono ?_;rintro e w' ⟨rfl,rfl⟩);refine zH1 (results_none rfl _ _ _) rfl ⟨rfl,?_⟩;have:=HP.o;rw[H2.o,List.append_nil] at this;rw[← this];exact HI.o
  ·have hkl:k+j+1≤l.length:=by simp at h2;omega
   have H3:=Hh h3;clear h3 h2;have hx2:((k:Int)+((j:Int)+1))=((k+j+1:Nat):Int):=by omega
   go_wp2_with (first
    | (go_at_call 54;refine(Tryz.strings_Index_one _ 35 _).mono ?_;rintro e w' ⟨rfl,rfl⟩)
    | (go_at_call 276;go_must (refine(qLl _ _ (by simp;omega)).mono ?_);rintro e w1 ⟨rfl,hb1⟩)
    | fail)
   rw[show ((k:Int)+(j:Int)+1)=((k+j+1:Nat):Int) from by omega];refine(HDO.o pre (k+j+1) w1 (HST.o _ _ _ HI.o hb1) hkl ⟨_,by rw[← HP.o,H3.o,List.drop_drop];rfl⟩).mono ?_;rintro e w2 ⟨rfl,h2⟩;have H2:=Hh h2;clear h2;go_wp2;go_roundw
   case rel =>
    refine⟨k+j+1,_,hkl,rfl,H2,?_⟩;have h4:=HP.o;rw[H3.o] at h4;rw[← h4];have e1:(l.drop k).drop (j+1)=l.drop (k+j+1):=by rw[List.drop_drop];rfl
    show Hg (_=_);rw[e1];exact Hh (by simp)
   case measure=>simp[intOf];omega
theorem sizeBuilder:(Tryz.prog.info? 118).map (·.size)=some 2:=by kernel_rfl
theorem infoByte:(Tryz.prog.info? 5).map (fun i=>(i.zero,i.size,i.bytes))=some (some (.int .u8 0),1,1):=by kernel_rfl
theorem liesBuilder:liesAt Tryz.prog Tryz.prog.depth 118 (2/Tryz.prog.cellsOf 118) 0 118 1=true:=by kernel_rfl
theorem qDn (b:Nat)(w:World)(h0:w.cell? ⟨b,0,none⟩=some (.pointer (some ⟨b,0,none⟩))) :
  Calls Tryz.prog 89 #[.pointer (some ⟨b,0,none⟩)] w fun e w'=>e=.returned (.tuple #[])∧w'=w:=by
 obtain⟨j,hj,_⟩:=Option.map_eq_some_iff.1 sizeBuilder;go_enter Tryz.func89,Tryz.ntmps89;go_wp2;rw[Lib.run_neq_ptr_same w _ Tryz.underlying116 hj];go_wp2;go_end0;exact⟨rfl,rfl⟩
theorem qDa (b:Nat)(w:World)(h0:w.cell? ⟨b,0,none⟩=some (.pointer none))(hsh:w.shape? b=some (118,2))(hfz:w.frozen? ⟨b,0,none⟩=false) :
  Calls Tryz.prog 89 #[.pointer (some ⟨b,0,none⟩)] w fun e w'=>e=.returned (.tuple #[])∧w'=w.setCell ⟨b,0,none⟩ (.pointer (some ⟨b,0,none⟩)):=by
 obtain⟨j,hj,hjs⟩:=Option.map_eq_some_iff.1 sizeBuilder;go_enter Tryz.func89,Tryz.ntmps89;go_wp2;rw[Lib.run_to_unsafe w ⟨b,0,none⟩ Tryz.underlying116 Tryz.underlying98 hj (by rw[hjs];decide) hsh (Nat.zero_lt_succ 1)];simp only[Result.andThen];rw[Oper.upon_value];go_wp2;rw[run_callFunc_extern Tryz.func138 (by kernel_rfl) (by kernel_rfl) (by kernel_rfl) (e:=Extern.AbiNoEscape.same) (by kernel_rfl)];rw[Lib.run_noEscape];simp only[Result.andThen];rw[Oper.upon_value];go_wp2;rw[Lib.run_from_unsafe w ⟨b,0,none⟩ Tryz.underlying98 Tryz.underlying116 hj hsh liesBuilder];simp only[Result.andThen];rw[Oper.upon_value];go_wp2;go_end0;exact⟨rfl,rfl⟩
def qJo (b:Nat)(e:TypeId)(w w':World):Prop:=∀ k o,w.heap[k]?=some o→k≠b→(∀ cs fr,o≠.cells cs e fr)→w'.heap[k]?=some o
theorem qEc (B b:Nat)(bs:List Value)(w:World)(h:Lib.IsBuilder 118 5 B b bs w) :
  Calls Tryz.prog 89 #[.pointer (some ⟨b,0,none⟩)] w fun e w'=>e=.returned (.tuple #[])∧(Lib.BuilderAt 118 5 B b (.pointer (some ⟨b,0,none⟩)) bs w'∧Below B w w'∧qJo b 5 w w'):=by
 rcases h with h | h
 ·refine(qDa b w h.cell0 h.shape h.frozen0).mono ?_;rintro e w' ⟨rfl,rfl⟩;exact⟨rfl,h.used _,(zB B w).setCell (p:=⟨b,0,none⟩) h.1 _,fun k o hk hne _=>(zA _ _ _ _ hne).trans hk⟩
 ·refine(qDn b w h.cell0).mono ?_;rintro e w' ⟨rfl,rfl⟩;exact⟨rfl,h,zB B _,fun k o hk _ _=>hk⟩
theorem qCO (B b:Nat)(bs:List Value)(s:ByteArray)(w:World)(h:Lib.IsBuilder 118 5 B b bs w)(hlen:bs.length+s.size≤140737488355328)(hBw:B≤w.heap.size) :
  Calls Tryz.prog 49 #[.pointer (some ⟨b,0,none⟩),.string s] w fun e w'=>e=.returned (.tuple #[.int .i64 s.size,.nilIface])∧(Lib.BuilderAt 118 5 B b (.pointer (some ⟨b,0,none⟩)) (bs++Lib.strCells s) w'∧Below B w w'∧qJo b 5 w w'):=by
 obtain⟨i0,hi,hz0,hz1,hz2⟩:=info_parts infoByte;go_enter Tryz.func49,Tryz.ntmps49;go_wp2_with (go_at_call 89;refine(qEc B b bs _ h).mono ?_);rintro e w1 ⟨rfl,h1,hb1,hk1⟩;have HK1:=Hh hk1;clear hk1;obtain⟨hB,v,hbk,hown,hne⟩:=h1;have c0:w1.cell? ⟨b,0,none⟩=some (.pointer (some ⟨b,0,none⟩)):=by rw[Lib.cell_of_heap hbk];rfl
 have c1:w1.cell? ⟨b,1,none⟩=some v:=by rw[Lib.cell_of_heap hbk];rfl
 go_wp2_with (at_builtin;refine Lib.wpList_append_own_string _ rfl _ _ 89 9 rfl B 5 i0 Tryz.underlying89 Tryz.underlying9 hi hz0 hz1 hz2 _ _ _ rfl hown s rfl ?c3 ?c4 ?c5 ?_)
 case c3=>unfold maxLen;omega
 case c4=>omega
 case c5=>have:=hb1.size;omega
 intro v' w2 hown' hgrow _;have hlt:b<w1.heap.size:=by
  rcases zu b w1.heap.size with h' | h'
  ·exact h'
  ·simp[Array.getElem?_eq_none h'] at hbk
 have hb2:w2.heap[b]?=some (.cells #[.pointer (some ⟨b,0,none⟩),v] 118 (0,0)):=by
  rw[hgrow.block b hlt (fun e=>hne e.symm)];exact hbk
 have d0:w2.cell? ⟨b,0,none⟩=some (.pointer (some ⟨b,0,none⟩)):=by rw[Lib.cell_of_heap hb2];rfl
 have d1:w2.cell? ⟨b,1,none⟩=some v:=by rw[Lib.cell_of_heap hb2];rfl
 have f1:w2.frozen? ⟨b,1,none⟩=false:=Lib.frozen_of_heap hb2 1;obtain⟨ao,n',cap,rfl⟩:∃ ao n' cap,v'=.slice ao n' cap:=by
  rcases hown'.2 with ⟨hv,_⟩ | ⟨g,cap,cur,hv,_⟩
  ·exact⟨_,_,_,hv⟩
  ·exact⟨_,_,_,hv⟩
 go_wp2;go_ret2;refine⟨rfl,?_,?_,?_⟩
 ·exact Lib.BuilderAt.put (T:=118) (e:=5) hB hb2 (bs':=bs++Lib.strCells s) (by simpa[Lib.strCells_length] using hown') (by decide)
 ·exact(hb1.grown hgrow (by have:=hb1.size;omega) (fun k hk=>(hown.lt k hk).1)).setCell (p:=⟨b,1,none⟩) hB _
 ·intro k o hk hne ho;rw[zA _ _ _ _ hne];have h1:=HK1.o k o hk hne ho;have hlt1:k<w1.heap.size:=by
   rcases zu k w1.heap.size with h' | h'
   ·exact h'
   ·rw[Array.getElem?_eq_none h'] at h1;cases h1
  rw[hgrow.block k hlt1 ?_]
  ·exact h1
  ·intro e
   rcases hown.2 with ⟨hv,_⟩ | ⟨g,cap,cur,hv,_,hg,_⟩
   ·rw[hv] at e;simp[Value.ownBlock] at e
   ·rw[hv] at e;have:k=g:=by simpa[Value.ownBlock] using e
    subst this;rw[hg] at h1;injection h1 with h1
    exact ho _ _ h1.symm
theorem Below.toGrown {w w':World}(h:Below w.heap.size w w')(row:Option Nat):w.grownBy w' row:=⟨h.os,h.tape,h.output,h.size,fun i hi _=>h.block i hi⟩
theorem qAI {T e:TypeId}{B b:Nat}{p:Value}{bs:List Value}{w w':World}(h:Lib.BuilderAt T e B b p bs w)(hb:Below w.heap.size w w'):Lib.BuilderAt T e B b p bs w':=by
 have hlt:=h.lt;obtain⟨h1,v,h2,h3,h4⟩:=h;exact⟨h1,v,(hb.block b hlt).trans h2,h3.kept (Below.toGrown hb (some b)) (Or.inr h4),h4⟩
theorem qAE {T e:TypeId}{B b:Nat}{bs:List Value}{w w':World}(h:Lib.IsBuilder T e B b bs w)(hb:Below w.heap.size w w'):Lib.IsBuilder T e B b bs w' :=
 h.imp (qAI · hb) (qAI · hb)
theorem qEl (l:List UInt8):Lib.strCells ⟨l.toArray⟩=Lib.byteCells l:=by simp[Lib.strCells,Lib.byteCells]
theorem byteCells_append (a b:List UInt8):Lib.byteCells a++Lib.byteCells b=Lib.byteCells (a++b):=by simp[Lib.byteCells]
def errAt (w:World)(g:Nat)(p:Addr):Prop:=w.cell? ⟨g,0,none⟩=some (.iface 376 (.pointer (some p)))∧g<w.heap.size
theorem errAt.later {w w':World}{g:Nat}{p:Addr}(h:errAt w g p)(hb:Below w.heap.size w w'):errAt w' g p :=
 ⟨(hb.cell (p:=⟨g,0,none⟩) h.2).trans h.1,zt h.2 hb.size⟩
theorem xF (w:World)(a b c:Obj):Below w.heap.size w (((w.alloc a).alloc b).alloc c) :=
 (((zB _ w).alloc (zo _) a).alloc (by simp) b).alloc (by simp;omega) c
theorem Below.drewN {B:Nat}{a w:World}(h:Below B a w):∀ n,Below B a (w.drewN n)
 | 0=>h
 | n+1=>(Below.drewN h n).drew
theorem qS (w:World)(o:Obj){k:Nat}{x:Obj}(h:w.heap[k]?=some x):(w.alloc o).heap[k]?=some x:=(Below.heap_alloc w o k (zN1 h)).trans h
theorem dZ (w w1:World)(a b c:Obj)(hb:Below (((w.alloc a).alloc b).alloc c).heap.size (((w.alloc a).alloc b).alloc c) w1) :
  w1.heap[w.heap.size]?=some a∧w1.heap[w.heap.size+1]?=some b∧w1.heap[w.heap.size+1+1]?=some c:=by
 have e1:(w.alloc a).heap[w.heap.size]?=some a:=zK1 w a;have e2:((w.alloc a).alloc b).heap[w.heap.size+1]?=some b:=by have:=zK1 (w.alloc a) b;simpa using this
 have e3:(((w.alloc a).alloc b).alloc c).heap[w.heap.size+1+1]?=some c:=by have:=zK1 ((w.alloc a).alloc b) c;simpa using this
 have f1:=qS _ c (qS _ b e1);have f2:=qS _ c e2;exact⟨(hb.block _ (zN1 f1)).trans f1,(hb.block _ (zN1 f2)).trans f2,(hb.block _ (zN1 e3)).trans e3⟩
end Go.Proofs.YtbmkaekimccdgaaGreatDoor
namespace Go.Proofs.YtbmkaekimccdgaaGreatDoor
open Go.RowKit Go.Maps Go.Sort Go.Shelf
def Strs (w:World)(v:Value)(l:List (List UInt8)):Prop :=
 ∃ A c,v=.slice A l.length c∧(l≠[]→∃ b off,A=some ⟨b,off,none⟩∧b<w.heap.size∧∀ (j:Nat) x,l[j]?=some x→w.cell? ⟨b,off+j,none⟩=some (.string ⟨x.toArray⟩))
theorem Strs.later {w w':World}{v:Value}{l:List (List UInt8)}(h:Strs w v l)(hb:Below w.heap.size w w'):Strs w' v l:=by
 obtain⟨A,c,rfl,h1⟩:=h;refine⟨A,c,rfl,fun hn=>?_⟩;obtain⟨b,off,rfl,hlt,hc⟩:=h1 hn;exact⟨b,off,rfl,zt hlt hb.size,fun j x hx=>(hb.cell (p:=⟨b,off+j,none⟩) hlt).trans (hc j x hx)⟩
theorem wF (v:Value)(l:List (List UInt8))(x:List UInt8)(w:World)(h:Strs w v l)(hl:l.length≤9223372036854775807) :
  Calls Tryz.prog 167 #[v,.string ⟨x.toArray⟩] w fun e w'=>e=.returned (.bool (l.contains x))∧w'=w:=by
 obtain⟨A,c,rfl,h1⟩:=h;by_cases hn:l=[]
 ·subst hn;exact Tryz.slices_Contains_string_empty A c ⟨x.toArray⟩ w
 ·obtain⟨b,off,rfl,hlt,hc⟩:=h1 hn;have hz:(l.map fun x=>(⟨x.toArray⟩:ByteArray)).length=l.length:=by simp
  have:=Tryz.slices_Contains_string b off l.length c (l.map fun x=>⟨x.toArray⟩) ⟨x.toArray⟩ w (by simp) hl (fun j hj=>by
   rw[hz] at hj
   rw[hc j (l[j]) (zL hj)]
   simp[List.getD_eq_getElem?_getD,hj])
  have e:Lib.containsS ((l.map fun x=>(⟨x.toArray⟩:ByteArray)).take l.length) ⟨x.toArray⟩=l.contains x:=by
   rw[zm (by simp),Bool.eq_iff_iff,Lib.containsS_iff,List.contains_iff_mem];simp
  rw[e] at this;exact this
def SetAt (w:World)(b n:Nat)(acc:List (List UInt8)):Prop :=
 ∃ D:DataW Unit,w.ownsMap Tryz.prog 9 (plainElem Tryz.prog 4) b n D∧∀ x,Maps.has D (.string x)=true↔x∈acc
theorem qIr (x:List UInt8):WideAt.IsKeyLit (Lit.string x):=by trivial
theorem qGd {D:DataW Unit}(hD:Maps.IsMap D)(x y:List UInt8)(d:DataW Unit):Maps.has (D.put (.string x) d) (.string y)=true↔y=x∨Maps.has D (.string y)=true:=by
 by_cases h:y=x
 ·subst h;simp[Maps.has_put_same hD (qIr y)]
 ·rw[Maps.has_put_other (fun e=>h (by injection e)) d];simp[h]
theorem qEa {w w':World}{k:TypeId}{R:Value→Option (DataW Unit×List MemPlace)}{b n:Nat}{D:DataW Unit}(h:w.ownsMap Tryz.prog k R b n D)(hb:Below w.heap.size w w'):w'.ownsMap Tryz.prog k R b n D:=by
 have hl:=h.lt;obtain⟨es,clock,h1,h2⟩:=h;exact⟨es,clock,(hb.block b hl).trans h1,h2⟩
theorem SetAt.later {w w':World}{b n:Nat}{acc:List (List UInt8)}(h:SetAt w b n acc)(hb:Below w.heap.size w w'):SetAt w' b n acc:=by
 obtain⟨D,h1,h2⟩:=h;exact⟨D,qEa h1 hb,h2⟩
theorem qIE {w:World}{b n:Nat}{D:DataW Unit}{acc ss m:List (List UInt8)}(h1:w.ownsMap Tryz.prog 9 (plainElem Tryz.prog 4) b n D)(h2:∀ x,Maps.has D (.string x)=true↔x∈acc)
  (hm:Stl.Rise m) (hma:∀ x,x∈m↔x∈acc) (hss:ss.Perm (strKeys D)):ss.mergeSort (fun x y=>decide (x≤y))=m:=by
 obtain⟨es,hD,hpw,_⟩:=h1.entries (string_keyed Tryz.underlying9);obtain⟨es',hD',hko⟩:=h1.keysOf;obtain rfl:es=es':=by rw[hD] at hD';simpa using hD'
 subst hD;have hnd:m.Nodup:=List.Pairwise.imp (R:=(·<·)) (S:=(·≠·)) (fun {a b} h (e:a=b)=>Stl.blt_irrefl a (e▸h)) hm;have hp:m.Perm (strKeys (.map es)):=perm_strKeys hpw (fun p hp=>by obtain⟨v,hv⟩:=hko p hp;obtain⟨x,_,hx,_⟩:=Maps.keyOf_str Tryz.underlying9 hv;exact⟨x,hx⟩) hnd (fun x=>by rw[hma,h2]);rw[show (fun x y:List UInt8=>decide (x≤y))=leB from rfl,mergeSort_of_perm (hss.trans hp.symm)];refine List.mergeSort_of_pairwise (hm.imp fun h=>?_);simpa using List.le_of_lt h
theorem Strs.grown {w w':World}{v:Value}{l:List (List UInt8)}{b n:Nat}{acc:List (List UInt8)}(h:Strs w v l)(hs:SetAt w b n acc)(hg:w.grownBy w' (some b)):Strs w' v l:=by
 obtain⟨D,⟨es,clock,hb,_⟩,_⟩:=hs;obtain⟨A,c,rfl,h1⟩:=h;refine⟨A,c,rfl,fun hn=>?_⟩;obtain⟨g,off,rfl,hlt,hc⟩:=h1 hn;refine⟨g,off,rfl,zt hlt hg.size,fun j x hx=>?_⟩;have:=hc j x hx;have hne:g≠b:=by
  rintro rfl;simp[World.cell?,hb] at this
 rw[zD1 (hg.block g hlt (fun e=>hne (by injection e)))];exact this
structure FSt (w0 W:World)(nv:Value)(b1 b2 b3:Nat)(names:List (List UInt8))(pre:List (Nat×List UInt8)):Prop where
 nms:W.heap[b1]?=some (.cells #[nv] 22 (0,0))
 box:W.heap[b3]?=some (.cells #[.map (some b2)] 284 (0,0))
 strs:Strs W nv names
 set:SetAt W b2 pre.length ((pre.map (·.2)).filter fun w=>Stl.isName w&&names.contains w)
 old:w0.heap.size≤b2
 below:Below w0.heap.size w0 W
theorem FSt.later {w0 W W':World}{nv:Value}{b1 b2 b3:Nat}{names:List (List UInt8)}{pre:List (Nat×List UInt8)}(h:FSt w0 W nv b1 b2 b3 names pre)(hb:Below W.heap.size W W'):FSt w0 W' nv b1 b2 b3 names pre :=
 ⟨(hb.block _ (zN1 h.nms)).trans h.nms,(hb.block _ (zN1 h.box)).trans h.box,h.strs.later hb,h.set.later hb,h.old,h.below.trans (hb.mono h.below.size)⟩
theorem FSt.more {w0 W W':World}{nv:Value}{b1 b2 b3:Nat}{names:List (List UInt8)}{pre:List (Nat×List UInt8)}{m:Nat×List UInt8}(h:FSt w0 W nv b1 b2 b3 names pre)(hw:(Stl.isName m.2&&names.contains m.2)=false)(hb:Below W.heap.size W W') :
  FSt w0 W' nv b1 b2 b3 names (pre++[m]):=by
 have h':=h.later hb;refine⟨h'.nms,h'.box,h'.strs,?_,h'.old,h'.below⟩;obtain⟨D,h1,h2⟩:=h'.set;refine⟨D,h1.mono (by simp),fun x=>?_⟩;rw[h2];rw[zU,List.filter_append,zV,List.map_nil,zI,hw];simp
theorem qKu {w0 W:World}{nv:Value}{b1 b2 b3:Nat}{names:List (List UInt8)}{pre:List (Nat×List UInt8)}(at_:Nat)(wd:List UInt8)(h:FSt w0 W nv b1 b2 b3 names pre)(hpre:pre.length<1000000)(hwd:wd.length≤1000000)(hn:names.length≤1000000) :
  Calls Tryz.prog 234 #[.int .i64 at_,.string ⟨wd.toArray⟩,.pointer (some ⟨b1,0,none⟩),.pointer (some ⟨b3,0,none⟩)] W fun e W'=>e=.returned (.tuple #[])∧FSt w0 W' nv b1 b2 b3 names (pre++[(at_,wd)]):=by
 have HS:=Hh h;clear h;go_enter Tryz.func234,Tryz.ntmps234
 cases hn1:Stl.isName wd
 ·go_wp2_with fail;refine(gD _ _ (by omega)).mono ?_;rintro e w1 ⟨rfl,hb⟩;rw[hn1];have HB:=Hh hb;clear hb;go_wp2;go_end0;exact⟨rfl,HS.o.more (m:=(at_,wd)) (by simp[hn1]) HB.o⟩
 ·go_wp2_with fail;refine(gD _ _ (by omega)).mono ?_;rintro e w1 ⟨rfl,hb⟩;rw[hn1];have HS1:=Hh (HS.o.later hb);clear hb HS;have c1:=cell_of_one HS1.o.nms
  cases hn2:names.contains wd
  ·go_wp2_with fail;refine(wF _ _ _ _ HS1.o.strs (by omega)).mono ?_;rintro e w2 ⟨rfl,rfl⟩;rw[hn2];go_wp2;go_end0;exact⟨rfl,HS1.o.more (m:=(at_,wd)) (by show (Stl.isName wd&&names.contains wd)=false;rw[hn1,hn2];rfl) (zB _ _)⟩
  ·go_wp2_with fail;refine(wF _ _ _ _ HS1.o.strs (by omega)).mono ?_;rintro e w2 ⟨rfl,rfl⟩;rw[hn2];have c3:=cell_of_one HS1.o.box;obtain⟨D,hown,hD⟩:=HS1.o.set;have HD:=Hh hD;have HO:=Hh hown;have HK:=Hh (WideMaps.keyOf_string_mk (P:=Tryz.prog) Tryz.underlying9 (show (ByteArray.mk wd.toArray).size≤maxLen by simp[ByteArray.size,maxLen];omega));clear hD;go_wp2_with (at_mapUpdate;refine wpList_mapUpdate_own _ rfl _ _ _ 284 rfl 9 4 (string_keyed Tryz.underlying9) Tryz.underlying284 _ b2 pre.length _ rfl HO.o (by unfold maxLen;omega) _ _ (Lit.string wd) rfl rfl HK.o _ [] (plainElem_bool Tryz.underlying4 true) ?_;intro w3 hown3 hg3);have hne1:b1≠b2:=by
    rintro rfl;obtain⟨es,clock,hb,_⟩:=HO.o;rw[HS1.o.nms] at hb
    cases hb
   have hne3:b3≠b2:=by
    rintro rfl;obtain⟨es,clock,hb,_⟩:=HO.o;rw[HS1.o.box] at hb
    cases hb
   have hS:=HS1.o;go_end0;refine⟨rfl,(hg3.block _ (zN1 hS.nms) (fun e=>hne1 (by injection e))).trans hS.nms,(hg3.block _ (zN1 hS.box) (fun e=>hne3 (by injection e))).trans hS.box,hS.strs.grown hS.set hg3,⟨_,by simpa using hown3,fun x=>?_⟩,hS.old,hS.below.trans ⟨hg3.os,hg3.tape,hg3.output,hg3.size,fun k hk=>hg3.block k (zt hk hS.below.size) (fun e=>by injection e with e;have:=hS.old;omega)⟩⟩;rw[qGd hown.isMap,HD.o,zU,List.filter_append,zV,List.map_nil,zI,hn1,hn2];simp[or_comm]
theorem qFv (m:Nat):AnyZ.SortsIn Tryz.prog Tryz.sortedS_ren Fence.wide m :=
 ⟨fun blk off cap ss W hH hblk hsz=>zI1.2 (AnyM.slices_Sort_string Tryz.sortS blk off cap ss W hH hblk hsz),
  fun p cap W=>zI1.2 (AnyM.slices_Sort_string_none Tryz.sortS p cap W)⟩
theorem qHs (mb:Option Nat)(W:World):Calls Tryz.prog 193 #[.map mb] W fun e w'=>e=.returned (.func (.func 251) #[] #[.pointer (some ⟨W.heap.size,0,none⟩)])∧w'=W.alloc (.cells #[.map mb] 284) :=
 zI1.1 (AnyZ.keys_in Tryz.keysMSB Fence.wide 5 trivial rfl mb W)
theorem qIg (b nn:Nat)(D0:DataW Unit)(R:Value→Option (DataW Unit×List MemPlace))(w:World)(hown:w.ownsMap Tryz.prog 9 R b nn D0)(hmax:Maps.size D0≤maxLen)(hbytes:Maps.size D0*16≤140737488355328) :
  Calls Tryz.prog 192 #[.func (.func 251) #[] #[.pointer (some ⟨w.heap.size,0,none⟩)]] (w.alloc (.cells #[.map (some b)] 284)) fun e w'=>∃ (v:Value) (ss:List (List UInt8)),e=.returned v∧ss.Perm (strKeys D0) ∧
   w'.ownsRow (w.alloc (.cells #[.map (some b)] 284)).heap.size 9 1 v ss.length ((ss.mergeSort (fun x y=>decide (x≤y))).map encStr)∧(v=.slice none 0 0↔ss=[])∧Below (w.alloc (.cells #[.map (some b)] 284)).heap.size (w.alloc (.cells #[.map (some b)] 284)) w':=by
 have hbl:=hown.lt;have hseq:SeqGives Fence.wide 2 Tryz.prog 251 #[.pointer (some ⟨w.heap.size,0,none⟩)] encStr (fun ss=>ss.Perm (strKeys D0)) (Maps.size D0) (w.alloc (.cells #[.map (some b)] 284)) :=
  AnyZ.keys_gives (ρ:=Tryz.keysMSB_ren) { Tryz.keysMSB with } Fence.wide _ trivial rfl (by omega) w.heap.size b nn D0 _ (by simp) (by simp) (by
   obtain⟨es,clock,hb,Ft,hs,hD⟩:=hown
   exact⟨es,clock,(Below.heap_alloc _ _ b hbl).trans hb,Ft,hs,hD⟩)
 exact zI1.1 (AnyZ.sorted_in Tryz.sortedS Fence.wide 5 trivial trivial trivial trivial rfl (by omega) (qFv _) (enters_of Tryz.func173 (by kernel_rfl) rfl) 251 #[.pointer (some ⟨w.heap.size,0,none⟩)] trivial (enters_of Tryz.func251 (by kernel_rfl) rfl) _ _ hmax hbytes _ hseq)
theorem vF {w:World}{base:Nat}{v:Value}{n:Nat}{l:List (List UInt8)}(h:w.ownsRow base 9 1 v n (l.map encStr)):Strs w v l:=by
 have hc:=@World.ownsRow.cells _ _ _ _ _ _ _ h;have hlt:=h.lt;obtain⟨h1,h2⟩:=h;have hn:n=l.length:=by simpa using h1.symm
 subst hn
 rcases h2 with ⟨rfl,h2⟩ | ⟨g,cap,cur,rfl,h2⟩
 ·refine⟨none,0,?_,fun hne=>?_⟩
  ·rw[h2]
  ·exact absurd (zR.1 h2) hne
 ·refine⟨_,cap,rfl,fun hne=>⟨g,0,rfl,(hlt g rfl).2,fun j x hx=>?_⟩⟩;have:=hc (g:=g) rfl j (encStr x) (by simp[hx]);show w.cell? ⟨g,0+j,none⟩=_;by_cases hj:j=0
  ·subst hj;exact this
  ·simpa[Addr.add,hj] using this
theorem qD2 {l:List UInt8}{pre:List (Nat×List UInt8)}{at_:Nat}{wd:List UInt8}(h:∃ rest,pre++(at_,wd)::rest=Stl.mentsAt 0 l):pre.length<l.length:=by
 obtain⟨rest,h⟩:=h;have:=Stl.mentsAt_length 0 l;rw[← h] at this;simp at this;omega
theorem qNm (l:List UInt8):(Stl.word l).length≤l.length:=by
 unfold Stl.word;exact(List.takeWhile_prefix _).length_le
theorem qFf (args:Array Value)(w:World):(callFunc 234 args).run Tryz.prog w=.ok (.enter 234 args) w:=enters_of Tryz.func234 (by kernel_rfl) rfl args w
theorem qIv {w0 W:World}{nv:Value}{b1 b2 b3:Nat}{names:List (List UInt8)}{l:List UInt8}(hF:FSt w0 W nv b1 b2 b3 names [])(hl:l.length≤1000000)(hn:names.length≤1000000) :
  Calls Tryz.prog 233 #[.string ⟨l.toArray⟩,.func (.func 234) #[] #[.pointer (some ⟨b1,0,none⟩),.pointer (some ⟨b3,0,none⟩)]] W fun e W'=>e=.returned (.tuple #[])∧FSt w0 W' nv b1 b2 b3 names (Stl.mentsAt 0 l):=by
 refine qFo l (by omega) _ _ qFf (fun pre W=>FSt w0 W nv b1 b2 b3 names pre) (fun pre W W' h hb=>h.later hb) ?_ W hF;intro pre at_ W1 h1 hat hr;have hp:=qD2 hr;have hw:=qNm (l.drop at_);rw[List.length_drop] at hw;exact qKu at_ (Stl.word (l.drop at_)) h1 (by omega) (by omega) hn
theorem qM3 (l:List UInt8)(hl:l.length≤1000000)(nv:Value)(names:List (List UInt8))(hn:names.length≤1000000)(w:World)(hs:Strs w nv names) :
  Calls Tryz.prog 172 #[.string ⟨l.toArray⟩,nv] w fun e w'=>∃ v,e=.returned v∧w'.ownsRow 0 9 1 v (Stl.found l names).length ((Stl.found l names).map encStr)∧Below w.heap.size w w':=by
 have hmm:=@run_makeMap Tryz.prog;obtain⟨A,c,rfl,h1⟩:=id hs;clear h1;go_enter Tryz.func172,Tryz.ntmps172;have HSt:=Hh hs;clear hs;go_wp2_with fail;have h0:FSt w (((w.alloc (.cells #[.slice A names.length c] 22)).alloc (.map #[] 0)).alloc (.cells #[.map (some (w.heap.size+1))] 284)) (.slice A names.length c) w.heap.size (w.heap.size+1) (w.heap.size+1+1) names []:=by
  have hbl:Below w.heap.size w (((w.alloc (.cells #[.slice A names.length c] 22)).alloc (.map #[] 0)).alloc (.cells #[.map (some (w.heap.size+1))] 284)):=xF w _ _ _;obtain⟨k1,k2,k3⟩:=dZ w _ (.cells #[.slice A names.length c] 22) (.map #[] 0) (.cells #[.map (some (w.heap.size+1))] 284) (zB _ _);refine⟨k1,k3,HSt.o.later hbl,?_,by omega,hbl⟩
  ·refine⟨.map [],?_,fun x=>by simp[Maps.has]⟩;have:=World.ownsMap_made (H:=Unit) (w.alloc (.cells #[.slice A names.length c] 22)) Tryz.prog 9 (plainElem Tryz.prog 4);have:=this.alloc (.cells #[.map (some (w.heap.size+1))] 284);simpa using this
 refine(qIv h0 hl hn).mono ?_;rintro e w1 ⟨rfl,hF⟩;have c3:=cell_of_one hF.box;obtain⟨D,hown,hD⟩:=hF.set;have HD:=Hh hD;have HF:=Hh hF;have HO:=Hh hown;clear hD hF hown h0;have hk:=Stl.mentsAt_length 0 l;have hz:=HO.o.size_le;have HK:=Hh hk;have HZ:=Hh hz;clear hk hz HSt hmm;go_wp2_with (first
  | (go_at_call 193;refine(qHs _ _).mono ?_;rintro e w' ⟨rfl,rfl⟩)
  | (go_at_call 192;refine(qIg (w.heap.size+1) _ D _ w1 HO.o (by have:=HK.o;have:=HZ.o;unfold maxLen;omega) (by have:=HK.o;have:=HZ.o;omega)).mono ?_;rintro e w2 ⟨v,ss,rfl,hss,hrow,hnil,hb⟩))
 have hm:ss.mergeSort (fun x y=>decide (x≤y))=Stl.found l names:=qIE HO.o HD.o (Stl.rise_insAll _ _ Stl.rise_nil) (fun x=>by
  unfold Stl.found
  rw[Stl.mem_insAll,Stl.mentsAt_words]
  simp) hss
 have hlen:ss.length=(Stl.found l names).length:=by rw[← hm,List.length_mergeSort]
 rw[hm,hlen] at hrow;have hS:w2.ownsRow 0 9 1 v (Stl.found l names).length ((Stl.found l names).map encStr):=by
  obtain⟨k1,k2⟩:=hrow;refine⟨k1,?_⟩
  rcases k2 with k2 | ⟨g,cap,cur,k3,_,k4⟩
  ·exact .inl k2
  ·exact .inr ⟨g,cap,cur,k3,zw _,k4⟩
 have hB:Below w.heap.size w w2:=HF.o.below.trans (((Below.alloc (zB _ w1) (zo _) _).trans (hb.mono (by simp))).mono HF.o.below.size);clear hrow hss hm hnil hb hlen;go_ret;exact⟨v,rfl,hS,hB⟩
theorem Strs.cellAt {w:World}{A:Option Addr}{n c:Nat}{l:List (List UInt8)}(h:Strs w (.slice A n c) l){j:Nat}(hj:j<l.length):∃ b off,A=some ⟨b,off,none⟩∧b<w.heap.size∧w.cell? ⟨b,off+j,none⟩=some (.string ⟨(l[j]).toArray⟩):=by
 obtain⟨A',c',e,h1⟩:=h;injection e with e1 e2 e3
 subst e1;obtain⟨b,off,h2,h3,h4⟩:=h1 (by intro hn;subst hn;simp at hj);exact⟨b,off,h2,h3,h4 j _ (zL hj)⟩
end Go.Proofs.YtbmkaekimccdgaaGreatDoor
