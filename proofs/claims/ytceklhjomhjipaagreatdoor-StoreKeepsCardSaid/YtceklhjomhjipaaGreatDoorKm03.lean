/- Texts of this claim, merged: Names, Mentions, Build, Base, RisePure. -/
import Derived.BigQuiet
import Derived.Deep.QuietTactic
import Derived.StillTailTactics
import Derived.WalkLawsBesides
import Derived.WalkSpells
import Derived.Test.YtceklhjomhjipaaGreatDoorKm02
set_option maxHeartbeats 16000000
set_option maxRecDepth 1000000
set_option linter.all false
namespace Go.Proofs.YtceklhjomhjipaaGreatDoor
open Go.RowKit
def qB0:List UInt8:=[97,98,99,100,101,102,103,104,105,106,107,108,109,110,111,112,113,114,115,116,117,118,119,120,121,122,48,49,50,51,52,53,54,55,56,57,46,45]
theorem qCQ (c:UInt8):qB0.contains c=Stl.isLetter c:=by
 have h:∀ n:Nat,n<256→qB0.contains (UInt8.ofNat n)=Stl.isLetter (UInt8.ofNat n):=by decide +kernel
 have:=h c.toNat (UInt8.toNat_lt c)
 simpa using this
theorem qFx (l:List UInt8):Lib.trimLeftS l qB0=l.drop (Stl.word l).length:=by
 unfold Lib.trimLeftS
 induction l with
 | nil=>rfl
 | cons c r ih =>
  rw [List.dropWhile_cons,qCQ]
  cases hc:Stl.isLetter c
  ·simp [Stl.word,hc]
  ·have:Stl.word (c::r)=c::Stl.word r:=by simp [Stl.word,hc]
   rw [this]
   simpa using ih
theorem dropWhile_nil {p:UInt8→Bool}:∀ l:List UInt8,l.dropWhile p=[]↔l.all p=true
 | []=>by simp
 | c::r=>by
  rw [List.dropWhile_cons]
  cases hc:p c
  ·simp [hc]
  ·simp [hc,dropWhile_nil r]
theorem qFh (l:List UInt8):Lib.trimS l qB0=[]↔l.all Stl.isLetter=true:=by
 unfold Lib.trimS Lib.trimLeftS Lib.trimRightS
 have e:(fun c=>qB0.contains c)=Stl.isLetter:=funext qCQ
 rw [e,dropWhile_nil,List.all_eq_true,List.all_eq_true]
 constructor
 ·intro h
  have hr:(l.reverse.dropWhile Stl.isLetter)=[]:=by
   cases hd:l.reverse.dropWhile Stl.isLetter with
   | nil=>rfl
   | cons x t =>
    have h1:=h x (by simp [hd])
    have h2:=List.head?_dropWhile_not Stl.isLetter l.reverse
    rw [hd] at h2
    simp [h1] at h2
  have:=(dropWhile_nil _).1 hr
  rw [List.all_eq_true] at this
  intro x hx
  exact this x (by simpa using hx)
 ·intro h x hx
  have h1:x∈l.reverse.dropWhile Stl.isLetter:=by simpa using hx
  exact h x (by simpa using (List.dropWhile_sublist _).mem h1)
theorem qPI:(Tryz.prog.info? 273).map (fun i=>(i.zero,i.size))=some (some (.agg (Array.replicate 256 (.bool false))),256):=by kernel_rfl
theorem qEo:∀ (j:Nat) b,(⟨qB0.toArray⟩:ByteArray).data.toList[j]?=some b→b.toNat<128:=ascii_of_all (by decide)
theorem qPq (l:List UInt8) (w:World) (hl:l.length≤9223372036854775807) :
  Calls Tryz.prog 123 #[.string ⟨l.toArray⟩,.string ⟨qB0.toArray⟩] w fun e w'=>e=.returned (.string ⟨(Lib.trimS l qB0).toArray⟩)∧Below w.heap.size w w' :=
 Any.strings_Trim_laid Tryz.lays160 qPI ⟨l.toArray⟩ ⟨qB0.toArray⟩ w (by show l.toArray.size≤_;simpa using hl) (by decide) qEo
theorem qIg (l:List UInt8) (w:World) :
  Calls Tryz.prog 284 #[.string ⟨l.toArray⟩,.string ⟨qB0.toArray⟩] w fun e w'=>e=.returned (.string ⟨(l.drop (Stl.word l).length).toArray⟩)∧Below w.heap.size w w':=by
 have h:=Any.strings_TrimLeft_laid Tryz.lays161 qPI ⟨l.toArray⟩ ⟨qB0.toArray⟩ w (by decide) qEo
 simp only [qFx] at h
 exact h
theorem qBb (l:List UInt8) (k:Nat):(⟨l.toArray⟩:ByteArray).extract 0 k=⟨(l.take k).toArray⟩:=by
 apply ByteArray.ext
 simp [ByteArray.extract,ByteArray.copySlice]
theorem extract_drop (l:List UInt8) (k:Nat):(⟨l.toArray⟩:ByteArray).extract k l.length=⟨(l.drop k).toArray⟩:=by
 apply ByteArray.ext
 simp [ByteArray.extract,ByteArray.copySlice]
 rw [zn (by simp)]
theorem qI2 (l:List UInt8) (i k:Nat):(⟨l.toArray⟩:ByteArray).extract i k=⟨((l.take k).drop i).toArray⟩:=by
 apply ByteArray.ext
 simp [ByteArray.extract,ByteArray.copySlice,List.extract_eq_take_drop,List.drop_take]
theorem qOp (l:List UInt8) (w:World) (hl:l.length≤9223372036854775807) :
  Calls Tryz.prog 234 #[.string ⟨l.toArray⟩] w fun e w'=>e=.returned (.string ⟨(Stl.word l).toArray⟩)∧Below w.heap.size w w':=by
 have hw:=Stl.word_length_le l
 go_enter Tryz.func234,Tryz.ntmps234
 go_wp2_with (go_at_call 284;refine (qIg _ _).mono ?_;rintro e w' ⟨rfl,hb⟩)
 go_ret
 refine ⟨?_,hb⟩
 rw [qBb,show l.length-(l.length-(Stl.word l).length)=(Stl.word l).length by omega,Stl.word_take]
 rfl
theorem qDp (l:List UInt8) (w:World) (hl:l.length≤9223372036854775807) :
  Calls Tryz.prog 74 #[.string ⟨l.toArray⟩] w fun e w'=>e=.returned (.bool (Stl.isName l))∧Below w.heap.size w w':=by
 go_enter Tryz.func74,Tryz.ntmps74
 go_wp2_with (go_at_call 123;refine (qPq _ _ (by assumption)).mono ?_;rintro e w' ⟨rfl,hb⟩)
 all_goals go_ret
 all_goals refine ⟨?_,by first | exact zB _ _ | assumption⟩
 ·rename_i h1
  subst h1
  rfl
 ·rename_i h1 h2 h3 h4
  subst h4
  rfl
 ·rename_i h1 h2 h3 h4
  have h5:(l.all Stl.isLetter)=true:=(qFh l).1 (by assumption)
  have h6:1≤l.length:=by
   cases l
   ·exact absurd rfl (by assumption)
   ·simp
  have h7:l.length≤12:=by omega
  have h8:l.isEmpty=false:=by cases l<;>simp_all
  have e:(!l.isEmpty&&!l==[46]&&!l==[46,46])=Stl.isName l:=by
   simp [Stl.isName,h5,h6,h7,h8,bne]
  rw [← e]
  rfl
 ·rename_i h1 h2 h3
  have h5:(l.all Stl.isLetter)=false:=by
   cases h:l.all Stl.isLetter
   ·rfl
   ·exact absurd ((qFh l).2 h) (by assumption)
  have e:Stl.isName l=false:=by simp only [Stl.isName,h5,Bool.and_false,Bool.false_and]
  rw [e]
  rfl
 ·have h6:¬ l.length≤12:=by omega
  have e:Stl.isName l=false:=by simp only [Stl.isName,decide_eq_false h6,Bool.and_false,Bool.false_and]
  rw [e]
  rfl
theorem qFJ:∀ (r:List UInt8) (k:Nat),(Lib.indexByte r 35=-1∧Stl.mentsAt k r=[]) ∨
  ∃ j:Nat,Lib.indexByte r 35=j∧j<r.length∧Stl.mentsAt k r=(k+j+1,Stl.word (r.drop (j+1)))::Stl.mentsAt (k+j+1) (r.drop (j+1))
 | [],k=>.inl ⟨rfl,rfl⟩
 | c::r,k=>by
  have e0:Stl.mentsAt k (c::r)=if c==35 then (k+1,Stl.word r)::Stl.mentsAt (k+1) r else Stl.mentsAt (k+1) r:=rfl
  have e1:Lib.indexByte (c::r) 35=if c==35 then 0 else if Lib.indexByte r 35==-1 then -1 else Lib.indexByte r 35+1:=rfl
  rw [e0,e1]
  cases hc:(c==35)
  ·rcases qFJ r (k+1) with ⟨h1,h2⟩ | ⟨j,h1,h2,h3⟩
   ·exact .inl ⟨by rw [h1];rfl,by rw [h2];rfl⟩
   ·refine .inr ⟨j+1,?_,by simp;omega,?_⟩
    ·have:(Lib.indexByte r 35==-1)=false:=by rw [h1,zG1];omega
     rw [this,h1]
     rfl
    ·rw [h3,List.drop_succ_cons,show k+1+j+1=k+(j+1)+1 by omega]
     rfl
  ·exact .inr ⟨0,rfl,by simp,rfl⟩
theorem qIm (l:List UInt8) (hl:l.length≤9223372036854775807) (g:Nat) (caps:Array Value) (hg:∀ args w,(callFunc g args).run Tryz.prog w=.ok (.enter g args) w)
  (I:List (Nat×List UInt8)→World→Prop) (hst:∀ pre W W',I pre W→Below W.heap.size W W'→I pre W')
  (hdo:∀ (pre:List (Nat×List UInt8)) (at_:Nat) (W:World),I pre W→at_≤l.length→(∃ rest,pre++(at_,Stl.word (l.drop at_))::rest=Stl.mentsAt 0 l)→Calls Tryz.prog g (#[.int .i64 at_,.string ⟨(Stl.word (l.drop at_)).toArray⟩]++caps) W fun e W'=>e=.returned (.tuple #[])∧I (pre++[(at_,Stl.word (l.drop at_))]) W')
  (w:World) (h0:I [] w) :
  Calls Tryz.prog 190 #[.string ⟨l.toArray⟩,.func (.func g) #[] caps] w fun e w'=>e=.returned (.tuple #[])∧I (Stl.mentsAt 0 l) w':=by
 have HST:=Hh hst
 have HDO:=Hh hdo
 have H0:=Hh h0
 clear hst hdo h0
 go_enter Tryz.func190,Tryz.ntmps190
 go_wp2_with fail
 go_loopw [4] (fun a wr=>∃ (k:Nat) (pre:List (Nat×List UInt8)),k≤l.length∧a=.int .i64 k∧Hid (I pre wr)∧Hid (pre++Stl.mentsAt k (l.drop k)=Stl.mentsAt 0 l)) (fun a _=>l.length-(intOf a).toNat)
 case atStart=>exact ⟨0,[],zx _,rfl,Hh H0.out,Hh (by simp)⟩
 case round =>
  obtain ⟨k,pre,hk,rfl,HI,HP⟩:=hrel
  have hx:=extract_drop l
  rcases qFJ (l.drop k) k with ⟨h1,h2⟩ | ⟨j,h1,h2,h3⟩
  ·have H2:=Hh h2
   clear h2
   go_wp2_with (go_at_call 233;refine (Tryz.strings_Index_one _ 35 _).mono ?_;rintro e w' ⟨rfl,rfl⟩)
   refine zH1 (results_none rfl _ _ _) rfl ⟨rfl,?_⟩
   have:=HP.out
   rw [H2.out,List.append_nil] at this
   rw [← this]
   exact HI.out
  ·have hkl:k+j+1≤l.length:=by simp at h2;omega
   have H3:=Hh h3
   clear h3 h2
   have hx2:((k:Int)+((j:Int)+1))=((k+j+1:Nat):Int):=by omega
   go_wp2_with (first
    | (go_at_call 233;refine (Tryz.strings_Index_one _ 35 _).mono ?_;rintro e w' ⟨rfl,rfl⟩)
    | (go_at_call 234;go_must (refine (qOp _ _ (by simp;omega)).mono ?_);rintro e w1 ⟨rfl,hb1⟩)
    | fail)
   rw [show ((k:Int)+(j:Int)+1)=((k+j+1:Nat):Int) from by omega]
   refine (HDO.out pre (k+j+1) w1 (HST.out _ _ _ HI.out hb1) hkl ⟨_,by rw [← HP.out,H3.out,List.drop_drop];rfl⟩).mono ?_
   rintro e w2 ⟨rfl,h2⟩
   have H2:=Hh h2
   clear h2
   go_wp2
   go_roundw
   case rel =>
    refine ⟨k+j+1,_,hkl,rfl,H2,?_⟩
    have h4:=HP.out
    rw [H3.out] at h4
    rw [← h4]
    have e1:(l.drop k).drop (j+1)=l.drop (k+j+1):=by rw [List.drop_drop];rfl
    show Hid (_=_)
    rw [e1]
    exact Hh (by simp)
   case measure=>simp [intOf];omega
theorem sizeBuilder:(Tryz.prog.info? 124).map (·.size)=some 2:=by kernel_rfl
theorem infoByte:(Tryz.prog.info? 5).map (fun i=>(i.zero,i.size,i.bytes))=some (some (.int .u8 0),1,1):=by kernel_rfl
theorem liesBuilder:liesAt Tryz.prog Tryz.prog.depth 124 (2/Tryz.prog.cellsOf 124) 0 124 1=true:=by kernel_rfl
theorem qGD (b:Nat) (w:World) (h0:w.cell? ⟨b,0,none⟩=some (.pointer (some ⟨b,0,none⟩))) :
  Calls Tryz.prog 110 #[.pointer (some ⟨b,0,none⟩)] w fun e w'=>e=.returned (.tuple #[])∧w'=w:=by
 obtain ⟨j,hj,_⟩:=Option.map_eq_some_iff.1 sizeBuilder
 go_enter Tryz.func110,Tryz.ntmps110
 go_wp2
 rw [Lib.run_neq_ptr_same w _ Tryz.underlying122 hj]
 go_wp2
 go_end0
 exact ⟨rfl,rfl⟩
theorem qFQ (b:Nat) (w:World) (h0:w.cell? ⟨b,0,none⟩=some (.pointer none)) (hsh:w.shape? b=some (124,2)) (hfz:w.frozen? ⟨b,0,none⟩=false) :
  Calls Tryz.prog 110 #[.pointer (some ⟨b,0,none⟩)] w fun e w'=>e=.returned (.tuple #[])∧w'=w.setCell ⟨b,0,none⟩ (.pointer (some ⟨b,0,none⟩)):=by
 obtain ⟨j,hj,hjs⟩:=Option.map_eq_some_iff.1 sizeBuilder
 go_enter Tryz.func110,Tryz.ntmps110
 go_wp2
 rw [Lib.run_to_unsafe w ⟨b,0,none⟩ Tryz.underlying122 Tryz.underlying165 hj (by rw [hjs];decide) hsh (Nat.zero_lt_succ 1)]
 simp only [Result.andThen]
 rw [Oper.upon_value]
 go_wp2
 rw [run_callFunc_extern Tryz.func162 (by kernel_rfl) (by kernel_rfl) (by kernel_rfl) (e:=Extern.AbiNoEscape.same) (by kernel_rfl)]
 rw [Lib.run_noEscape]
 simp only [Result.andThen]
 rw [Oper.upon_value]
 go_wp2
 rw [Lib.run_from_unsafe w ⟨b,0,none⟩ Tryz.underlying165 Tryz.underlying122 hj hsh liesBuilder]
 simp only [Result.andThen]
 rw [Oper.upon_value]
 go_wp2
 go_end0
 exact ⟨rfl,rfl⟩
def qNF (b:Nat) (e:TypeId) (w w':World):Prop:=∀ k o,w.heap[k]?=some o→k≠b→(∀ cs fr,o≠.cells cs e fr)→w'.heap[k]?=some o
theorem qHo (B b:Nat) (bs:List Value) (w:World) (h:Lib.IsBuilder 124 5 B b bs w) :
  Calls Tryz.prog 110 #[.pointer (some ⟨b,0,none⟩)] w fun e w'=>e=.returned (.tuple #[])∧(Lib.BuilderAt 124 5 B b (.pointer (some ⟨b,0,none⟩)) bs w'∧Below B w w'∧qNF b 5 w w'):=by
 rcases h with h | h
 ·refine (qFQ b w h.cell0 h.shape h.frozen0).mono ?_
  rintro e w' ⟨rfl,rfl⟩
  exact ⟨rfl,h.used _,(zB B w).setCell (p:=⟨b,0,none⟩) h.1 _,fun k o hk hne _=>(zA _ _ _ _ hne).trans hk⟩
 ·refine (qGD b w h.cell0).mono ?_
  rintro e w' ⟨rfl,rfl⟩
  exact ⟨rfl,h,zB B _,fun k o hk _ _=>hk⟩
theorem qGl (B b:Nat) (bs:List Value) (s:ByteArray) (w:World) (h:Lib.IsBuilder 124 5 B b bs w) (hlen:bs.length+s.size≤140737488355328) (hBw:B≤w.heap.size) :
  Calls Tryz.prog 61 #[.pointer (some ⟨b,0,none⟩),.string s] w fun e w'=>e=.returned (.tuple #[.int .i64 s.size,.nilIface])∧(Lib.BuilderAt 124 5 B b (.pointer (some ⟨b,0,none⟩)) (bs++Lib.strCells s) w'∧Below B w w'∧qNF b 5 w w'):=by
 obtain ⟨i0,hi,hz0,hz1,hz2⟩:=info_parts infoByte
 go_enter Tryz.func61,Tryz.ntmps61
 go_wp2_with (go_at_call 110;refine (qHo B b bs _ h).mono ?_)
 rintro e w1 ⟨rfl,h1,hb1,hk1⟩
 have HK1:=Hh hk1
 clear hk1
 obtain ⟨hB,v,hbk,hown,hne⟩:=h1
 have c0:w1.cell? ⟨b,0,none⟩=some (.pointer (some ⟨b,0,none⟩)):=by rw [Lib.cell_of_heap hbk];rfl
 have c1:w1.cell? ⟨b,1,none⟩=some v:=by rw [Lib.cell_of_heap hbk];rfl
 go_wp2_with (at_builtin;refine Lib.wpList_append_own_string _ rfl _ _ 52 9 rfl B 5 i0 Tryz.underlying52 Tryz.underlying9 hi hz0 hz1 hz2 _ _ _ rfl hown s rfl ?c3 ?c4 ?c5 ?_)
 case c3=>unfold maxLen;omega
 case c4=>omega
 case c5=>have:=hb1.size;omega
 intro v' w2 hown' hgrow _
 have hlt:b<w1.heap.size:=by
  rcases zv b w1.heap.size with h' | h'
  ·exact h'
  ·simp [Array.getElem?_eq_none h'] at hbk
 have hb2:w2.heap[b]?=some (.cells #[.pointer (some ⟨b,0,none⟩),v] 124 (0,0)):=by
  rw [hgrow.block b hlt (fun e=>hne e.symm)]
  exact hbk
 have d0:w2.cell? ⟨b,0,none⟩=some (.pointer (some ⟨b,0,none⟩)):=by rw [Lib.cell_of_heap hb2];rfl
 have d1:w2.cell? ⟨b,1,none⟩=some v:=by rw [Lib.cell_of_heap hb2];rfl
 have f1:w2.frozen? ⟨b,1,none⟩=false:=Lib.frozen_of_heap hb2 1
 obtain ⟨ao,n',cap,rfl⟩:∃ ao n' cap,v'=.slice ao n' cap:=by
  rcases hown'.2 with ⟨hv,_⟩ | ⟨g,cap,cur,hv,_⟩
  ·exact ⟨_,_,_,hv⟩
  ·exact ⟨_,_,_,hv⟩
 go_wp2
 go_ret2
 refine ⟨rfl,?_,?_,?_⟩
 ·exact Lib.BuilderAt.put (T:=124) (e:=5) hB hb2 (bs':=bs++Lib.strCells s) (by simpa [Lib.strCells_length] using hown') (by decide)
 ·exact (hb1.grown hgrow (by have:=hb1.size;omega) (fun k hk=>(hown.lt k hk).1)).setCell (p:=⟨b,1,none⟩) hB _
 ·intro k o hk hne ho
  rw [zA _ _ _ _ hne]
  have h1:=HK1.out k o hk hne ho
  have hlt1:k<w1.heap.size:=by
   rcases zv k w1.heap.size with h' | h'
   ·exact h'
   ·rw [Array.getElem?_eq_none h'] at h1;cases h1
  rw [hgrow.block k hlt1 ?_]
  ·exact h1
  ·intro e
   rcases hown.2 with ⟨hv,_⟩ | ⟨g,cap,cur,hv,_,hg,_⟩
   ·rw [hv] at e;simp [Value.ownBlock] at e
   ·rw [hv] at e
    have:k=g:=by simpa [Value.ownBlock] using e
    subst this
    rw [hg] at h1
    injection h1 with h1
    exact ho _ _ h1.symm
theorem Below.toGrown {w w':World} (h:Below w.heap.size w w') (row:Option Nat):w.grownBy w' row:=⟨h.os,h.tape,h.output,h.size,fun i hi _=>h.block i hi⟩
theorem qC9 {T e:TypeId} {B b:Nat} {p:Value} {bs:List Value} {w w':World} (h:Lib.BuilderAt T e B b p bs w) (hb:Below w.heap.size w w'):Lib.BuilderAt T e B b p bs w':=by
 have hlt:=h.lt
 obtain ⟨h1,v,h2,h3,h4⟩:=h
 exact ⟨h1,v,(hb.block b hlt).trans h2,h3.kept (Below.toGrown hb (some b)) (Or.inr h4),h4⟩
theorem qCV {T e:TypeId} {B b:Nat} {bs:List Value} {w w':World} (h:Lib.IsBuilder T e B b bs w) (hb:Below w.heap.size w w'):Lib.IsBuilder T e B b bs w' :=
 h.imp (qC9 · hb) (qC9 · hb)
theorem qH0 (l:List UInt8):Lib.strCells ⟨l.toArray⟩=Lib.byteCells l:=by simp [Lib.strCells,Lib.byteCells]
theorem byteCells_append (a b:List UInt8):Lib.byteCells a++Lib.byteCells b=Lib.byteCells (a++b):=by simp [Lib.byteCells]
def errAt (w:World) (g:Nat) (p:Addr):Prop:=w.cell? ⟨g,0,none⟩=some (.iface 377 (.pointer (some p)))∧g<w.heap.size
theorem errAt.later {w w':World} {g:Nat} {p:Addr} (h:errAt w g p) (hb:Below w.heap.size w w'):errAt w' g p :=
 ⟨(hb.cell (p:=⟨g,0,none⟩) h.2).trans h.1,zu h.2 hb.size⟩
theorem qBL (w:World) (a b c:Obj):Below w.heap.size w (((w.alloc a).alloc b).alloc c) :=
 (((zB _ w).alloc (zq _) a).alloc (by simp) b).alloc (by simp;omega) c
theorem Below.drewN {B:Nat} {a w:World} (h:Below B a w):∀ n,Below B a (w.drewN n)
 | 0=>h
 | n+1=>(Below.drewN h n).drew
theorem qAj (w:World) (o:Obj) {k:Nat} {x:Obj} (h:w.heap[k]?=some x):(w.alloc o).heap[k]?=some x:=(Below.heap_alloc w o k (zN1 h)).trans h
theorem qKq (w w1:World) (a b c:Obj) (hb:Below (((w.alloc a).alloc b).alloc c).heap.size (((w.alloc a).alloc b).alloc c) w1) :
  w1.heap[w.heap.size]?=some a∧w1.heap[w.heap.size+1]?=some b∧w1.heap[w.heap.size+1+1]?=some c:=by
 have e1:(w.alloc a).heap[w.heap.size]?=some a:=zK1 w a
 have e2:((w.alloc a).alloc b).heap[w.heap.size+1]?=some b:=by have:=zK1 (w.alloc a) b;simpa using this
 have e3:(((w.alloc a).alloc b).alloc c).heap[w.heap.size+1+1]?=some c:=by have:=zK1 ((w.alloc a).alloc b) c;simpa using this
 have f1:=qAj _ c (qAj _ b e1)
 have f2:=qAj _ c e2
 exact ⟨(hb.block _ (zN1 f1)).trans f1,(hb.block _ (zN1 f2)).trans f2,(hb.block _ (zN1 e3)).trans e3⟩
end Go.Proofs.YtceklhjomhjipaaGreatDoor
namespace Stl
abbrev Bytes:=List UInt8
theorem blt_irrefl (a:Bytes):¬ a<a:=List.lt_irrefl a
theorem qFV {a b c:Bytes} (h:a<b) (k:b<c):a<c:=List.lt_trans h k
theorem blt_tri (a b:Bytes):a<b∨a=b∨b<a:=by
 rcases Decidable.em (a<b) with h | h
 ·exact .inl h
 ·rcases Decidable.em (b<a) with h2 | h2
  ·exact .inr (.inr h2)
  ·exact .inr (.inl (List.le_antisymm (List.not_lt.1 h2) (List.not_lt.1 h)))
def Rise (l:List Bytes):Prop:=l.Pairwise (·<·)
def ins (s:Bytes):List Bytes→List Bytes
 | []=>[s]
 | x::r=>if x<s then x::ins s r else if x=s then x::r else s::x::r
theorem qHS (s y:Bytes):∀ l:List Bytes,y∈ins s l↔y=s∨y∈l
 | []=>by simp [ins]
 | x::r=>by
  unfold ins
  split
  ·simp only [zY,qHS s y r]
   constructor
   ·rintro (h | h | h)<;>simp [h]
   ·rintro (h | h | h)<;>simp [h]
  ·split
   ·rename_i h;subst h;simp
   ·simp
theorem qHB (s:Bytes):∀ l:List Bytes,Rise l→Rise (ins s l)
 | [],_=>by simp [ins,Rise]
 | x::r,h=>by
  unfold Rise at h
  obtain ⟨h1,h2⟩:=zj.1 h
  unfold ins
  split
  ·rename_i hx
   refine zj.2 ⟨fun y hy=>?_,qHB s r h2⟩
   rcases (qHS s y r).1 hy with rfl | hy
   ·exact hx
   ·exact h1 y hy
  ·split
   ·exact h
   ·rename_i hx hne
    have hs:s<x:=by
     rcases blt_tri x s with h3 | h3 | h3
     ·exact absurd h3 hx
     ·exact absurd h3 hne
     ·exact h3
    refine zj.2 ⟨fun y hy=>?_,h⟩
    rcases zY.1 hy with rfl | hy
    ·exact hs
    ·exact qFV hs (h1 y hy)
theorem qKD:∀ (a b:List Bytes),Rise a→Rise b→(∀ y,y∈a↔y∈b)→a=b
 | [],[],_,_,_=>rfl
 | [],y::b,_,_,h=>by have:=(h y).2 (by simp);cases this
 | x::a,[],_,_,h=>by have:=(h x).1 (by simp);cases this
 | x::a,y::b,ha,hb,h=>by
  obtain ⟨a1,a2⟩:=zj.1 ha
  obtain ⟨b1,b2⟩:=zj.1 hb
  have e:x=y:=by
   rcases zY.1 ((h x).1 (by simp)) with e | hx
   ·exact e
   ·rcases zY.1 ((h y).2 (by simp)) with e | hy
    ·exact e.symm
    ·exact absurd (qFV (a1 y hy) (b1 x hx)) (blt_irrefl x)
  subst e
  have ih:a=b:=qKD a b a2 b2 (fun z=>by
   constructor
   ·intro hz
    rcases zY.1 ((h z).1 (by simp [hz])) with e | hz2
    ·subst e;exact absurd (a1 z hz) (blt_irrefl z)
    ·exact hz2
   ·intro hz
    rcases zY.1 ((h z).2 (by simp [hz])) with e | hz2
    ·subst e;exact absurd (b1 z hz) (blt_irrefl z)
    ·exact hz2)
  rw [ih]
def insAll (l acc:List Bytes):List Bytes:=l.foldl (fun a s=>ins s a) acc
theorem mem_insAll (y:Bytes):∀ (l acc:List Bytes),y∈insAll l acc↔y∈l∨y∈acc
 | [],acc=>by simp [insAll]
 | s::r,acc=>by
  have h:=mem_insAll y r (ins s acc)
  unfold insAll at h ⊢
  rw [List.foldl_cons,h,qHS]
  simp only [zY]
  constructor
  ·rintro (h | h | h)<;>simp [h]
  ·rintro ((h | h) | h)<;>simp [h]
theorem rise_insAll:∀ (l acc:List Bytes),Rise acc→Rise (insAll l acc)
 | [],acc,h=>h
 | s::r,acc,h=>rise_insAll r (ins s acc) (qHB s acc h)
theorem rise_nil:Rise []:=List.Pairwise.nil
theorem qNR {l m:List Bytes} (hm:Rise m) (h:∀ y,y∈m↔y∈l):m=insAll l [] :=
 qKD _ _ hm (rise_insAll _ _ rise_nil) fun y=>by rw [h,mem_insAll];simp
theorem qGK (s:Bytes):∀ l:List Bytes,(ins s l).length≤l.length+1
 | []=>by simp [ins]
 | x::r=>by
  have:=qGK s r
  unfold ins
  split
  ·simp only [zQ];omega
  ·split<;>simp
theorem qEk:∀ (l acc:List Bytes),(insAll l acc).length≤acc.length+l.length
 | [],acc=>by simp [insAll]
 | s::r,acc=>by
  have h:=qEk r (ins s acc)
  have:=qGK s acc
  unfold insAll at h ⊢
  simp only [List.foldl_cons,zQ]
  omega
def found (s:Bytes) (names:List Bytes):List Bytes:=insAll ((qIZ s).filter fun w=>isName w&&names.contains w) []
end Stl
