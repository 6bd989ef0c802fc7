/- Texts of this claim, merged: ScanPure. -/
import Derived.Below
import Derived.Handy
import Derived.Laws.OwnMore
import Derived.Lib.Hide
import Derived.LoopTactic
import Derived.WalkKit
set_option maxHeartbeats 16000000
set_option maxRecDepth 1000000
set_option linter.all false
theorem Hh {p:Prop} (h:p):Go.RowKit.Hid p:=Go.Lib.hid h
abbrev zA:=@Go.RowKit.Below.heap_setCell
abbrev zB:=@Go.RowKit.Below.refl
abbrev zC:=@Bool.and_eq_true
abbrev zD:=@List.cons.injEq
abbrev zE:=@List.cons_append
abbrev zF:=@List.drop_eq_getElem_cons
abbrev zG:=@List.drop_of_length_le
abbrev zH:=@List.eq_nil_of_length_eq_zero
abbrev zI:=@List.filter_cons
abbrev zJ:=@List.filter_cons_of_neg
abbrev zK:=@List.filter_cons_of_pos
abbrev zL:=@List.getElem?_eq_getElem
abbrev zM:=@List.getElem?_eq_some_iff
abbrev zN:=@List.getElem?_map
abbrev zO:=@List.getElem_mem
abbrev zP:=@List.length_append
abbrev zQ:=@List.length_cons
abbrev zR:=@List.length_eq_zero_iff
abbrev zS:=@List.length_filter_le
abbrev zT:=@List.length_map
abbrev zU:=@List.map_append
abbrev zV:=@List.map_cons
abbrev zW:=@List.map_map
abbrev zX:=@List.mem_append
abbrev zY:=@List.mem_cons
abbrev zZ:=@List.mem_filter
abbrev zb:=@List.mem_flatMap
abbrev ze:=@List.mem_map
abbrev zf:=@List.mem_map_of_mem
abbrev zg:=@List.mem_of_find?_eq_some
abbrev zh:=@List.mem_singleton
abbrev zi:=@List.nil_append
abbrev zj:=@List.pairwise_cons
abbrev zk:=@List.take_append_of_le_length
abbrev zm:=@List.take_length
abbrev zn:=@List.take_of_length_le
abbrev zo:=@List.take_succ_eq_append_getElem
abbrev zq:=@Nat.le_refl
abbrev zr:=@Nat.le_trans
abbrev zt:=@Nat.lt_irrefl
abbrev zu:=@Nat.lt_of_lt_of_le
abbrev zv:=@Nat.lt_or_ge
abbrev zw:=@Nat.zero_add
abbrev zx:=@Nat.zero_le
abbrev zy:=@Option.getD_some
abbrev zz:=@Option.isSome_iff_exists
abbrev zA1:=@Option.map_some
abbrev zB1:=@Option.some.injEq
abbrev zC1:=@Go.Value.slice.injEq
abbrev zD1:=@Go.World.cell?_of_block
abbrev zE1:=@Go.World.frozen?_of_block
abbrev zF1:=@Go.World.ownsRow_nil
abbrev zG1:=@beq_eq_false_iff_ne
abbrev zH1:=@Go.bodyPost_ret
abbrev zI1:=@Go.callsIn_wide
abbrev zJ1:=@Go.cell_of_row
abbrev zK1:=@Go.heap_alloc_new
abbrev zL1:=@if_neg
abbrev zM1:=@if_pos
abbrev zN1:=@Go.lt_of_block
abbrev zO1:=@Go.ownsRow_setCell_other
namespace Stl
def isLetter (c:UInt8):Bool:=(97≤c&&c≤122)||(48≤c&&c≤57)||c==46||c==45
def word (s:List UInt8):List UInt8:=s.takeWhile isLetter
def isName (s:List UInt8):Bool:=decide (1≤s.length)&&decide (s.length≤12)&&s.all isLetter&&s != [46]&&s != [46,46]
def qIZ:List UInt8→List (List UInt8)
 | []=>[]
 | c::r=>if c==35 then word r::qIZ r else qIZ r
theorem qIY {s:List UInt8} (h:isName s=true):s.all isLetter=true:=by
 simp [isName] at h
 simpa using h.1.1.2
theorem qK9 {s:List UInt8} (h:isName s=true):1≤s.length:=by
 simp [isName] at h
 have:=h.1.1.1.1
 omega
theorem qD3 {s:List UInt8} (h:isName s=true):s.length≤12:=by
 simp [isName] at h
 have:=h.1.1.1.2
 omega
theorem word_take (s:List UInt8):s.take (word s).length=word s:=by
 induction s with
 | nil=>rfl
 | cons c r ih =>
  cases hc:isLetter c
  ·simp [word,List.takeWhile_cons,hc]
  ·have:word (c::r)=c::word r:=by simp [word,List.takeWhile_cons,hc]
   rw [this]
   simpa using ih
theorem word_length_le (s:List UInt8):(word s).length≤s.length:=by
 have:=congrArg List.length (word_take s)
 simp at this
 omega
def mentsAt:Nat→List UInt8→List (Nat×List UInt8)
 | _,[]=>[]
 | k,c::r=>if c==35 then (k+1,word r)::mentsAt (k+1) r else mentsAt (k+1) r
theorem mentsAt_words:∀ (k:Nat) (s:List UInt8),(mentsAt k s).map (·.2)=qIZ s
 | _,[]=>rfl
 | k,c::r=>by
  unfold mentsAt qIZ
  split<;>simp [mentsAt_words (k+1) r]
theorem mentsAt_length:∀ (k:Nat) (s:List UInt8),(mentsAt k s).length≤s.length
 | _,[]=>by simp [mentsAt]
 | k,c::r=>by
  have:=mentsAt_length (k+1) r
  unfold mentsAt
  split<;>simp only [zQ]<;>omega
end Stl
