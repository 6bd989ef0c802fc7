/- The walk of tree.link: is a text where a link may go? -/
import Derived.Test.YtgmdifmokcnbpaaGreatDoorProg
import Derived.WalkKit
import Derived.Deep.LoopGhost
import Derived.Test.YtgmdifmokcnbpaaGreatDoorModelPure
import Derived.Shelf.GgClosure.StringsIndexFunc
import Derived.Lib.Hide
namespace Stl
open Go

/-- A byte of a link. -/
def badByte (c : UInt8) : Bool := decide (c < 33) || decide (126 < c)
def badRune (r : Nat) : Bool := decide (r < 33) || decide (126 < r)

theorem badByte_nat (c : UInt8) : badByte c = badRune c.toNat := by
  simp [badByte, badRune, UInt8.lt_iff_toNat_lt]

theorem decode_low (s : ByteArray) (i : Nat) (h : (s.get! i).toNat < 128) : Utf8.decode s i = ((s.get! i).toNat, 1) := by
  unfold Utf8.decode
  simp only [Nat.add_zero]
  rw [if_pos h]

theorem decode_high (s : ByteArray) (i : Nat) (h : ¬ (s.get! i).toNat < 128) : badRune (Utf8.decode s i).1 = true := by
  have k : ∀ c : Nat, 128 ≤ c → badRune c = true := fun c hc => by simp [badRune]; omega
  have e : badRune Utf8.runeError = true := by decide
  unfold Utf8.decode
  simp only [Nat.add_zero]
  rw [if_neg h]
  split
  · split
    · exact k _ (by assumption)
    · exact e
  · split
    · split
      · rename_i hc
        rw [Bool.and_eq_true, decide_eq_true_iff] at hc
        exact k _ (by omega)
      · exact e
    · split
      · split
        · rename_i hc
          rw [Bool.and_eq_true, decide_eq_true_iff] at hc
          exact k _ (by omega)
        · exact e
      · exact e

theorem get_list (l : List UInt8) (i : Nat) (h : i < l.length) : (ByteArray.mk l.toArray).get! i = l[i] := by
  simp [ByteArray.get!, h]

theorem idx_bad (l : List UInt8) : ∀ (f pos : Nat), l.length ≤ pos + f → (0 ≤ Lib.idxFuncFrom badRune true ⟨l.toArray⟩ f pos ↔ (l.drop pos).any badByte = true)
  | 0, pos, h => by
    rw [List.drop_of_length_le (by omega)]
    simp [Lib.idxFuncFrom]
  | f + 1, pos, h => by
    unfold Lib.idxFuncFrom
    have hz : (ByteArray.mk l.toArray).size = l.length := by simp [ByteArray.size]
    rw [hz]
    by_cases hp : pos < l.length
    · rw [if_pos hp, List.drop_eq_getElem_cons hp, List.any_cons, badByte_nat, ← get_list l pos hp]
      by_cases hl : ((ByteArray.mk l.toArray).get! pos).toNat < 128
      · rw [decode_low _ _ hl]
        by_cases hb : badRune ((ByteArray.mk l.toArray).get! pos).toNat = true
        · rw [if_pos hb, hb]
          simp
        · rw [if_neg hb, idx_bad l f (pos + 1) (by omega)]
          simp only [Bool.not_eq_true] at hb
          rw [hb]
          simp
      · rw [if_pos (decode_high _ _ hl)]
        have : badRune ((ByteArray.mk l.toArray).get! pos).toNat = true := by simp [badRune]; omega
        rw [this]
        simp
    · rw [if_neg hp, List.drop_of_length_le (by omega)]
      simp

theorem idx_link (l : List UInt8) : decide (0 ≤ Lib.idxFunc badRune true ⟨l.toArray⟩) = l.any badByte := by
  rw [Bool.eq_iff_iff, decide_eq_true_iff]
  have hz : (ByteArray.mk l.toArray).size = l.length := by simp [ByteArray.size]
  have := idx_bad l l.length 0 (by omega)
  unfold Lib.idxFunc
  rw [hz, this]
  simp
end Stl
namespace Go.Proofs.YtgmdifmokcnbpaaGreatDoor
open Go.RowKit

theorem link1_any (r : Nat) (hr : r ≤ 1114111) (w : World) : Calls Tryz.prog 113 #[.int .i32 r] w fun e w' => e = .returned (.bool (Stl.badRune r)) ∧ w' = w := by
  go_enter Tryz.func113, Tryz.ntmps113
  by_cases h1 : r < 33
  · have e := Lib.hid (show Stl.badRune r = true by simp [Stl.badRune, h1])
    generalize Stl.badRune r = b at e
    have i1 : (r : Int) < 33 := by omega
    clear h1
    go_wp2
    go_ret
    exact ⟨by rw [e.out]; rfl, rfl⟩
  · by_cases h2 : 126 < r
    · have e := Lib.hid (show Stl.badRune r = true by simp [Stl.badRune, h2])
      generalize Stl.badRune r = b at e
      have i1 : ¬ (r : Int) < 33 := by omega
      have i2 : (126 : Int) < (r : Int) := by omega
      clear h1 h2
      go_wp2
      go_ret
      exact ⟨by rw [e.out]; rfl, rfl⟩
    · have e := Lib.hid (show Stl.badRune r = false by simp [Stl.badRune, h1, h2])
      generalize Stl.badRune r = b at e
      have i1 : ¬ (r : Int) < 33 := by omega
      have i2 : ¬ (126 : Int) < (r : Int) := by omega
      clear h1 h2
      go_wp2
      go_ret
      exact ⟨by rw [e.out]; rfl, rfl⟩

set_option maxHeartbeats 2000000 in
set_option maxRecDepth 100000 in
theorem indexFunc_link (s : ByteArray) (w : World) :
    Calls Tryz.prog 116 #[.string s, .func (.func 113) #[] #[], .bool true] w fun e w' => e = .returned (.int .i64 (Lib.idxFunc Stl.badRune true s)) ∧ Below w.heap.size w w' := by
  go_enter Tryz.func116, Tryz.ntmps116
  go_wp2
  go_loopg [] s.size (fun gf wx => ∃ pos : Nat, wx.heap[w.heap.size]? = some (.stringIter s pos) ∧ Below w.heap.size w wx ∧ Lib.idxFuncFrom Stl.badRune true s gf pos = Lib.idxFunc Stl.badRune true s ∧ s.size ≤ pos + gf)
  case atStart => exact ⟨0, World.iter_heap w s 0, (Below.refl _ w).alloc (Nat.le_refl _) _, rfl, by omega⟩
  case round =>
    obtain ⟨pos, hit, hbw, hleft, hfu⟩ := hrel
    by_cases hps : pos < s.size
    · obtain ⟨g', rfl⟩ : ∃ g', gk = g' + 1 := ⟨gk - 1, by omega⟩
      have hnx : ∀ ty, (Instr.next (.pointer (some ⟨w.heap.size, 0, none⟩)) true ty).run Tryz.prog wr = _ := fun ty => Lib.run_next_any_at wr w.heap.size s pos ty hit hps
      have hwd := Lib.width_pos s pos
      obtain ⟨R, hR⟩ : ∃ R, (Utf8.decode s pos).1 = R := ⟨_, rfl⟩
      obtain ⟨K, hK⟩ : ∃ K, (Utf8.decode s pos).2 = K := ⟨_, rfl⟩
      simp only [Lib.idxFuncFrom, hps, if_true, hR, hK] at hleft
      rw [hR, hK] at hnx
      rw [hK] at hwd
      have hit2 := Lib.iterAt_heap wr w.heap.size s pos (pos + K) hit
      have hbw2 := Lib.below_iterAt hbw (k := w.heap.size) (Nat.le_refl _) s (pos + K)
      obtain ⟨W, hWd⟩ : ∃ W, wr.iterAt w.heap.size s (pos + K) = W := ⟨_, rfl⟩
      rw [hWd] at hnx hit2 hbw2
      have hltW : w.heap.size < W.heap.size := (Array.getElem?_eq_some_iff.1 hit2).1
      have cS := link1_any R (by rw [← hR]; exact Lib.rune_le s pos) W
      cases hsp : Stl.badRune R <;> rw [hsp] at cS <;> simp only [hsp, if_true, Bool.false_eq_true, Bool.true_eq_false, if_false] at hleft
      · go_wp2_with (go_at_call 113; refine cS.mono ?_; rintro e W' ⟨rfl, rfl⟩)
        go_roundg g'
        case measure => omega
        case rel => exact ⟨pos + K, hit2, hbw2, hleft, by omega⟩
      · go_wp2_with (go_at_call 113; refine cS.mono ?_; rintro e W' ⟨rfl, rfl⟩)
        go_ret
        exact ⟨by rw [← hleft] <;> rfl, hbw2⟩
    · have hnx : ∀ ty, (Instr.next (.pointer (some ⟨w.heap.size, 0, none⟩)) true ty).run Tryz.prog wr = _ := fun ty => Lib.run_next_end_at wr w.heap.size s pos ty hit hps
      rw [Lib.idxFuncFrom_end Stl.badRune true s gk pos hps] at hleft
      go_wp2
      go_ret
      exact ⟨by rw [← hleft] <;> rfl, hbw⟩

set_option maxHeartbeats 1000000 in
theorem link_any (l : List UInt8) (w : World) : Calls Tryz.prog 106 #[.string ⟨l.toArray⟩] w fun e w' => e = .returned (.bool (!l.any Stl.badByte)) ∧ Below w.heap.size w w' := by
  have hx := Stl.idx_link l
  have hi := indexFunc_link ⟨l.toArray⟩ w
  generalize Lib.idxFunc Stl.badRune true ⟨l.toArray⟩ = i at hx hi
  have HX := Lib.hid hx
  clear hx
  have c1 : Calls Tryz.prog 115 #[.string ⟨l.toArray⟩, .func (.func 113) #[] #[]] w fun e w' => e = .returned (.int .i64 i) ∧ Below w.heap.size w w' := by
    go_enter Tryz.func115, Tryz.ntmps115
    go_wp2_with fail
    refine hi.mono ?_
    rintro e w' ⟨rfl, hb⟩
    go_wp2
    go_ret
    exact ⟨rfl, hb⟩
  have c2 : Calls Tryz.prog 112 #[.string ⟨l.toArray⟩, .func (.func 113) #[] #[]] w fun e w' => e = .returned (.bool (decide (0 ≤ i))) ∧ Below w.heap.size w w' := by
    go_enter Tryz.func112, Tryz.ntmps112
    go_wp2_with fail
    refine c1.mono ?_
    rintro e w' ⟨rfl, hb⟩
    go_wp2
    go_ret
    exact ⟨rfl, hb⟩
  clear c1 hi
  rw [HX.out] at c2
  generalize l.any Stl.badByte = b at c2
  clear HX
  go_enter Tryz.func106, Tryz.ntmps106
  go_wp2_with fail
  refine c2.mono ?_
  rintro e w' ⟨rfl, hb⟩
  go_wp2
  go_ret
  exact ⟨rfl, hb⟩
#print axioms link_any
end Go.Proofs.YtgmdifmokcnbpaaGreatDoor
