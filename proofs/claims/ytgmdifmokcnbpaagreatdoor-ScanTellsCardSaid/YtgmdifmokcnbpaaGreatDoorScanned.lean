/- The walk of the law's own closed fact: the three answers it asks for hold. -/
import Derived.Test.YtgmdifmokcnbpaaGreatDoorTexts
namespace Go.Proofs.YtgmdifmokcnbpaaGreatDoor
open Go.RowKit Go.Maps Go.Sort Go.Shelf

theorem strs_lit (w : World) (l : List (List UInt8)) (hn : l ≠ []) (c : Nat) : Strs (w.alloc (.cells (l.map encStr).toArray 9)) (.slice (some ⟨w.heap.size, 0, none⟩) l.length c) l := by
  refine ⟨_, c, rfl, fun _ => ⟨w.heap.size, 0, rfl, by simp, fun j x hx => ?_⟩⟩
  have := heap_alloc_new w (.cells (l.map encStr).toArray 9)
  unfold World.cell?
  simp only [this, Nat.zero_add]
  simp [hx]

def seeL : List UInt8 := [115, 101, 101, 32, 35, 97, 46, 98, 44, 32, 35, 97]
def seenL : List UInt8 := [115, 101, 101, 32, 35, 97, 46, 98, 44, 32, 35, 122, 122]

set_option maxHeartbeats 1000000 in
theorem scanned_any (w : World) (pN pB : Addr) (hN : errAt w 0 pN) (hB : errAt w 1 pB) :
    Calls Tryz.prog 4 #[] w fun e w' => e = .returned (.bool true) ∧ Below w.heap.size w w' := by
  have HR : Hid (turnRes seeL [97] [122, 122] pN pB = .tuple #[.string ⟨#[115, 101, 101, 32, 35, 97, 46, 98, 44, 32, 35, 122, 122]⟩, .nilIface]) := Lib.hid (by
    have e1 : Stl.isName [97] = true := by decide +kernel
    have e2 : Stl.isName [122, 122] = true := by decide +kernel
    have e3 : Stl.turnL [97] [122, 122] 0 seeL = seenL := by decide +kernel
    unfold turnRes
    rw [e1, e2, e3]
    rfl)
  have HF : Hid (Stl.found seeL [[97], [98]] = [[97]]) := Lib.hid (by decide +kernel)
  go_enter Tryz.func4, Tryz.ntmps4
  go_wp2_with fail
  refine (Turn_any seeL [97] [122, 122] _ pN pB hN hB (by decide) (by decide) (by decide)).mono ?_
  rintro e w1 ⟨rfl, hb1⟩
  rw [HR.out]
  have HB1 := Lib.hid hb1
  clear hb1
  go_wp2_with fail
  refine (Find_any seeL (by decide) _ [[97], [98]] (by decide) _ (strs_lit w1 [[97], [98]] (by simp) 2)).mono ?_
  rintro e w2 ⟨v, rfl, hS, hb2⟩
  rw [HF.out] at hS
  have HB2 := Lib.hid ((HB1.out.alloc (Below.size HB1.out) (.cells #[.string ⟨#[97]⟩, .string ⟨#[98]⟩] 9)).trans (hb2.mono (Nat.le_trans (Below.size HB1.out) (by simp))))
  have HS := Lib.hid hS
  clear hS hb2
  go_wp2_with fail
  refine (SameTexts_any v _ [[97]] [[97]] (by decide) (by decide) _ (HS.out.later (Below.alloc (Below.refl _ w2) (Nat.le_refl _) _)) (strs_lit w2 [[97]] (by simp) 1)).mono ?_
  rintro e w3 ⟨rfl, hb3⟩
  have HB3 := Lib.hid ((HB2.out.alloc (Below.size HB2.out) (.cells #[.string ⟨#[97]⟩] 9)).trans (hb3.mono (Nat.le_trans (Below.size HB2.out) (by simp))))
  clear hb3
  go_wp2_with fail
  go_ret
  exact ⟨rfl, HB3.out⟩
#print axioms scanned_any
end Go.Proofs.YtgmdifmokcnbpaaGreatDoor
