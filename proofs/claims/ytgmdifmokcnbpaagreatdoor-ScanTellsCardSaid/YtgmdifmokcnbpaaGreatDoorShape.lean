/- The walk of tree.shape: has a node what its kind has? -/
import Derived.Test.YtgmdifmokcnbpaaGreatDoorProg
import Derived.WalkKit
import Derived.WalkSpells
import Derived.Deep.QuietTactic
import Derived.BigQuiet
import Derived.Test.YtgmdifmokcnbpaaGreatDoorModelPure
import Derived.Lib.Hide
namespace Stl

/-- Has a node what its kind has? n: how many kids. -/
def shapeB (k d : Bytes) (e : Bool) (n : Nat) : Bool :=
  if k = kFile then n == 0 else if k = kDir then d.isEmpty && !e else !e && n == 0

/-- A text is one of the three kinds, or none. -/
theorem kinds (k : Bytes) : (k = kFile ∧ (k == [102, 105, 108, 101]) = true ∧ (k == [100, 105, 114]) = false ∧ (k == [108, 105, 110, 107]) = false) ∨ (k = kDir ∧ (k == [102, 105, 108, 101]) = false ∧ (k == [100, 105, 114]) = true ∧ (k == [108, 105, 110, 107]) = false)
    ∨ (k = kLink ∧ (k == [102, 105, 108, 101]) = false ∧ (k == [100, 105, 114]) = false ∧ (k == [108, 105, 110, 107]) = true) ∨ ((k ≠ kFile ∧ k ≠ kDir ∧ k ≠ kLink) ∧ (k == [102, 105, 108, 101]) = false ∧ (k == [100, 105, 114]) = false ∧ (k == [108, 105, 110, 107]) = false) := by
  by_cases h1 : k = kFile
  · subst h1; exact .inl (by decide)
  · by_cases h2 : k = kDir
    · subst h2; exact .inr (.inl (by decide))
    · by_cases h3 : k = kLink
      · subst h3; exact .inr (.inr (.inl (by decide)))
      · exact .inr (.inr (.inr ⟨⟨h1, h2, h3⟩, by simpa [kFile] using h1, by simpa [kDir] using h2, by simpa [kLink] using h3⟩))
end Stl
namespace Go.Proofs.YtgmdifmokcnbpaaGreatDoor
open Go.RowKit

set_option maxHeartbeats 1000000 in
theorem shape_any (k d : List UInt8) (e : Bool) (A : Option Addr) (n c : Nat) (hn : n ≤ 9223372036854775807) (w : World) :
    Calls Tryz.prog 105 #[.agg #[.string ⟨k.toArray⟩, .string ⟨d.toArray⟩, .bool e, .slice A n c]] w fun ev w' => ev = .returned (.bool (Stl.shapeB k d e n)) ∧ Below w.heap.size w w' := by
  have hb : Below w.heap.size w (w.alloc (.cells #[.string ⟨k.toArray⟩, .string ⟨d.toArray⟩, .bool e, .slice A n c] 24)) := (Below.refl _ w).alloc (Nat.le_refl _) _
  have HB := Lib.hid hb
  clear hb
  have HS : Hid (Stl.shapeB k d e n = if k = Stl.kFile then n == 0 else if k = Stl.kDir then d.isEmpty && !e else !e && n == 0) := Lib.hid rfl
  generalize Stl.shapeB k d e n = r at HS
  have fd : Stl.kDir ≠ Stl.kFile := by decide
  have fl : Stl.kLink ≠ Stl.kFile := by decide
  have dl : Stl.kLink ≠ Stl.kDir := by decide
  have FD := Lib.hid fd
  have FL := Lib.hid fl
  have DL := Lib.hid dl
  clear fd fl dl
  by_cases hn0 : n = 0
  · subst hn0
    rcases Stl.kinds k with ⟨h0, h1, h2, h3⟩ | ⟨h0, h1, h2, h3⟩ | ⟨h0, h1, h2, h3⟩ | ⟨h0, h1, h2, h3⟩
    · have HR := Lib.hid (show r = true by rw [HS.out, if_pos h0]; rfl)
      clear h0
      go_enter Tryz.func105, Tryz.ntmps105
      go_wp2
      go_ret
      exact ⟨by rw [HR.out]; rfl, HB.out⟩
    · have HR := Lib.hid (show r = (d.isEmpty && !e) by rw [HS.out, h0, if_neg FD.out, if_pos rfl])
      clear h0
      cases d with
      | nil =>
        cases e
        all_goals
          go_enter Tryz.func105, Tryz.ntmps105
          go_wp2
          go_ret
          exact ⟨by rw [HR.out]; rfl, HB.out⟩
      | cons a t =>
        have hd : ((a :: t) == []) = false := rfl
        go_enter Tryz.func105, Tryz.ntmps105
        go_wp2
        go_ret
        exact ⟨by rw [HR.out]; rfl, HB.out⟩
    · have HR := Lib.hid (show r = !e by rw [HS.out, h0, if_neg FL.out, if_neg DL.out]; simp)
      clear h0
      cases e
      all_goals
        go_enter Tryz.func105, Tryz.ntmps105
        go_wp2
        go_ret
        exact ⟨by rw [HR.out]; rfl, HB.out⟩
    · have HR := Lib.hid (show r = !e by rw [HS.out, if_neg h0.1, if_neg h0.2.1]; simp)
      clear h0
      cases e
      all_goals
        go_enter Tryz.func105, Tryz.ntmps105
        go_wp2
        go_ret
        exact ⟨by rw [HR.out]; rfl, HB.out⟩
  · have z1 : ((n : Int) == 0) = false := by rw [beq_eq_false_iff_ne]; omega
    have HN := Lib.hid (show (n == 0) = false by rw [beq_eq_false_iff_ne]; exact hn0)
    clear hn0
    rcases Stl.kinds k with ⟨h0, h1, h2, h3⟩ | ⟨h0, h1, h2, h3⟩ | ⟨h0, h1, h2, h3⟩ | ⟨h0, h1, h2, h3⟩
    · have HR := Lib.hid (show r = false by rw [HS.out, if_pos h0]; exact HN.out)
      clear h0
      go_enter Tryz.func105, Tryz.ntmps105
      go_wp2
      go_ret
      exact ⟨by rw [HR.out]; rfl, HB.out⟩
    · have HR := Lib.hid (show r = (d.isEmpty && !e) by rw [HS.out, h0, if_neg FD.out, if_pos rfl])
      clear h0
      cases d with
      | nil =>
        cases e
        all_goals
          go_enter Tryz.func105, Tryz.ntmps105
          go_wp2
          go_ret
          exact ⟨by rw [HR.out]; rfl, HB.out⟩
      | cons a t =>
        have hd : ((a :: t) == []) = false := rfl
        go_enter Tryz.func105, Tryz.ntmps105
        go_wp2
        go_ret
        exact ⟨by rw [HR.out]; rfl, HB.out⟩
    · have HR := Lib.hid (show r = false by rw [HS.out, h0, if_neg FL.out, if_neg DL.out, HN.out]; simp)
      clear h0
      cases e
      all_goals
        go_enter Tryz.func105, Tryz.ntmps105
        go_wp2
        go_ret
        exact ⟨by rw [HR.out]; rfl, HB.out⟩
    · have HR := Lib.hid (show r = false by rw [HS.out, if_neg h0.1, if_neg h0.2.1, HN.out]; simp)
      clear h0
      cases e
      all_goals
        go_enter Tryz.func105, Tryz.ntmps105
        go_wp2
        go_ret
        exact ⟨by rw [HR.out]; rfl, HB.out⟩
#print axioms shape_any
end Go.Proofs.YtgmdifmokcnbpaaGreatDoor
