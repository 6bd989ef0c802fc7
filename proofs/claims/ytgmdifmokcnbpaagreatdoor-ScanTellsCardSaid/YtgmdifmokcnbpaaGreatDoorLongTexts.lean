/- The walk of the law's longTexts. -/
import Derived.Test.YtgmdifmokcnbpaaGreatDoorTexts
namespace Go.Proofs.YtgmdifmokcnbpaaGreatDoor
open Go.RowKit Go.Maps Go.Sort Go.Shelf

/-- Are texts too many, or too long? -/
def longL (l : List (List UInt8)) (m : Nat) : Bool := decide (20 < l.length) || l.any fun x => decide (m < x.length)

set_option maxHeartbeats 1000000 in
theorem longTexts_any (v : Value) (l : List (List UInt8)) (m : Nat) (hl : l.length ≤ 9223372036854775806) (w : World) (hs : Strs w v l) :
    Calls Tryz.prog 6 #[v, .int .i64 m] w fun e w' => e = .returned (.bool (longL l m)) ∧ w' = w := by
  obtain ⟨A, c, rfl, h1⟩ := id hs
  clear h1
  go_enter Tryz.func6, Tryz.ntmps6
  have HS := Lib.hid hs
  clear hs
  have HE : Hid (longL l m = (decide (20 < l.length) || l.any fun x => decide (m < x.length))) := Lib.hid rfl
  generalize longL l m = r at HE
  by_cases hb : 20 < l.length
  · have i0 : (20 : Int) < (l.length : Int) := by omega
    have HF := Lib.hid (show r = true by rw [HE.out]; simp [hb])
    go_wp2
    go_ret
    exact ⟨by rw [HF.out]; rfl, rfl⟩
  have i0 : (l.length : Int) ≤ 20 := by omega
  go_wp2_with fail
  go_loopw [5] (fun a wr => wr = w ∧ ∃ k : Nat, k ≤ l.length ∧ a = .int .i64 k ∧ Hid ((l.take k).any (fun x => decide (m < x.length)) = false)) (fun a _ => l.length - (intOf a).toNat)
  case atStart => exact ⟨rfl, 0, Nat.zero_le _, rfl, Lib.hid rfl⟩
  case round =>
    obtain ⟨rfl, k, hk, rfl, HP⟩ := hrel
    by_cases hkl : k < l.length
    · obtain ⟨b, off, rfl, hb, hc⟩ := HS.out.cellAt hkl
      have i1 : (k : Int) < (l.length : Int) := by omega
      have i2 : (0 : Int) ≤ (k : Int) := by omega
      by_cases hx : m < (l[k]).length
      · have HF := Lib.hid (show r = true by
          rw [HE.out, Bool.or_eq_true]
          exact .inr (List.any_eq_true.2 ⟨l[k], List.getElem_mem _, by simpa using hx⟩))
        have i3 : (m : Int) < ((l[k]).length : Int) := by omega
        clear hx
        go_wp2
        go_ret
        exact ⟨by rw [HF.out]; rfl, rfl⟩
      · have HX := Lib.hid hx
        have i3 : ((l[k]).length : Int) ≤ (m : Int) := by omega
        clear hx
        go_wp2
        go_roundw
        case rel =>
          refine ⟨trivial, k + 1, hkl, rfl, Lib.hid ?_⟩
          rw [List.take_succ_eq_append_getElem hkl, List.any_append, HP.out]
          simpa using HX.out
        case measure => simp [intOf]; omega
    · have i1 : ¬ (k : Int) < (l.length : Int) := by omega
      have HF := Lib.hid (show r = false by
        have h := HP.out
        rw [List.take_of_length_le (by omega)] at h
        rw [HE.out, h]
        simp [hb])
      go_wp2
      go_ret
      exact ⟨by rw [HF.out]; rfl, rfl⟩
#print axioms longTexts_any
end Go.Proofs.YtgmdifmokcnbpaaGreatDoor
