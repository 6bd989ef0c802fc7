/- The walk of scan.mentions: what is done at each mention is done in order, whatever it is. -/
import Derived.Test.YtgmdifmokcnbpaaGreatDoorNames
import Derived.LoopTactic
namespace Go.Proofs.YtgmdifmokcnbpaaGreatDoor
open Go.RowKit

theorem ments_index : ∀ (r : List UInt8) (k : Nat), (Lib.indexByte r 35 = -1 ∧ Stl.mentsAt k r = []) ∨
    ∃ j : Nat, Lib.indexByte r 35 = j ∧ j < r.length ∧ Stl.mentsAt k r = (k + j + 1, Stl.word (r.drop (j + 1))) :: Stl.mentsAt (k + j + 1) (r.drop (j + 1))
  | [], k => .inl ⟨rfl, rfl⟩
  | c :: r, k => by
    have e0 : Stl.mentsAt k (c :: r) = if c == 35 then (k + 1, Stl.word r) :: Stl.mentsAt (k + 1) r else Stl.mentsAt (k + 1) r := rfl
    have e1 : Lib.indexByte (c :: r) 35 = if c == 35 then 0 else if Lib.indexByte r 35 == -1 then -1 else Lib.indexByte r 35 + 1 := rfl
    rw [e0, e1]
    cases hc : (c == 35)
    · rcases ments_index r (k + 1) with ⟨h1, h2⟩ | ⟨j, h1, h2, h3⟩
      · exact .inl ⟨by rw [h1]; rfl, by rw [h2]; rfl⟩
      · refine .inr ⟨j + 1, ?_, by simp; omega, ?_⟩
        · have : (Lib.indexByte r 35 == -1) = false := by rw [h1, beq_eq_false_iff_ne]; omega
          rw [this, h1]
          rfl
        · rw [h3, List.drop_succ_cons, show k + 1 + j + 1 = k + (j + 1) + 1 by omega]
          rfl
    · exact .inr ⟨0, rfl, by simp, rfl⟩

set_option maxHeartbeats 1000000 in
theorem mentions_any (l : List UInt8) (hl : l.length ≤ 9223372036854775807) (g : Nat) (caps : Array Value) (hg : ∀ args w, (callFunc g args).run Tryz.prog w = .ok (.enter g args) w)
    (I : List (Nat × List UInt8) → World → Prop) (hst : ∀ pre W W', I pre W → Below W.heap.size W W' → I pre W')
    (hdo : ∀ (pre : List (Nat × List UInt8)) (at_ : Nat) (W : World), I pre W → at_ ≤ l.length → (∃ rest, pre ++ (at_, Stl.word (l.drop at_)) :: rest = Stl.mentsAt 0 l) → Calls Tryz.prog g (#[.int .i64 at_, .string ⟨(Stl.word (l.drop at_)).toArray⟩] ++ caps) W fun e W' => e = .returned (.tuple #[]) ∧ I (pre ++ [(at_, Stl.word (l.drop at_))]) W')
    (w : World) (h0 : I [] w) :
    Calls Tryz.prog 17 #[.string ⟨l.toArray⟩, .func (.func g) #[] caps] w fun e w' => e = .returned (.tuple #[]) ∧ I (Stl.mentsAt 0 l) w' := by
  have HST := Lib.hid hst
  have HDO := Lib.hid hdo
  have H0 := Lib.hid h0
  clear hst hdo h0
  go_enter Tryz.func17, Tryz.ntmps17
  go_wp2_with fail
  go_loopw [4] (fun a wr => ∃ (k : Nat) (pre : List (Nat × List UInt8)), k ≤ l.length ∧ a = .int .i64 k ∧ Hid (I pre wr) ∧ Hid (pre ++ Stl.mentsAt k (l.drop k) = Stl.mentsAt 0 l)) (fun a _ => l.length - (intOf a).toNat)
  case atStart => exact ⟨0, [], Nat.zero_le _, rfl, Lib.hid H0.out, Lib.hid (by simp)⟩
  case round =>
    obtain ⟨k, pre, hk, rfl, HI, HP⟩ := hrel
    have hx := extract_drop l
    rcases ments_index (l.drop k) k with ⟨h1, h2⟩ | ⟨j, h1, h2, h3⟩
    · have H2 := Lib.hid h2
      clear h2
      go_wp2_with (go_at_call 38; refine (Tryz.strings_Index_one _ 35 _).mono ?_; rintro e w' ⟨rfl, rfl⟩)
      refine bodyPost_ret (results_none rfl _ _ _) rfl ⟨rfl, ?_⟩
      have := HP.out
      rw [H2.out, List.append_nil] at this
      rw [← this]
      exact HI.out
    · have hkl : k + j + 1 ≤ l.length := by simp at h2; omega
      have H3 := Lib.hid h3
      clear h3 h2
      have hx2 : ((k : Int) + ((j : Int) + 1)) = ((k + j + 1 : Nat) : Int) := by omega
      go_wp2_with (first
        | (go_at_call 38; refine (Tryz.strings_Index_one _ 35 _).mono ?_; rintro e w' ⟨rfl, rfl⟩)
        | (go_at_call 39; go_must (refine (word_any _ _ (by simp; omega)).mono ?_); rintro e w1 ⟨rfl, hb1⟩)
        | fail)
      rw [show ((k : Int) + (j : Int) + 1) = ((k + j + 1 : Nat) : Int) from by omega]
      refine (HDO.out pre (k + j + 1) w1 (HST.out _ _ _ HI.out hb1) hkl ⟨_, by rw [← HP.out, H3.out, List.drop_drop]; rfl⟩).mono ?_
      rintro e w2 ⟨rfl, h2⟩
      have H2 := Lib.hid h2
      clear h2
      go_wp2
      go_roundw
      case rel =>
        refine ⟨k + j + 1, _, hkl, rfl, H2, ?_⟩
        have h4 := HP.out
        rw [H3.out] at h4
        rw [← h4]
        have e1 : (l.drop k).drop (j + 1) = l.drop (k + j + 1) := by rw [List.drop_drop]; rfl
        show Hid (_ = _)
        rw [e1]
        exact Lib.hid (by simp)
      case measure => simp [intOf]; omega
#print axioms mentions_any
end Go.Proofs.YtgmdifmokcnbpaaGreatDoor
