/- Three walks of the reference: IsLetter, IsName and wordAt. -/
import Derived.Test.YtgmdifmokcnbpaaGreatDoorNames
import Derived.LoopTactic
namespace Go.Proofs.YtgmdifmokcnbpaaGreatDoor
open Go.RowKit

theorem isLetter_nat (c : UInt8) : Stl.isLetter c = ((decide (97 ≤ c.toNat) && decide (c.toNat ≤ 122)) || (decide (48 ≤ c.toNat) && decide (c.toNat ≤ 57)) || decide (c.toNat = 46) || decide (c.toNat = 45)) := by
  have h : ∀ n : Fin 256, Stl.isLetter (UInt8.ofNat n.1) = ((decide (97 ≤ (UInt8.ofNat n.1).toNat) && decide ((UInt8.ofNat n.1).toNat ≤ 122)) || (decide (48 ≤ (UInt8.ofNat n.1).toNat) && decide ((UInt8.ofNat n.1).toNat ≤ 57)) || decide ((UInt8.ofNat n.1).toNat = 46) || decide ((UInt8.ofNat n.1).toNat = 45)) := by decide +kernel
  have := h ⟨c.toNat, c.toNat_lt⟩
  simpa using this

set_option maxHeartbeats 1000000 in
theorem IsLetter_any (c : UInt8) (w : World) : Calls Tryz.prog 44 #[.int .u8 c.toNat] w fun e w' => e = .returned (.bool (Stl.isLetter c)) ∧ w' = w := by
  have HR := Lib.hid (isLetter_nat c)
  generalize Stl.isLetter c = b at HR
  generalize c.toNat = n at HR
  go_enter Tryz.func44, Tryz.ntmps44
  have hc : (n < 45) ∨ (n = 45) ∨ (n = 46) ∨ (n = 47) ∨ (48 ≤ n ∧ n ≤ 57) ∨ (58 ≤ n ∧ n ≤ 96) ∨ (97 ≤ n ∧ n ≤ 122) ∨ (122 < n) := by omega
  rcases hc with h | h | h | h | h | h | h | h
  · obtain rfl : b = false := by
      rw [HR.out]
      simp
      omega
    have g97 : ¬ (97 : Int) ≤ (n : Int) := by omega
    have g48 : ¬ (48 : Int) ≤ (n : Int) := by omega
    have l122 : (n : Int) ≤ 122 := by omega
    have l57 : (n : Int) ≤ 57 := by omega
    have e46 : ((n : Int) == 46) = false := by rw [beq_eq_false_iff_ne]; omega
    have e45 : ((n : Int) == 45) = false := by rw [beq_eq_false_iff_ne]; omega
    clear h
    go_wp2
    go_ret
    exact ⟨rfl, rfl⟩
  · subst h
    obtain rfl : b = true := by rw [HR.out]; rfl
    go_wp2
    go_ret
    exact ⟨rfl, rfl⟩
  · subst h
    obtain rfl : b = true := by rw [HR.out]; rfl
    go_wp2
    go_ret
    exact ⟨rfl, rfl⟩
  · subst h
    obtain rfl : b = false := by rw [HR.out]; rfl
    go_wp2
    go_ret
    exact ⟨rfl, rfl⟩
  · obtain rfl : b = true := by
      rw [HR.out]
      simp
      omega
    have g97 : ¬ (97 : Int) ≤ (n : Int) := by omega
    have g48 : (48 : Int) ≤ (n : Int) := by omega
    have l122 : (n : Int) ≤ 122 := by omega
    have l57 : (n : Int) ≤ 57 := by omega
    have e46 : ((n : Int) == 46) = false := by rw [beq_eq_false_iff_ne]; omega
    have e45 : ((n : Int) == 45) = false := by rw [beq_eq_false_iff_ne]; omega
    clear h
    go_wp2
    go_ret
    exact ⟨rfl, rfl⟩
  · obtain rfl : b = false := by
      rw [HR.out]
      simp
      omega
    have g97 : ¬ (97 : Int) ≤ (n : Int) := by omega
    have g48 : (48 : Int) ≤ (n : Int) := by omega
    have l122 : (n : Int) ≤ 122 := by omega
    have l57 : ¬ (n : Int) ≤ 57 := by omega
    have e46 : ((n : Int) == 46) = false := by rw [beq_eq_false_iff_ne]; omega
    have e45 : ((n : Int) == 45) = false := by rw [beq_eq_false_iff_ne]; omega
    clear h
    go_wp2
    go_ret
    exact ⟨rfl, rfl⟩
  · obtain rfl : b = true := by
      rw [HR.out]
      simp
      omega
    have g97 : (97 : Int) ≤ (n : Int) := by omega
    have g48 : (48 : Int) ≤ (n : Int) := by omega
    have l122 : (n : Int) ≤ 122 := by omega
    have l57 : ¬ (n : Int) ≤ 57 := by omega
    have e46 : ((n : Int) == 46) = false := by rw [beq_eq_false_iff_ne]; omega
    have e45 : ((n : Int) == 45) = false := by rw [beq_eq_false_iff_ne]; omega
    clear h
    go_wp2
    go_ret
    exact ⟨rfl, rfl⟩
  · obtain rfl : b = false := by
      rw [HR.out]
      simp
      omega
    have g97 : (97 : Int) ≤ (n : Int) := by omega
    have g48 : (48 : Int) ≤ (n : Int) := by omega
    have l122 : ¬ (n : Int) ≤ 122 := by omega
    have l57 : ¬ (n : Int) ≤ 57 := by omega
    have e46 : ((n : Int) == 46) = false := by rw [beq_eq_false_iff_ne]; omega
    have e45 : ((n : Int) == 45) = false := by rw [beq_eq_false_iff_ne]; omega
    clear h
    go_wp2
    go_ret
    exact ⟨rfl, rfl⟩
#print axioms IsLetter_any

theorem all_take_succ (l : List UInt8) (k : Nat) (hk : k < l.length) : (l.take (k + 1)).all Stl.isLetter = ((l.take k).all Stl.isLetter && Stl.isLetter l[k]) := by
  rw [List.take_succ_eq_append_getElem hk, List.all_append]
  simp

set_option maxHeartbeats 1000000 in
theorem wordAt_any (l : List UInt8) (hl : l.length ≤ 9223372036854775806) (at_ : Nat) (hat : at_ ≤ l.length) (w : World) :
    Calls Tryz.prog 23 #[.string ⟨l.toArray⟩, .int .i64 at_] w fun e w' => e = .returned (.int .i64 ((at_ + (Stl.word (l.drop at_)).length : Nat) : Int)) ∧ w' = w := by
  have HR : Hid (∀ k, at_ ≤ k → k ≤ l.length → ((l.drop at_).take (k - at_)).all Stl.isLetter = true → Stl.word (l.drop k) = [] → k = at_ + (Stl.word (l.drop at_)).length) := Lib.hid (by
    intro k h1 h2 h3 h4
    have e : l.drop at_ = (l.drop at_).take (k - at_) ++ l.drop k := by
      have := List.take_append_drop (k - at_) (l.drop at_)
      rw [List.drop_drop, show at_ + (k - at_) = k by omega] at this
      exact this.symm
    have e2 := Stl.word_append h3 h4
    rw [← e] at e2
    rw [e2, List.length_take, List.length_drop]
    omega)
  generalize at_ + (Stl.word (l.drop at_)).length = r at HR
  go_enter Tryz.func23, Tryz.ntmps23
  go_wp2_with fail
  go_loopw [1] (fun a wr => wr = w ∧ ∃ k : Nat, at_ ≤ k ∧ k ≤ l.length ∧ a = .int .i64 k ∧ Hid (((l.drop at_).take (k - at_)).all Stl.isLetter = true)) (fun a _ => l.length - (intOf a).toNat)
  case atStart => exact ⟨rfl, at_, Nat.le_refl _, hat, rfl, Lib.hid (by simp)⟩
  case round =>
    obtain ⟨rfl, k, hk0, hk, rfl, HP⟩ := hrel
    by_cases hkl : k < l.length
    · have n1 : (k : Int) < (l.length : Int) := by omega
      have n2 : (0 : Int) ≤ (k : Int) := by omega
      go_wp2_with fail
      refine (IsLetter_any l[k] _).mono ?_
      rintro e w2 ⟨rfl, rfl⟩
      cases hc : Stl.isLetter l[k]
      · have hr : k = r := HR.out k hk0 hk HP.out (by
          rw [List.drop_eq_getElem_cons hkl]
          show List.takeWhile _ _ = []
          rw [List.takeWhile_cons, hc]
          rfl)
        have HK := Lib.hid hr.symm
        clear hr
        go_wp2
        go_ret
        exact ⟨by rw [HK.out]; rfl, rfl⟩
      · have HC := Lib.hid hc
        clear hc
        go_wp2
        go_roundw
        case rel =>
          refine ⟨trivial, k + 1, by omega, hkl, rfl, Lib.hid ?_⟩
          have hl2 : k - at_ < (l.drop at_).length := by rw [List.length_drop]; omega
          rw [show k + 1 - at_ = (k - at_) + 1 by omega, all_take_succ _ _ hl2, HP.out, List.getElem_drop]
          simpa [show at_ + (k - at_) = k by omega] using HC.out
        case measure => simp [intOf]; omega
    · have n1 : ¬ (k : Int) < (l.length : Int) := by omega
      have hk2 : k = l.length := by omega
      have hr : k = r := HR.out k hk0 hk HP.out (by rw [hk2, List.drop_length]; rfl)
      have HK := Lib.hid hr.symm
      clear hk2 hr
      go_wp2
      go_ret
      exact ⟨by rw [HK.out]; rfl, rfl⟩
#print axioms wordAt_any

set_option maxHeartbeats 1000000 in
theorem IsName_any (l : List UInt8) (hl : l.length ≤ 9223372036854775806) (w : World) :
    Calls Tryz.prog 24 #[.string ⟨l.toArray⟩] w fun e w' => e = .returned (.bool (Stl.isName l)) ∧ w' = w := by
  have HR : Hid (Stl.isName l = (decide (1 ≤ l.length) && decide (l.length ≤ 12) && l.all Stl.isLetter && l != [46] && l != [46, 46])) := Lib.hid rfl
  generalize Stl.isName l = r at HR
  go_enter Tryz.func24, Tryz.ntmps24
  go_wp2_with fail
  go_loopw [3] (fun a wr => wr = w ∧ ∃ k : Nat, k ≤ l.length ∧ a = .int .i64 k ∧ Hid ((l.take k).all Stl.isLetter = true)) (fun a _ => l.length - (intOf a).toNat)
  case atStart => exact ⟨rfl, 0, Nat.zero_le _, rfl, Lib.hid (by simp)⟩
  case round =>
    obtain ⟨rfl, k, hk, rfl, HP⟩ := hrel
    by_cases hkl : k < l.length
    · have n1 : (k : Int) < (l.length : Int) := by omega
      have n2 : (0 : Int) ≤ (k : Int) := by omega
      go_wp2_with fail
      refine (IsLetter_any l[k] _).mono ?_
      rintro e w2 ⟨rfl, rfl⟩
      cases hc : Stl.isLetter l[k]
      · have HF := Lib.hid (show r = false by
          have ha : l.all Stl.isLetter = false := by
            rw [List.all_eq_false]
            exact ⟨l[k], List.getElem_mem _, by rw [hc]; simp⟩
          rw [HR.out, ha]
          simp)
        go_wp2
        go_ret
        exact ⟨by rw [HF.out]; rfl, rfl⟩
      · have HC := Lib.hid hc
        clear hc
        go_wp2
        go_roundw
        case rel =>
          refine ⟨trivial, k + 1, hkl, rfl, Lib.hid ?_⟩
          rw [all_take_succ _ _ hkl, HP.out, HC.out]
          rfl
        case measure => simp [intOf]; omega
    · have n1 : ¬ (k : Int) < (l.length : Int) := by omega
      have HA := Lib.hid (show l.all Stl.isLetter = true by
        have := HP.out
        rwa [List.take_of_length_le (by omega)] at this)
      by_cases b1 : 1 ≤ l.length
      · by_cases b2 : l.length ≤ 12
        · have c1 : (1 : Int) ≤ (l.length : Int) := by omega
          have c2 : (l.length : Int) ≤ 12 := by omega
          by_cases b3 : l = [46]
          · subst b3
            have HF := Lib.hid (show r = false by rw [HR.out]; rfl)
            go_wp2
            go_ret
            exact ⟨by rw [HF.out]; rfl, rfl⟩
          · have HB3 := Lib.hid b3
            have d3 : (l == [46]) = false := by rw [beq_eq_false_iff_ne]; exact b3
            clear b3
            by_cases b4 : l = [46, 46]
            · subst b4
              have HF := Lib.hid (show r = false by rw [HR.out]; rfl)
              go_wp2
              go_ret
              exact ⟨by rw [HF.out]; rfl, rfl⟩
            · have HF := Lib.hid (show r = true by rw [HR.out, HA.out]; simp [b1, b2, HB3.out, b4])
              have d4 : (l == [46, 46]) = false := by rw [beq_eq_false_iff_ne]; exact b4
              clear b4
              go_wp2
              go_ret
              exact ⟨by rw [HF.out]; rfl, rfl⟩
        · have c1 : (1 : Int) ≤ (l.length : Int) := by omega
          have c2 : ¬ (l.length : Int) ≤ 12 := by omega
          have HF := Lib.hid (show r = false by rw [HR.out]; simp [b2])
          go_wp2
          go_ret
          exact ⟨by rw [HF.out]; rfl, rfl⟩
      · have c1 : ¬ (1 : Int) ≤ (l.length : Int) := by omega
        have HF := Lib.hid (show r = false by rw [HR.out]; simp [b1])
        go_wp2
        go_ret
        exact ⟨by rw [HF.out]; rfl, rfl⟩
#print axioms IsName_any
end Go.Proofs.YtgmdifmokcnbpaaGreatDoor
