/- The walk of the reference's TurnOf. -/
import Derived.Test.YtgmdifmokcnbpaaGreatDoorRefNames
import Derived.Deep.DeepCutAuto
import Derived.Deep.CutRange
namespace Go.Proofs.YtgmdifmokcnbpaaGreatDoor
open Go.RowKit

/-- What TurnOf hands back. -/
def turnOfRes (l f t : List UInt8) : Value :=
  if Stl.isName f = true ∧ Stl.isName t = true then
    (if 2000 < (Stl.turnL f t 0 l).length then .tuple #[.string ⟨#[]⟩, .int .i64 2] else .tuple #[.string ⟨(Stl.turnL f t 0 l).toArray⟩, .int .i64 0])
  else .tuple #[.string ⟨#[]⟩, .int .i64 5]

theorem turnL_other (f t l : List UInt8) (k : Nat) (hk : k < l.length) (hc : (l[k] == 35) = false) (out : List UInt8) (h : out ++ Stl.turnL f t 0 (l.drop k) = Stl.turnL f t 0 l) : (out ++ [l[k]]) ++ Stl.turnL f t 0 (l.drop (k + 1)) = Stl.turnL f t 0 l := by
  rw [← h, List.drop_eq_getElem_cons hk]
  simp [Stl.turnL, hc]

theorem turnL_same (f t l : List UInt8) (k : Nat) (hk : k < l.length) (hc : (l[k] == 35) = true) (hw : Stl.word (l.drop (k + 1)) = f) (out : List UInt8) (h : out ++ Stl.turnL f t 0 (l.drop k) = Stl.turnL f t 0 l) : (out ++ [l[k]] ++ t) ++ Stl.turnL f t 0 (l.drop (k + 1 + (Stl.word (l.drop (k + 1))).length)) = Stl.turnL f t 0 l := by
  rw [← h, List.drop_eq_getElem_cons hk]
  simp only [Stl.turnL, hc, hw]
  rw [Stl.turnL_drop f t f.length, List.drop_drop]
  simp

theorem turnL_wrong (f t l : List UInt8) (k : Nat) (hk : k < l.length) (hc : (l[k] == 35) = true) (hw : Stl.word (l.drop (k + 1)) ≠ f) (out : List UInt8) (h : out ++ Stl.turnL f t 0 (l.drop k) = Stl.turnL f t 0 l) : (out ++ [l[k]]) ++ Stl.turnL f t 0 (l.drop (k + 1)) = Stl.turnL f t 0 l := by
  rw [← h, List.drop_eq_getElem_cons hk]
  simp [Stl.turnL, hc, hw]

theorem extract_one (l : List UInt8) (k : Nat) (hk : k < l.length) : (⟨l.toArray⟩ : ByteArray).extract k (k + 1) = ⟨[l[k]].toArray⟩ := by
  rw [extract_part, List.take_succ_eq_append_getElem hk]
  congr 2
  rw [List.drop_append_of_le_length (by simp; omega)]
  simp

theorem extract_word (l : List UInt8) (k : Nat) : (⟨l.toArray⟩ : ByteArray).extract k (k + (Stl.word (l.drop k)).length) = ⟨(Stl.word (l.drop k)).toArray⟩ := by
  rw [extract_part]
  congr 2
  have h := Stl.word_take (l.drop k)
  rw [← List.take_drop] at *
  exact h

theorem mark_not (l : List UInt8) (k : Nat) (hpf : k < (ByteArray.mk l.toArray).size) (hkl : k < l.length) (hc : (l[k] == 35) = false) : ((((ByteArray.mk l.toArray)[k]'hpf).toNat : Int) != 35) = true := by
  rw [beq_eq_false_iff_ne] at hc
  rw [bne_iff_ne]
  intro h
  refine hc (UInt8.toNat_inj.1 ?_)
  have h2 : (l[k]).toNat = 35 := by
    have : ((ByteArray.mk l.toArray)[k]'hpf) = l[k] := rfl
    rw [this] at h
    omega
  rw [h2]
  rfl

theorem mark_is (l : List UInt8) (k : Nat) (hpf : k < (ByteArray.mk l.toArray).size) (hkl : k < l.length) (hc : (l[k] == 35) = true) : ((((ByteArray.mk l.toArray)[k]'hpf).toNat : Int) != 35) = false := by
  rw [beq_iff_eq] at hc
  have : ((ByteArray.mk l.toArray)[k]'hpf) = l[k] := rfl
  rw [this, hc]
  rfl

set_option maxHeartbeats 2000000 in
theorem TurnOf_any (l f t : List UInt8) (hl : l.length ≤ 1000000) (hf : f.length ≤ 1000000) (ht : t.length ≤ 1000000) (w : World) :
    Calls Tryz.prog 14 #[.string ⟨l.toArray⟩, .string ⟨f.toArray⟩, .string ⟨t.toArray⟩] w fun e w' => e = .returned (turnOfRes l f t) ∧ w' = w := by
  cases hnf : Stl.isName f
  · have HR : Hid (turnOfRes l f t = .tuple #[.string ⟨#[]⟩, .int .i64 5]) := Lib.hid (by simp [turnOfRes, hnf])
    go_enter Tryz.func14, Tryz.ntmps14
    go_wp2_with fail
    refine (IsName_any f (by omega) _).mono ?_
    rintro e w1 ⟨rfl, rfl⟩
    rw [hnf]
    go_wp2_with fail
    refine (IsName_any t (by omega) _).mono ?_
    rintro e w1 ⟨rfl, rfl⟩
    go_wp2_with fail
    go_ret2
    exact ⟨by rw [HR.out]; rfl, rfl⟩
  cases hnt : Stl.isName t
  · have HR : Hid (turnOfRes l f t = .tuple #[.string ⟨#[]⟩, .int .i64 5]) := Lib.hid (by simp [turnOfRes, hnt])
    go_enter Tryz.func14, Tryz.ntmps14
    go_wp2_with fail
    refine (IsName_any f (by omega) _).mono ?_
    rintro e w1 ⟨rfl, rfl⟩
    rw [hnf]
    go_wp2_with fail
    refine (IsName_any t (by omega) _).mono ?_
    rintro e w1 ⟨rfl, rfl⟩
    rw [hnt]
    go_wp2_with fail
    go_ret2
    exact ⟨by rw [HR.out]; rfl, rfl⟩
  have HR := Lib.hid (show turnOfRes l f t = (if 2000 < (Stl.turnL f t 0 l).length then .tuple #[.string ⟨#[]⟩, .int .i64 2] else .tuple #[.string ⟨(Stl.turnL f t 0 l).toArray⟩, .int .i64 0]) by simp [turnOfRes, hnf, hnt])
  have HL := Stl.turn_length f t (Stl.name_le hnt) 0 l
  have ht12 := Stl.name_le hnt
  go_enter Tryz.func14, Tryz.ntmps14
  go_wp2_with fail
  refine (IsName_any f (by omega) _).mono ?_
  rintro e w1 ⟨rfl, rfl⟩
  rw [hnf]
  go_wp2_with fail
  refine (IsName_any t (by omega) _).mono ?_
  rintro e w1 ⟨rfl, rfl⟩
  rw [hnt]
  clear hnf hnt
  go_wp2_with fail
  go_loopw [10, 11] (fun a b wr => wr = w1 ∧ ∃ (k : Nat) (out : List UInt8), k ≤ l.length ∧ a = .string ⟨out.toArray⟩ ∧ b = .int .i64 k ∧ Hid (out ++ Stl.turnL f t 0 (l.drop k) = Stl.turnL f t 0 l)) (fun _ b _ => l.length - (intOf b).toNat)
  case atStart => exact ⟨rfl, 0, [], Nat.zero_le _, rfl, rfl, Lib.hid (by simp)⟩
  case round =>
    obtain ⟨rfl, k, out, hk, rfl, rfl, HP⟩ := hrel
    have ho : out.length ≤ 13 * l.length := by
      have := congrArg List.length HP.out
      rw [List.length_append] at this
      omega
    by_cases hkl : k < l.length
    · have n1 : (k : Int) < (l.length : Int) := by omega
      have n2 : (0 : Int) ≤ (k : Int) := by omega
      have k1 : ¬ 9223372036854775807 < out.length + 1 := by omega
      have k3 : ByteArray.mk out.toArray ++ ByteArray.mk [l[k]].toArray = ByteArray.mk (out ++ [l[k]]).toArray := ByteArray.mk_append_mk out [l[k]]
      have k2 := extract_one l k hkl
      have hpf : k < (ByteArray.mk l.toArray).size := by simpa [ByteArray.size] using hkl
      cases hc : (l[k] == 35)
      · have HO := Lib.hid (turnL_other f t l k hkl hc out HP.out)
        have hc2 : ((((ByteArray.mk l.toArray)[k]'hpf).toNat : Int) != 35) = true := mark_not l k hpf hkl hc
        clear hc HP
        go_wp2
        go_roundw
        case rel => exact ⟨trivial, k + 1, out ++ [l[k]], hkl, rfl, rfl, HO⟩
        case measure => simp [intOf]; omega
      · have hc2 : ((((ByteArray.mk l.toArray)[k]'hpf).toNat : Int) != 35) = false := mark_is l k hpf hkl hc
        have HC := Lib.hid hc
        clear hc
        go_wp2_with fail
        rw [show ((k : Int) + 1) = ((k + 1 : Nat) : Int) from by omega]
        refine (wordAt_any l (by omega) (k + 1) hkl _).mono ?_
        rintro e w2 ⟨rfl, rfl⟩
        have hx2 := extract_word l (k + 1)
        have hwl := Stl.word_length_le (l.drop (k + 1))
        rw [List.length_drop] at hwl
        have e1 : k + 1 + (Stl.word (l.drop (k + 1))).length ≤ l.length := by omega
        have e2 : k + 1 ≤ k + 1 + (Stl.word (l.drop (k + 1))).length := by omega
        by_cases hw : Stl.word (l.drop (k + 1)) = f
        · have HO := Lib.hid (turnL_same f t l k hkl HC.out hw out HP.out)
          rw [hw] at HO hx2 e1 e2
          rw [hw]
          clear hw hwl HP
          generalize k + 1 + f.length = en at HO hx2 e1 e2
          have i3 : (en : Int) ≤ (l.length : Int) := by omega
          have i4 : (k : Int) + 1 ≤ (en : Int) := by omega
          have k4 : ¬ 9223372036854775807 < out.length + 1 + t.length := by omega
          have k5 : ByteArray.mk (out ++ [l[k]]).toArray ++ ByteArray.mk t.toArray = ByteArray.mk (out ++ [l[k]] ++ t).toArray := ByteArray.mk_append_mk (out ++ [l[k]]) t
          go_wp2
          go_roundw
          case rel => exact ⟨trivial, en, out ++ l[k] :: t, by omega, rfl, rfl, Lib.hid (by simpa using HO.out)⟩
          case measure => simp [intOf]; omega
        · have HO := Lib.hid (turnL_wrong f t l k hkl HC.out hw out HP.out)
          have hw2 : (Stl.word (l.drop (k + 1)) == f) = false := by rw [beq_eq_false_iff_ne]; exact hw
          clear hw hwl HP
          generalize Stl.word (l.drop (k + 1)) = wd at HO hx2 e1 e2 hw2
          generalize k + 1 + wd.length = en at HO hx2 e1 e2
          have i3 : (en : Int) ≤ (l.length : Int) := by omega
          have i4 : (k : Int) + 1 ≤ (en : Int) := by omega
          go_wp2
          go_roundw
          case rel => exact ⟨trivial, k + 1, out ++ [l[k]], hkl, rfl, rfl, HO⟩
          case measure => simp [intOf]; omega
    · have n1 : ¬ (k : Int) < (l.length : Int) := by omega
      have he : out = Stl.turnL f t 0 l := by
        have := HP.out
        rw [List.drop_of_length_le (by omega)] at this
        simpa [Stl.turnL] using this
      clear HP
      have HE := Lib.hid he.symm
      clear he
      by_cases hr : 2000 < out.length
      · have n3 : (2000 : Int) < (out.length : Int) := by omega
        go_wp2
        go_ret2
        exact ⟨by rw [HR.out, HE.out, if_pos hr]; rfl, rfl⟩
      · have n3 : (out.length : Int) ≤ 2000 := by omega
        go_wp2
        go_ret2
        exact ⟨by rw [HR.out, HE.out, if_neg hr]; rfl, rfl⟩
#print axioms TurnOf_any
end Go.Proofs.YtgmdifmokcnbpaaGreatDoor
