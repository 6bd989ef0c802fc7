/- The walk of the reference's FindIn: it finds what the program's Find finds. -/
import Derived.Test.YtgmdifmokcnbpaaGreatDoorRefWith
import Derived.Test.YtgmdifmokcnbpaaGreatDoorRefTurn
namespace Go.Proofs.YtgmdifmokcnbpaaGreatDoor
open Go.RowKit Go.Maps Go.Sort Go.Shelf

theorem ments_other (l : List UInt8) (k : Nat) (hk : k < l.length) (hc : (l[k] == 35) = false) : Stl.ments (l.drop k) = Stl.ments (l.drop (k + 1)) := by
  rw [List.drop_eq_getElem_cons hk]
  simp [Stl.ments, hc]

theorem ments_same (l : List UInt8) (k : Nat) (hk : k < l.length) (hc : (l[k] == 35) = true) : Stl.ments (l.drop k) = Stl.word (l.drop (k + 1)) :: Stl.ments (l.drop (k + 1)) := by
  rw [List.drop_eq_getElem_cons hk]
  simp [Stl.ments, hc]

/-- What is still to be taken in, from place k on, comes with acc to all that is found. -/
def Left (l : List UInt8) (names : List (List UInt8)) (k : Nat) (acc : List (List UInt8)) : Prop :=
  Stl.insAll ((Stl.ments (l.drop k)).filter fun w => Stl.isName w && names.contains w) acc = Stl.found l names

theorem left_other {l : List UInt8} {names : List (List UInt8)} {k : Nat} {acc : List (List UInt8)} (h : Left l names k acc) (hk : k < l.length) (hc : (l[k] == 35) = false) : Left l names (k + 1) acc := by
  unfold Left at *
  rw [← ments_other l k hk hc]
  exact h

theorem left_wrong {l : List UInt8} {names : List (List UInt8)} {k : Nat} {acc : List (List UInt8)} (h : Left l names k acc) (hk : k < l.length) (hc : (l[k] == 35) = true) (hw : (Stl.isName (Stl.word (l.drop (k + 1))) && names.contains (Stl.word (l.drop (k + 1)))) = false) : Left l names (k + 1) acc := by
  unfold Left at *
  rw [ments_same l k hk hc, List.filter_cons, hw] at h
  exact h

theorem left_same {l : List UInt8} {names : List (List UInt8)} {k : Nat} {acc : List (List UInt8)} (h : Left l names k acc) (hk : k < l.length) (hc : (l[k] == 35) = true) (hw : (Stl.isName (Stl.word (l.drop (k + 1))) && names.contains (Stl.word (l.drop (k + 1)))) = true) : Left l names (k + 1) (Stl.ins (Stl.word (l.drop (k + 1))) acc) := by
  unfold Left at *
  rw [ments_same l k hk hc, List.filter_cons, hw] at h
  exact h

set_option maxHeartbeats 2000000 in
theorem FindIn_any (l : List UInt8) (hl : l.length ≤ 1000000) (nv : Value) (names : List (List UInt8)) (hn : names.length ≤ 1000000) (w : World) (hs : Strs w nv names) :
    Calls Tryz.prog 9 #[.string ⟨l.toArray⟩, nv] w fun e w' => ∃ v, e = .returned v ∧ Row w' v (Stl.found l names) ∧ Below w.heap.size w w' := by
  obtain ⟨A, c, rfl, h1⟩ := id hs
  clear h1
  have HS := Lib.hid hs
  clear hs
  go_enter Tryz.func9, Tryz.ntmps9
  go_wp2_with fail
  go_loopw [5, 6] (fun a b wr => Below w.heap.size w wr ∧ ∃ (k : Nat) (acc : List (List UInt8)), k ≤ l.length ∧ b = .int .i64 k ∧ Hid (Row wr a acc) ∧ acc.length ≤ k ∧ Hid (Left l names k acc)) (fun _ b _ => l.length - (intOf b).toNat)
  case atStart => exact ⟨Below.refl _ _, 0, [], Nat.zero_le _, rfl, Lib.hid (World.ownsRow_nil _ _ _ _), Nat.le_refl _, Lib.hid rfl⟩
  case round =>
    obtain ⟨hbl, k, acc, hk, rfl, HR, hacc, HP⟩ := hrel
    have HB := Lib.hid hbl
    clear hbl
    by_cases hkl : k < l.length
    · have n1 : (k : Int) < (l.length : Int) := by omega
      have n2 : (0 : Int) ≤ (k : Int) := by omega
      have hpf : k < (ByteArray.mk l.toArray).size := by simpa [ByteArray.size] using hkl
      cases hc : (l[k] == 35)
      · have HO := Lib.hid (left_other HP.out hkl hc)
        have hc2 : ((((ByteArray.mk l.toArray)[k]'hpf).toNat : Int) != 35) = true := mark_not l k hpf hkl hc
        clear hc HP
        go_wp2
        go_roundw
        case rel => exact ⟨HB.out, k + 1, acc, hkl, rfl, HR, by omega, HO⟩
        case measure => simp [intOf]; omega
      · have hc2 : ((((ByteArray.mk l.toArray)[k]'hpf).toNat : Int) != 35) = false := mark_is l k hpf hkl hc
        have HC := Lib.hid hc
        clear hc
        go_wp2_with fail
        rw [show ((k : Int) + 1) = ((k + 1 : Nat) : Int) from by omega]
        refine (wordAt_any l (by omega) (k + 1) hkl _).mono ?_
        rintro e w2 ⟨rfl, rfl⟩
        have hx2 := extract_word l (k + 1)
        have hwl := Stl.word_length_le (l.drop (k + 1))
        rw [List.length_drop] at hwl
        have e1 : k + 1 + (Stl.word (l.drop (k + 1))).length ≤ l.length := by omega
        have e2 : k + 1 ≤ k + 1 + (Stl.word (l.drop (k + 1))).length := by omega
        have HW := Lib.hid (fun h => left_wrong HP.out hkl HC.out h)
        have HT := Lib.hid (fun h => left_same HP.out hkl HC.out h)
        have hwd : (Stl.word (l.drop (k + 1))).length ≤ l.length := by omega
        clear hwl HP
        generalize Stl.word (l.drop (k + 1)) = wd at HW HT hx2 e1 e2 hwd
        generalize k + 1 + wd.length = en at hx2 e1 e2
        have i3 : (en : Int) ≤ (l.length : Int) := by omega
        have i4 : (k : Int) + 1 ≤ (en : Int) := by omega
        go_wp2_with fail
        refine (IsName_any wd (by omega) _).mono ?_
        rintro e w3 ⟨rfl, rfl⟩
        cases hn1 : Stl.isName wd
        · have HO := Lib.hid (HW.out (by rw [hn1]; rfl))
          clear hn1
          go_wp2
          go_roundw
          case rel => exact ⟨HB.out, k + 1, acc, hkl, rfl, HR, by omega, HO⟩
          case measure => simp [intOf]; omega
        · have HN1 := Lib.hid hn1
          clear hn1
          go_wp2_with fail
          refine (InTexts_any wd _ names hn _ (HS.out.later HB.out)).mono ?_
          rintro e w4 ⟨rfl, rfl⟩
          cases hn2 : names.contains wd
          · have HO := Lib.hid (HW.out (by rw [HN1.out, hn2]; rfl))
            clear hn2
            go_wp2
            go_roundw
            case rel => exact ⟨HB.out, k + 1, acc, hkl, rfl, HR, by omega, HO⟩
            case measure => simp [intOf]; omega
          · have HO := Lib.hid (HT.out (by rw [HN1.out, hn2]; rfl))
            clear hn2
            go_wp2_with fail
            refine (With_any _ acc wd (by omega) _ HR.out).mono ?_
            rintro e w5 ⟨v5, rfl, hr5, hb5⟩
            have HR5 := Lib.hid hr5
            have HB5 := Lib.hid (Below.trans HB.out (hb5.mono (Below.size HB.out)))
            have hlen := Stl.ins_length wd acc
            clear hr5 hb5
            go_wp2
            go_roundw
            case rel => exact ⟨HB5.out, k + 1, _, hkl, rfl, HR5, by omega, HO⟩
            case measure => simp [intOf]; omega
    · have n1 : ¬ (k : Int) < (l.length : Int) := by omega
      have HE := Lib.hid (show acc = Stl.found l names by
        have := HP.out
        unfold Left at this
        rw [List.drop_of_length_le (by omega)] at this
        exact this)
      clear HP
      go_wp2
      go_ret
      exact ⟨_, rfl, by rw [← HE.out]; exact HR.out, HB.out⟩
#print axioms FindIn_any
end Go.Proofs.YtgmdifmokcnbpaaGreatDoor
