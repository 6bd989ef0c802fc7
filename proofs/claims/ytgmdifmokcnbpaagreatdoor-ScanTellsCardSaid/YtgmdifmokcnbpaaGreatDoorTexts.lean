/- The walks of the reference's InTexts and SameTexts. -/
import Derived.Test.YtgmdifmokcnbpaaGreatDoorFind
namespace Go.Proofs.YtgmdifmokcnbpaaGreatDoor
open Go.RowKit Go.Maps Go.Sort Go.Shelf

theorem Strs.cellAt {w : World} {A : Option Addr} {n c : Nat} {l : List (List UInt8)} (h : Strs w (.slice A n c) l) {j : Nat} (hj : j < l.length) : ∃ b off, A = some ⟨b, off, none⟩ ∧ b < w.heap.size ∧ w.cell? ⟨b, off + j, none⟩ = some (.string ⟨(l[j]).toArray⟩) := by
  obtain ⟨A', c', e, h1⟩ := h
  injection e with e1 e2 e3
  subst e1
  obtain ⟨b, off, h2, h3, h4⟩ := h1 (by intro hn; subst hn; simp at hj)
  exact ⟨b, off, h2, h3, h4 j _ (List.getElem?_eq_getElem hj)⟩

set_option maxHeartbeats 1000000 in
theorem InTexts_any (x : List UInt8) (v : Value) (l : List (List UInt8)) (hl : l.length ≤ 1000000) (w : World) (hs : Strs w v l) :
    Calls Tryz.prog 25 #[.string ⟨x.toArray⟩, v] w fun e w' => e = .returned (.bool (l.contains x)) ∧ w' = w := by
  obtain ⟨A, c, rfl, h1⟩ := id hs
  clear h1
  go_enter Tryz.func25, Tryz.ntmps25
  have HS := Lib.hid hs
  clear hs
  generalize hr : l.contains x = r
  have HE := Lib.hid hr
  clear hr
  go_wp2_with fail
  go_loopw [5] (fun a wr => wr = w ∧ ∃ k : Nat, k ≤ l.length ∧ a = .int .i64 k ∧ Hid ((l.take k).contains x = false)) (fun a _ => l.length - (intOf a).toNat)
  case atStart => exact ⟨rfl, 0, Nat.zero_le _, rfl, Lib.hid rfl⟩
  case round =>
    obtain ⟨rfl, k, hk, rfl, HP⟩ := hrel
    by_cases hkl : k < l.length
    · obtain ⟨b, off, rfl, hb, hc⟩ := HS.out.cellAt hkl
      have i1 : (k : Int) < (l.length : Int) := by omega
      have i2 : (0 : Int) ≤ (k : Int) := by omega
      by_cases hx : l[k] = x
      · rw [hx] at hc
        have HR := Lib.hid (show l.contains x = true by rw [List.contains_iff_mem, ← hx]; exact List.getElem_mem _)
        clear hx
        go_wp2
        go_ret
        exact ⟨by rw [← HE.out, HR.out]; rfl, rfl⟩
      · have HX := Lib.hid hx
        have hne : (l[k] == x) = false := by rw [beq_eq_false_iff_ne]; exact hx
        clear hx
        go_wp2
        go_roundw
        case rel =>
          refine ⟨trivial, k + 1, hkl, rfl, Lib.hid ?_⟩
          have h1 := HP.out
          rw [List.take_succ_eq_append_getElem hkl, List.contains_append, h1]
          simpa using fun e => HX.out e.symm
        case measure => simp [intOf]; omega
    · have i1 : ¬ (k : Int) < (l.length : Int) := by omega
      go_wp2
      go_ret
      refine ⟨?_, rfl⟩
      have hk2 : k = l.length := by omega
      have := HP.out
      rw [hk2, List.take_length] at this
      rw [← HE.out, this]
      rfl
#print axioms InTexts_any

set_option maxHeartbeats 1000000 in
theorem SameTexts_any (v v2 : Value) (l m : List (List UInt8)) (hl : l.length ≤ 1000000) (hm : m.length ≤ 1000000) (w : World) (hs : Strs w v l) (hs2 : Strs w v2 m) :
    Calls Tryz.prog 7 #[v, v2] w fun e w' => e = .returned (.bool (decide (l = m))) ∧ Below w.heap.size w w' := by
  obtain ⟨A, c, rfl, h1⟩ := id hs
  obtain ⟨A2, c2, rfl, h2⟩ := id hs2
  clear h1 h2
  go_enter Tryz.func7, Tryz.ntmps7
  generalize hr : decide (l = m) = r
  have HE := Lib.hid hr
  clear hr
  have HS := Lib.hid hs
  have HS2 := Lib.hid hs2
  clear hs hs2
  by_cases hlm : l.length = m.length
  · have hlm2 : (l.length : Int) = (m.length : Int) := by omega
    go_wp2_with fail
    go_loopw [5] (fun a wr => Below w.heap.size w wr ∧ ∃ k : Nat, k ≤ l.length ∧ a = .int .i64 k ∧ Hid (l.take k = m.take k)) (fun a _ => l.length - (intOf a).toNat)
    case atStart => exact ⟨Below.refl _ _, 0, Nat.zero_le _, rfl, Lib.hid rfl⟩
    case round =>
      obtain ⟨hbl, k, hk, rfl, HP⟩ := hrel
      have HB := Lib.hid hbl
      by_cases hkl : k < l.length
      · have hkm : k < m.length := by omega
        obtain ⟨b, off, rfl, hb, hc⟩ := (HS.out.later hbl).cellAt hkl
        obtain ⟨b2, off2, rfl, hb2, hc2⟩ := (HS2.out.later hbl).cellAt hkm
        clear hbl
        have i1 : (k : Int) < (l.length : Int) := by omega
        have i2 : (0 : Int) ≤ (k : Int) := by omega
        have i3 : (k : Int) < (m.length : Int) := by omega
        by_cases hx : l[k] = m[k]
        · rw [hx] at hc
          have HX := Lib.hid hx
          clear hx
          go_wp2_with fail
          go_quiet (fail)
          go_wp2
          go_roundw
          case rel =>
            refine ⟨Below.drewN HB.out _, k + 1, hkl, rfl, Lib.hid ?_⟩
            rw [List.take_succ_eq_append_getElem hkl, List.take_succ_eq_append_getElem hkm, HP.out, HX.out]
          case measure => simp [intOf]; omega
        · have HX := Lib.hid hx
          have hne : (l[k] == m[k]) = false := by rw [beq_eq_false_iff_ne]; exact hx
          clear hx
          go_wp2
          go_quiet (fail)
          go_wp2
          go_ret
          refine ⟨?_, Below.drewN HB.out _⟩
          have : l ≠ m := fun e => HX.out (by subst e; rfl)
          rw [← HE.out]
          simp [this]
      · have i1 : ¬ (k : Int) < (l.length : Int) := by omega
        go_wp2
        go_ret
        refine ⟨?_, HB.out⟩
        have hk2 : k = l.length := by omega
        have := HP.out
        rw [hk2, List.take_length, hlm, List.take_length] at this
        rw [← HE.out]
        simp [this]
  · have hlm2 : ¬ (l.length : Int) = (m.length : Int) := by omega
    go_wp2
    go_ret
    refine ⟨?_, Below.refl _ _⟩
    have : l ≠ m := fun e => hlm (by rw [e])
    rw [← HE.out]
    simp [this]
#print axioms SameTexts_any
end Go.Proofs.YtgmdifmokcnbpaaGreatDoor
