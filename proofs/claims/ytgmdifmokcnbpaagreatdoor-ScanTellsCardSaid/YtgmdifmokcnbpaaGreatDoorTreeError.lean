/- The walk of the reference's TreeError. -/
import Derived.Test.YtgmdifmokcnbpaaGreatDoorListOf
import Derived.Test.YtgmdifmokcnbpaaGreatDoorNodeError
namespace Go.Proofs.YtgmdifmokcnbpaaGreatDoor
open Go.RowKit Go.Maps Go.Sort Go.Shelf

theorem treeErr_scan (n : Stl.Nd) : Stl.scanErr Stl.ownErr 0 (Stl.listOf n 200 8) = Stl.treeErr n := Stl.treeError_eq Stl.ownErr n

set_option maxHeartbeats 2000000 in
set_option maxRecDepth 100000 in
theorem TreeError_any (n : Stl.Nd) (vs : List Value) (w : World) (hn : NodeAt w n vs) :
    Calls Tryz.prog 31 #[.agg vs.toArray] w (NodeEnd w (Stl.treeErr n)) := by
  have HR := Lib.hid (treeErr_scan n)
  have HN := Lib.hid hn
  obtain ⟨k, d, e, ks⟩ := n
  obtain ⟨A, c, rfl, _, _⟩ := hn.open
  clear hn
  generalize Stl.treeErr (.mk k d e ks) = r at HR
  have HB := Lib.hid ((Below.refl _ w).alloc (Nat.le_refl _) (.cells #[.string ⟨k.toArray⟩, .string ⟨d.toArray⟩, .bool e, .slice A ks.length c] 24))
  have HN1 := Lib.hid (NodeAt.later HB.out _ _ HN.out)
  have HX := Lib.hid (heap_alloc_new w (.cells #[.string ⟨k.toArray⟩, .string ⟨d.toArray⟩, .bool e, .slice A ks.length c] 24))
  go_enter Tryz.func31, Tryz.ntmps31
  go_upto_region 1 with fail
  generalize w.alloc (.cells #[.string ⟨k.toArray⟩, .string ⟨d.toArray⟩, .bool e, .slice A ks.length c] 24) = w0 at *
  have c0 := cell_of_row w0 _ 0 _ _ _ HX.out
  have c1 := cell_of_row w0 _ 1 _ _ _ HX.out
  have c2 := cell_of_row w0 _ 2 _ _ _ HX.out
  have c3 := cell_of_row w0 _ 3 _ _ _ HX.out
  go_wp2_with fail
  refine (ListOf_any (.mk k d e ks) _ 200 8 (by omega) (by omega) w0 HN1.out).mono ?_
  rintro ev w1 ⟨g, co, rfl, hrow, hb, hpos, hlen⟩
  generalize Stl.listOf (.mk k d e ks) 200 8 = L at *
  have HRW := Lib.hid hrow
  have HB1 := Lib.hid hb
  have hco : co ≤ 9223372036854775807 := by
    obtain ⟨xs, h1, _⟩ := hrow
    rcases h1.2 with ⟨h1, _⟩ | ⟨_, _, _, h1, _, _, _, h2, _⟩
    · cases h1
    · injection h1 with _ _ h1
      subst h1
      exact h2
  clear hrow hb c0 c1 c2 c3
  go_wp2_with fail
  go_loopw [4] (fun a wr => ∃ i : Nat, i ≤ L.length ∧ a = .int .i64 i ∧ Hid (Below w1.heap.size w1 wr) ∧ Hid (Stl.scanErr Stl.ownErr i (L.drop i) = r)) (fun a _ => L.length - (intOf a).toNat)
  case atStart => exact ⟨0, Nat.zero_le _, rfl, Lib.hid (Below.refl _ _), HR⟩
  case round =>
    obtain ⟨i, hi, rfl, HBr, HP⟩ := hrel
    have HBw := Lib.hid (HB.out.trans ((HB1.out.trans (HBr.out.mono HB1.out.size)).mono HB.out.size))
    by_cases hil : i < L.length
    · have i1 : (i : Int) < (L.length : Int) := by omega
      have i2 : (0 : Int) ≤ (i : Int) := by omega
      obtain ⟨v0, v1, v2, v3, c0, c1, c2, c3, c4, c5, hxn⟩ := (HRW.out.later HBr.out).at hil
      have HD := Lib.hid (List.drop_eq_getElem_cons hil)
      generalize L[i] = x at c0 c1 hxn HD
      obtain ⟨px, dx, nx⟩ := x
      simp only at c0 c1 hxn
      have hp := HP.out
      rw [HD.out, Stl.scanErr] at hp
      simp only at hp
      by_cases hd : 8 < dx
      · rw [if_pos hd] at hp
        have HF := Lib.hid hp
        have i3 : (8 : Int) < (dx : Int) := by omega
        clear hp hd
        go_wp2
        go_ret
        exact ⟨by rw [← HF.out]; rfl, HBw.out⟩
      rw [if_neg hd] at hp
      have i3 : (dx : Int) ≤ 8 := by omega
      by_cases h2 : 200 ≤ i
      · rw [if_pos h2] at hp
        have HF := Lib.hid hp
        have i4 : (200 : Int) ≤ (i : Int) := by omega
        clear hp hd h2
        go_wp2
        go_ret
        exact ⟨by rw [← HF.out]; rfl, HBw.out⟩
      rw [if_neg h2] at hp
      have i4 : ¬ (200 : Int) ≤ (i : Int) := by omega
      have HPP := Lib.hid hp
      have HXN := Lib.hid (NodeAt.later (HB1.out.trans (HBr.out.mono HB1.out.size)) _ _ hxn)
      obtain ⟨kx, dd, ex, kx2⟩ := nx
      obtain ⟨Ax, cx, ex', _, _⟩ := hxn.open
      simp only [List.cons.injEq, and_true] at ex'
      obtain ⟨rfl, rfl, rfl, rfl⟩ := ex'
      clear hp hd h2 hxn
      go_wp2_with fail
      refine (nodeError_any _ _ _ HXN.out).mono ?_
      rintro ev w2 ⟨rfl, hb2⟩
      have HB2 := Lib.hid (HBr.out.trans (hb2.mono HBr.out.size))
      have HBw2 := Lib.hid (HBw.out.trans (hb2.mono HBw.out.size))
      clear hb2 c0 c1 c2 c3 c4 c5
      generalize Stl.ownErr (.mk kx dd ex kx2) = q at HPP
      by_cases hq : q = 0
      · subst hq
        have hp := HPP.out
        rw [if_pos rfl] at hp
        have HP2 := Lib.hid hp
        clear hp
        go_wp2
        go_roundw
        case rel => exact ⟨i + 1, hil, by go_num, HB2, HP2⟩
        case measure => simp [intOf]; omega
      · have hp := HPP.out
        rw [if_neg hq] at hp
        have HP2 := Lib.hid hp
        have i5 : 0 < q := by omega
        clear hp hq
        go_wp2
        go_ret
        exact ⟨by rw [← HP2.out]; rfl, HBw2.out⟩
    · have i1 : ¬ (i : Int) < (L.length : Int) := by omega
      have HF := Lib.hid (show r = 0 by
        have := HP.out
        rw [List.drop_of_length_le (by omega), Stl.scanErr] at this
        exact this.symm)
      go_wp2
      go_ret
      exact ⟨by rw [HF.out]; rfl, HBw.out⟩
#print axioms TreeError_any
end Go.Proofs.YtgmdifmokcnbpaaGreatDoor
