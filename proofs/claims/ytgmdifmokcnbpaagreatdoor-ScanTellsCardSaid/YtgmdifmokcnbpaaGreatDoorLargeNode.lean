/- The walk of the law's LargeNode: it returns a number. -/
import Derived.Test.YtgmdifmokcnbpaaGreatDoorListOf
import Derived.Deep.DeepCutAuto
import Derived.Deep.CutRange
namespace Go.Proofs.YtgmdifmokcnbpaaGreatDoor
open Go.RowKit Go.Maps Go.Sort Go.Shelf

def SomeEnd (w : World) (e : Ending) (w' : World) : Prop := ∃ r : Int, e = .returned (.int .i64 r) ∧ Below w.heap.size w w'

set_option maxHeartbeats 4000000 in
set_option maxRecDepth 100000 in
theorem LargeNode_any (n : Stl.Nd) (vs : List Value) (most : Nat) (hm : most ≤ 1000) (w : World) (hn : NodeAt w n vs) :
    Calls Tryz.prog 5 #[.agg vs.toArray, .int .i64 most] w (SomeEnd w) := by
  have HN := Lib.hid hn
  obtain ⟨k, d, e, ks⟩ := n
  obtain ⟨A, c, rfl, _, _⟩ := hn.open
  clear hn
  have HB := Lib.hid ((Below.refl _ w).alloc (Nat.le_refl _) (.cells #[.string ⟨k.toArray⟩, .string ⟨d.toArray⟩, .bool e, .slice A ks.length c] 24))
  have HN1 := Lib.hid (NodeAt.later HB.out _ _ HN.out)
  have HX := Lib.hid (heap_alloc_new w (.cells #[.string ⟨k.toArray⟩, .string ⟨d.toArray⟩, .bool e, .slice A ks.length c] 24))
  go_enter Tryz.func5, Tryz.ntmps5
  go_upto_region 1 with fail
  generalize w.alloc (.cells #[.string ⟨k.toArray⟩, .string ⟨d.toArray⟩, .bool e, .slice A ks.length c] 24) = w0 at *
  have c0 := cell_of_row w0 _ 0 _ _ _ HX.out
  have c1 := cell_of_row w0 _ 1 _ _ _ HX.out
  have c2 := cell_of_row w0 _ 2 _ _ _ HX.out
  have c3 := cell_of_row w0 _ 3 _ _ _ HX.out
  go_wp2_with fail
  refine (ListOf_any (.mk k d e ks) _ most 12 hm (by omega) w0 HN1.out).mono ?_
  rintro ev w1 ⟨g, co, rfl, hrow, hb, hpos, hlen⟩
  generalize Stl.listOf (.mk k d e ks) most 12 = L at *
  have HRW := Lib.hid hrow
  have HB1 := Lib.hid hb
  have hco : co ≤ 9223372036854775807 := by
    obtain ⟨xs, h1, _⟩ := hrow
    rcases h1.2 with ⟨h1, _⟩ | ⟨_, _, _, h1, _, _, _, h2, _⟩
    · cases h1
    · injection h1 with _ _ h1
      subst h1
      exact h2
  have HBT := Lib.hid (HB.out.trans (hb.mono HB.out.size))
  clear hrow hb c0 c1 c2 c3
  by_cases hlm : most < L.length
  · have i1 : (most : Int) < (L.length : Int) := by omega
    clear hlm
    go_wp2
    go_ret
    exact ⟨_, rfl, HBT.out⟩
  have i00 : decide (most < L.length) = false := by simpa using hlm
  clear hlm
  go_wp2_with fail
  go_loopw [6] (fun a wr => ∃ i : Nat, i ≤ L.length ∧ a = .int .i64 i ∧ Hid (Below w1.heap.size w1 wr)) (fun a _ => L.length - (intOf a).toNat)
  case atStart => exact ⟨0, Nat.zero_le _, rfl, Lib.hid (Below.refl _ _)⟩
  case round =>
    obtain ⟨i, hi, rfl, HBr⟩ := hrel
    have HBw := Lib.hid (HBT.out.trans (HBr.out.mono HBT.out.size))
    by_cases hil : i < L.length
    case neg =>
      have i1 : ¬ (i : Int) < (L.length : Int) := by omega
      go_wp2
      go_ret
      exact ⟨_, rfl, HBw.out⟩
    have i1 : (i : Int) < (L.length : Int) := by omega
    have i2 : (0 : Int) ≤ (i : Int) := by omega
    obtain ⟨v0, v1, v2, v3, c0, c1, c2, c3, c4, c5, hxn⟩ := (HRW.out.later HBr.out).at hil
    generalize L[i] = x at c0 c1 hxn
    obtain ⟨px, dx, nx⟩ := x
    simp only at c0 c1 hxn
    have hxn2 := NodeAt.later (HB1.out.trans (HBr.out.mono HB1.out.size)) _ _ hxn
    obtain ⟨kx, dd, ex, kx2⟩ := nx
    obtain ⟨Ax, cx, ex', ⟨hx1, hx2, hx3, hx4⟩, hxk⟩ := hxn2.open
    simp only [List.cons.injEq, and_true] at ex'
    obtain ⟨rfl, rfl, rfl, rfl⟩ := ex'
    have HXK := Lib.hid hxk
    clear hxn hxn2 hxk
    obtain ⟨wo, rfl⟩ : ∃ wo : World, wo = wr := ⟨_, rfl⟩
    have HB2 := Lib.hid ((Below.refl _ wo).alloc (Nat.le_refl _) (.cells #[.string ⟨px.toArray⟩, .int .i64 dx, .string ⟨kx.toArray⟩, .string ⟨dd.toArray⟩, .bool ex, .slice Ax kx2.length cx] 44))
    have HX2 := Lib.hid (heap_alloc_new wo (.cells #[.string ⟨px.toArray⟩, .int .i64 dx, .string ⟨kx.toArray⟩, .string ⟨dd.toArray⟩, .bool ex, .slice Ax kx2.length cx] 44))
    go_upto_region 8 with fail
    generalize wo.alloc (.cells #[.string ⟨px.toArray⟩, .int .i64 dx, .string ⟨kx.toArray⟩, .string ⟨dd.toArray⟩, .bool ex, .slice Ax kx2.length cx] 44) = w2 at *
    have HBx := Lib.hid (HBw.out.trans (HB2.out.mono HBw.out.size))
    have HBy := Lib.hid (HBr.out.trans (HB2.out.mono HBr.out.size))
    go_cut [49] (fun s wx => (∃ b : Bool, s = .bool b) ∧ w2 = wx)
    case first =>
      have d1 := cell_of_row w2 wo.heap.size 1 _ _ _ HX2.out
      have d2 := cell_of_row w2 wo.heap.size 2 _ _ _ HX2.out
      have d3 := cell_of_row w2 wo.heap.size 3 _ _ _ HX2.out
      clear c0 c1 c2 c3 c4 c5
      by_cases h1 : 11 < dx
      · have j1 : (11 : Int) < (dx : Int) := by omega
        clear h1
        go_wp2
        go_meet
        case rel => exact ⟨⟨_, rfl⟩, rfl⟩
      have j1 : ¬ (11 : Int) < (dx : Int) := by omega
      by_cases h2 : 100 < dd.length ∧ dd.length ≠ 2001
      · have j2 : (100 : Int) < (dd.length : Int) := by omega
        have j3 : ((dd.length : Int) != 2001) = true := by rw [bne_iff_ne]; omega
        clear h1 h2
        go_wp2
        go_meet
        case rel => exact ⟨⟨_, rfl⟩, rfl⟩
      by_cases h3 : 20 < kx.length
      · have j4 : (20 : Int) < (kx.length : Int) := by omega
        by_cases h4 : 100 < dd.length
        · have j2 : (100 : Int) < (dd.length : Int) := by omega
          have j3 : ((dd.length : Int) != 2001) = false := by rw [bne_eq_false_iff_eq]; omega
          clear h1 h2 h3 h4
          go_wp2
          go_meet
          case rel => exact ⟨⟨_, rfl⟩, rfl⟩
        · have j2 : ¬ (100 : Int) < (dd.length : Int) := by omega
          clear h1 h2 h3 h4
          go_wp2
          go_meet
          case rel => exact ⟨⟨_, rfl⟩, rfl⟩
      · have j4 : ¬ (20 : Int) < (kx.length : Int) := by omega
        by_cases h4 : 100 < dd.length
        · have j2 : (100 : Int) < (dd.length : Int) := by omega
          have j3 : ((dd.length : Int) != 2001) = false := by rw [bne_eq_false_iff_eq]; omega
          clear h1 h2 h3 h4
          go_wp2
          go_meet
          case rel => exact ⟨⟨_, rfl⟩, rfl⟩
        · have j2 : ¬ (100 : Int) < (dd.length : Int) := by omega
          clear h1 h2 h3 h4
          go_wp2
          go_meet
          case rel => exact ⟨⟨_, rfl⟩, rfl⟩
    case rest =>
      obtain ⟨⟨b, rfl⟩, rfl⟩ := hcut
      clear c0 c1 c2 c3 c4 c5
      cases b
      case true =>
        go_wp2
        go_ret
        exact ⟨_, rfl, HBx.out⟩
      case false =>
        go_wp2_with fail
        go_loopw [8] (fun a wi => w2 = wi ∧ ∃ q : Nat, q ≤ kx2.length ∧ a = .int .i64 q) (fun a _ => kx2.length - (intOf a).toNat)
        case atStart => exact ⟨rfl, 0, Nat.zero_le _, rfl⟩
        case round =>
          obtain ⟨rfl, q, hq, rfl⟩ := hrel
          have d5 := cell_of_row w2 wo.heap.size 5 _ _ _ HX2.out
          by_cases hql : q < kx2.length
          · have i3 : (q : Int) < (kx2.length : Int) := by omega
            have i4 : (0 : Int) ≤ (q : Int) := by omega
            obtain ⟨bk, off, rfl, _, ⟨k0, hl⟩, _⟩ := (HXK.out.later HB2.out).at hql
            generalize kx2[q].1 = nm at k0 hl
            by_cases hn : 30 < nm.length
            · have i5 : (30 : Int) < (nm.length : Int) := by omega
              clear hn
              go_wp2
              go_ret
              exact ⟨_, rfl, HBx.out⟩
            · have i5 : (nm.length : Int) ≤ 30 := by omega
              clear hn
              go_wp2
              go_roundw
              case rel => exact ⟨trivial, q + 1, hql, by go_num⟩
              case measure => simp [intOf]; omega
          · have i3 : ¬ (q : Int) < (kx2.length : Int) := by omega
            go_wp2
            go_roundw
            case rel => exact ⟨i + 1, hil, by go_num, HBy⟩
            case measure => simp [intOf]; omega
#print axioms LargeNode_any
end Go.Proofs.YtgmdifmokcnbpaaGreatDoor
