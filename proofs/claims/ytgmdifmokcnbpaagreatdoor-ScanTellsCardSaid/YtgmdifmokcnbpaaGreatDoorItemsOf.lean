/- The walk of the reference's ItemsOf: the list of the nodes, their paths as they are told. -/
import Derived.Test.YtgmdifmokcnbpaaGreatDoorListOf
namespace Stl
/-- A node with its path as it is told. -/
def tellI (x : It) : It := ⟨told x.path, x.deep, x.n⟩
theorem tellI_same (x : It) (h : x.path ≠ []) : tellI x = x := by
  obtain ⟨p, d, n⟩ := x
  simp only at h
  simp [tellI, told, h]
theorem tellI_root (x : It) (h : x.path = []) : tellI x = ⟨[47], x.deep, x.n⟩ := by
  simp [tellI, told, h]
end Stl
namespace Go.Proofs.YtgmdifmokcnbpaaGreatDoor
open Go.RowKit Go.Maps Go.Sort Go.Shelf

theorem itemsCells_set {W0 : World} : ∀ (l : List Stl.It) (xs : List Value) (i : Nat) (h : i < l.length) (p : List UInt8), ItemsCells W0 l xs → ItemsCells W0 (l.set i ⟨p, l[i].deep, l[i].n⟩) (xs.set (6 * i) (.string ⟨p.toArray⟩))
  | [], _, i, h, _, _ => by simp at h
  | x :: r, xs, 0, _, p, h => by
    obtain ⟨a, b, rfl, ⟨v0, v1, v2, v3, rfl, hn⟩, h2⟩ := h
    refine ⟨[.string ⟨p.toArray⟩, .int .i64 x.deep, v0, v1, v2, v3], b, by simp, ⟨v0, v1, v2, v3, rfl, hn⟩, h2⟩
  | x :: r, xs, i + 1, h, p, hh => by
    obtain ⟨a, b, rfl, h1, h2⟩ := hh
    have ha : a.length = 6 := by
      obtain ⟨v0, v1, v2, v3, rfl, _⟩ := h1
      rfl
    have ih := itemsCells_set r b i (by simpa using h) p h2
    refine ⟨a, b.set (6 * i) (.string ⟨p.toArray⟩), ?_, h1, by simpa using ih⟩
    rw [List.set_append_right _ _ (by omega), ha, show 6 * (i + 1) - 6 = 6 * i by omega]

/-- What ItemsOf hands back; the nodes lie in W0. -/
def ItemsEnd (l : List Stl.It) (w : World) (e : Ending) (w' : World) : Prop := ∃ g c W0, e = .returned (.slice (some ⟨g, 0, none⟩) l.length c) ∧ Below w.heap.size w W0 ∧ IRow W0 w' w.heap.size (.slice (some ⟨g, 0, none⟩) l.length c) l ∧ Below W0.heap.size W0 w' ∧ 0 < l.length ∧ l.length ≤ 100000000

set_option maxHeartbeats 2000000 in
set_option maxRecDepth 100000 in
theorem ItemsOf_any (n : Stl.Nd) (vs : List Value) (w : World) (hn : NodeAt w n vs) :
    Calls Tryz.prog 32 #[.agg vs.toArray] w (ItemsEnd ((Stl.listOf n 200 8).map Stl.tellI) w) := by
  have HN := Lib.hid hn
  obtain ⟨k, d, e, ks⟩ := n
  obtain ⟨A, c, rfl, _, _⟩ := hn.open
  clear hn
  have HB := Lib.hid ((Below.refl _ w).alloc (Nat.le_refl _) (.cells #[.string ⟨k.toArray⟩, .string ⟨d.toArray⟩, .bool e, .slice A ks.length c] 24))
  have HN1 := Lib.hid (NodeAt.later HB.out _ _ HN.out)
  have HX := Lib.hid (heap_alloc_new w (.cells #[.string ⟨k.toArray⟩, .string ⟨d.toArray⟩, .bool e, .slice A ks.length c] 24))
  go_enter Tryz.func32, Tryz.ntmps32
  go_upto_region 1 with fail
  generalize w.alloc (.cells #[.string ⟨k.toArray⟩, .string ⟨d.toArray⟩, .bool e, .slice A ks.length c] 24) = w0 at *
  have c0 := cell_of_row w0 _ 0 _ _ _ HX.out
  have c1 := cell_of_row w0 _ 1 _ _ _ HX.out
  have c2 := cell_of_row w0 _ 2 _ _ _ HX.out
  have c3 := cell_of_row w0 _ 3 _ _ _ HX.out
  go_wp2_with fail
  refine (ListOf_any (.mk k d e ks) _ 200 8 (by omega) (by omega) w0 HN1.out).mono ?_
  rintro ev w1 ⟨g, co, rfl, hrow, hb, hpos, hlen⟩
  generalize Stl.listOf (.mk k d e ks) 200 8 = L at *
  have HRW := Lib.hid hrow
  have HB1 := Lib.hid hb
  have hg : w0.heap.size ≤ g := by
    obtain ⟨xs, h1, _⟩ := hrow
    exact (h1.lt g rfl).1
  have hco : co ≤ 9223372036854775807 := by
    obtain ⟨xs, h1, _⟩ := hrow
    rcases h1.2 with ⟨h1, _⟩ | ⟨_, _, _, h1, _, _, _, h2, _⟩
    · cases h1
    · injection h1 with _ _ h1
      subst h1
      exact h2
  clear hrow hb c0 c1 c2 c3
  go_wp2_with fail
  go_loopw [4] (fun a wr => ∃ i : Nat, i ≤ L.length ∧ a = .int .i64 i ∧ Hid (Below w0.heap.size w0 wr) ∧ Hid (IRow w0 wr w0.heap.size (.slice (some ⟨g, 0, none⟩) L.length co) ((L.take i).map Stl.tellI ++ L.drop i))) (fun a _ => L.length - (intOf a).toNat)
  case atStart => exact ⟨0, Nat.zero_le _, rfl, HB1, Lib.hid (by simpa using HRW.out)⟩
  case round =>
    obtain ⟨i, hi, rfl, HBr, HP⟩ := hrel
    have hM : ((L.take i).map Stl.tellI ++ L.drop i).length = L.length := by simp; omega
    by_cases hil : i < L.length
    · have i1 : (i : Int) < (L.length : Int) := by omega
      have i2 : (0 : Int) ≤ (i : Int) := by omega
      obtain ⟨xs, hown, hxs⟩ := HP.out
      have hiM : i < ((L.take i).map Stl.tellI ++ L.drop i).length := by omega
      have hMi : ((L.take i).map Stl.tellI ++ L.drop i)[i] = L[i] := by
        rw [List.getElem_append_right (by simp; omega)]
        simp [Nat.min_eq_left hi]
      obtain ⟨v0, v1, v2, v3, c0, _, _, _, _, _, _⟩ := itemsCells_at hxs hiM
      rw [hMi] at c0
      have s0 : wr.cell? ⟨g, i * 6, none⟩ = some (.string ⟨(L[i].path).toArray⟩) := by
        rw [Nat.mul_comm]
        exact flat_add (World.ownsRow.cells hown (g := g) rfl _ _ c0)
      have f0 : wr.frozen? ⟨g, i * 6, none⟩ = false := by
        rcases hown.2 with ⟨h1, _⟩ | ⟨g', _, cur, h1, _, h2, _⟩
        · cases h1
        · injection h1 with h1
          injection h1 with h1
          injection h1 with h1
          subst h1
          simp [World.frozen?, h2]
      have hown2 := hown
      rw [hM] at hown2
      have HOW := Lib.hid hown2
      have HXS := Lib.hid hxs
      have HM := Lib.hid hM
      have HMI := Lib.hid hMi
      have HT := Lib.hid (List.take_succ_eq_append_getElem hil)
      have HD := Lib.hid (List.drop_eq_getElem_cons hil)
      clear hown hown2 hxs c0 hM hMi
      by_cases hp : L[i].path = []
      · rw [hp] at s0
        have hst := HOW.out.stored (i * 6) (.string ⟨#[47]⟩)
        have HS := Lib.hid hst
        have HIS := Lib.hid (itemsCells_set _ _ i hiM [47] HXS.out)
        have HPP := Lib.hid hp
        clear hst hp
        go_wp2
        go_roundw
        case rel =>
          have e1 : ((L.take i).map Stl.tellI ++ L.drop i).set i ⟨[47], L[i].deep, L[i].n⟩ = (L.take (i + 1)).map Stl.tellI ++ L.drop (i + 1) := by
            rw [HT.out, List.map_append, HD.out, List.set_append_right _ _ (by simp; omega)]
            have : i - ((L.take i).map Stl.tellI).length = 0 := by simp; omega
            rw [this, List.set_cons_zero]
            simp [Stl.tellI_root _ HPP.out]
          refine ⟨i + 1, hil, by go_num, Lib.hid (HBr.out.setCell (p := ⟨g, i * 6, none⟩) hg _), Lib.hid ⟨xs.set (i * 6) (.string ⟨#[47]⟩), ?_, ?_⟩⟩
          · have h := HS.out.1
            have hl : ((L.take (i + 1)).map Stl.tellI ++ L.drop (i + 1)).length = L.length := by rw [← e1, List.length_set, HM.out]
            rw [hl]
            exact h
          · rw [← e1]
            have h := HIS.out
            rw [HMI.out, Nat.mul_comm] at h
            exact h
        case measure => simp [intOf]; omega
      · have hne : (L[i].path == []) = false := by simpa using hp
        have hem : (L[i].path).isEmpty = false := by simpa using hp
        have HPP := Lib.hid hp
        clear hp
        go_wp2
        go_roundw
        case rel =>
          refine ⟨i + 1, hil, by go_num, HBr, Lib.hid ?_⟩
          rw [HT.out, List.map_append]
          have h := HP.out
          rw [HD.out] at h
          simpa [Stl.tellI_same _ HPP.out] using h
        case measure => simp [intOf]; omega
    · have i1 : ¬ (i : Int) < (L.length : Int) := by omega
      have hT : (L.take i).map Stl.tellI ++ L.drop i = L.map Stl.tellI := by
        rw [List.drop_of_length_le (by omega), List.take_of_length_le (by omega), List.append_nil]
      have HT := Lib.hid hT
      clear hT hM
      go_wp2
      go_ret
      refine ⟨g, co, w0, by simp, HB.out, ?_, HBr.out, by simpa using hpos, by simpa using hlen⟩
      have h := HP.out
      rw [HT.out] at h
      obtain ⟨xs, h1, h2⟩ := h
      refine ⟨xs, ?_, h2⟩
      have := ownsRow_base h1 (HB.out.size)
      simpa using this
#print axioms ItemsOf_any
end Go.Proofs.YtgmdifmokcnbpaaGreatDoor
