/- The walk of the reference's RefsIn: it finds what the program's Refs finds. -/
import Derived.Test.YtgmdifmokcnbpaaGreatDoorTreeError
import Derived.Test.YtgmdifmokcnbpaaGreatDoorItemsOf
import Derived.Test.YtgmdifmokcnbpaaGreatDoorRefFind
import Derived.Test.YtgmdifmokcnbpaaGreatDoorRefs
namespace Stl
theorem insAll_append (a b acc : List Bytes) : insAll (a ++ b) acc = insAll b (insAll a acc) := by simp [insAll]
theorem insAll_cons (x : Bytes) (r acc : List Bytes) : insAll (x :: r) acc = insAll r (ins x acc) := rfl

theorem reft_tell (names : List Bytes) (l : List It) : reft names (l.map tellI) = reft names l := by
  induction l with
  | nil => rfl
  | cons x r ih =>
    have e : (x :: r).map tellI = [tellI x] ++ r.map tellI := rfl
    have e2 : x :: r = [x] ++ r := rfl
    rw [e, e2, reft_append, reft_append, ih]
    congr 1
    by_cases h : x.n.kind = kDir
    · rw [reft_dir names x h, reft_dir names (tellI x) h]
    · rw [reft_other names x h, reft_other names (tellI x) h]
      rfl

/-- A tree that is well: its nodes' list is the reference's. -/
theorem items_list {n : Nd} (h : treeErr n = 0) : items n = listOf n 200 8 := by
  unfold items
  rw [if_pos h]
  exact (listOf_flat ownErr n h).symm
end Stl
namespace Go.Proofs.YtgmdifmokcnbpaaGreatDoor
open Go.RowKit Go.Maps Go.Sort Go.Shelf

/-- A rising list that the reference has built. -/
def RowEnd (l : List (List UInt8)) (w : World) (e : Ending) (w' : World) : Prop := ∃ v, e = .returned v ∧ Row w' v l ∧ Below w.heap.size w w'

theorem Row.slice {w : World} {v : Value} {l : List (List UInt8)} (h : Row w v l) : ∃ A c, v = .slice A l.length c := Stl.owns_slice w h

theorem Row.cellAt {w : World} {A : Option Addr} {c : Nat} {l : List (List UInt8)} (h : Row w (.slice A l.length c) l) {j : Nat} (hj : j < l.length) : ∃ g, A = some ⟨g, 0, none⟩ ∧ g < w.heap.size ∧ w.cell? ⟨g, j, none⟩ = some (.string ⟨(l[j]).toArray⟩) := by
  rcases h.2 with ⟨h1, h2⟩ | ⟨g, cap, cur, h1, h2⟩
  · omega
  · injection h1 with h1
    subst h1
    refine ⟨g, rfl, (World.ownsRow.lt h g rfl).2, flat_add (World.ownsRow.cells h (g := g) rfl j (encStr l[j]) (by simp [hj]))⟩

set_option maxHeartbeats 2000000 in
set_option maxRecDepth 100000 in
theorem RefsIn_any (n : Stl.Nd) (vs : List Value) (nv : Value) (names : List (List UInt8)) (hnm : names.length ≤ 1000000) (w : World) (hn : NodeAt w n vs) (hs : Strs w nv names) :
    Calls Tryz.prog 12 #[.agg vs.toArray, nv] w (RowEnd (Stl.refsIn n names) w) := by
  have HN := Lib.hid hn
  have hrf := refsIn_eq n names
  have hil := fun h => Stl.items_list (n := n) h
  have hiw := fun h => Stl.items_well (n := n) h
  have hit : Stl.treeErr n ≠ 0 → Stl.items n = [] := fun h => by unfold Stl.items; rw [if_neg h]
  have hfl : Stl.treeErr n = 0 → Stl.items n = Stl.flat n [] 0 := fun h => by unfold Stl.items; rw [if_pos h]
  have HRF := Lib.hid hrf
  have HIL := Lib.hid hil
  have HIW := Lib.hid hiw
  have HIT := Lib.hid hit
  have HFL := Lib.hid hfl
  clear hrf hil hiw hit hfl
  generalize Stl.refsIn n names = res at HRF
  obtain ⟨k, d, e, ks⟩ := n
  obtain ⟨A, c, rfl, _, _⟩ := hn.open
  clear hn
  have HB := Lib.hid ((Below.refl _ w).alloc (Nat.le_refl _) (.cells #[.string ⟨k.toArray⟩, .string ⟨d.toArray⟩, .bool e, .slice A ks.length c] 24))
  have HN1 := Lib.hid (NodeAt.later HB.out _ _ HN.out)
  have HX := Lib.hid (heap_alloc_new w (.cells #[.string ⟨k.toArray⟩, .string ⟨d.toArray⟩, .bool e, .slice A ks.length c] 24))
  have HS := Lib.hid (hs.later HB.out)
  obtain ⟨An, cn, rfl, _⟩ := id hs
  clear hs
  go_enter Tryz.func12, Tryz.ntmps12
  go_upto_region 1 with fail
  generalize w.alloc (.cells #[.string ⟨k.toArray⟩, .string ⟨d.toArray⟩, .bool e, .slice A ks.length c] 24) = w0 at *
  have c0 := cell_of_row w0 _ 0 _ _ _ HX.out
  have c1 := cell_of_row w0 _ 1 _ _ _ HX.out
  have c2 := cell_of_row w0 _ 2 _ _ _ HX.out
  have c3 := cell_of_row w0 _ 3 _ _ _ HX.out
  go_wp2_with fail
  refine (TreeError_any (.mk k d e ks) _ w0 HN1.out).mono ?_
  rintro ev w1 ⟨rfl, hb1⟩
  have HB1 := Lib.hid (HB.out.trans (hb1.mono HB.out.size))
  have HX1 := Lib.hid ((hb1.block _ (lt_of_block HX.out)).trans HX.out)
  have HN2 := Lib.hid (NodeAt.later hb1 _ _ HN1.out)
  have HS1 := Lib.hid (HS.out.later hb1)
  clear hb1 c0 c1 c2 c3
  by_cases ht : Stl.treeErr (.mk k d e ks) = 0
  case neg =>
    have HR := Lib.hid (show res = [] by rw [HRF.out, HIT.out ht]; rfl)
    generalize Stl.treeErr (.mk k d e ks) = q at ht
    have i1 : 0 < q := by omega
    clear ht
    go_wp2
    go_ret
    exact ⟨_, rfl, by rw [HR.out]; exact World.ownsRow_nil _ _ _ _, HB1.out⟩
  have HIE := Lib.hid (HIL.out ht)
  have HIW2 := Lib.hid (HIW.out ht)
  have HFL2 := Lib.hid (HFL.out ht)
  rw [ht]
  clear ht
  have c0 := cell_of_row w1 _ 0 _ _ _ HX1.out
  have c1 := cell_of_row w1 _ 1 _ _ _ HX1.out
  have c2 := cell_of_row w1 _ 2 _ _ _ HX1.out
  have c3 := cell_of_row w1 _ 3 _ _ _ HX1.out
  go_wp2_with fail
  refine (ItemsOf_any (.mk k d e ks) _ w1 HN2.out).mono ?_
  rintro ev w2 ⟨g, co, W0, rfl, hbW, hrow, hbw, hpos, hlen⟩
  rw [← HIE.out] at hrow hpos hlen ⊢
  have hdat : ∀ x ∈ (Stl.items (.mk k d e ks)).map Stl.tellI, x.n.data.length ≤ 2000 := by
    intro x hx
    obtain ⟨y, hy, rfl⟩ := List.mem_map.1 hx
    rw [HFL2.out] at hy
    exact Stl.own_data (HIW2.out.2 y hy).1
  have hll : ((Stl.items (.mk k d e ks)).map Stl.tellI).length ≤ 200 := by
    rw [HFL2.out, List.length_map]
    exact HIW2.out.1
  have hrt := Stl.reft_tell names (Stl.items (.mk k d e ks))
  have hR : res = Stl.insAll (Stl.reft names ((Stl.items (.mk k d e ks)).map Stl.tellI)) [] := by rw [HRF.out, hrt]
  have HR := Lib.hid hR
  clear hR hrt HRF HFL2 HIE HIW2 HIT HFL HIL HIW
  generalize (Stl.items (.mk k d e ks)).map Stl.tellI = L at *
  have HRW := Lib.hid hrow
  have HBW := Lib.hid hbW
  have HBw := Lib.hid hbw
  have HDT := Lib.hid hdat
  have hco : co ≤ 9223372036854775807 := by
    obtain ⟨xs, h1, _⟩ := hrow
    rcases h1.2 with ⟨h1, _⟩ | ⟨_, _, _, h1, _, _, _, h2, _⟩
    · cases h1
    · injection h1 with _ _ h1
      subst h1
      exact h2
  have HB2 := Lib.hid (HB1.out.trans (((hbW.trans (hbw.mono hbW.size))).mono HB1.out.size))
  have HS2 := Lib.hid (HS1.out.later (hbW.trans (hbw.mono hbW.size)))
  clear hrow hbW hbw hdat c0 c1 c2 c3
  go_wp2_with fail
  go_loopw [5, 7] (fun v a wr => ∃ (i : Nat) (acc : List (List UInt8)), i ≤ L.length ∧ a = .int .i64 i ∧ acc.length ≤ 2000 * i ∧ Hid (Row wr v acc) ∧ Hid (Below w2.heap.size w2 wr) ∧ Hid (Stl.insAll (Stl.reft names (L.drop i)) acc = res)) (fun _ a _ => L.length - (intOf a).toNat)
  case atStart => exact ⟨0, [], Nat.zero_le _, rfl, by simp, Lib.hid (World.ownsRow_nil _ _ _ _), Lib.hid (Below.refl _ _), Lib.hid (by rw [HR.out]; rfl)⟩
  case round =>
    obtain ⟨i, acc, hi, rfl, hal, HRow, HBr, HP⟩ := hrel
    have HBe := Lib.hid (HB2.out.trans (HBr.out.mono HB2.out.size))
    by_cases hil : i < L.length
    · have i1 : (i : Int) < (L.length : Int) := by omega
      have i2 : (0 : Int) ≤ (i : Int) := by omega
      obtain ⟨v0, v1, v2, v3, c0, c1, c2, c3, c4, c5, hxn⟩ := (HRW.out.later HBr.out).at hil
      have HD := Lib.hid (List.drop_eq_getElem_cons hil)
      have hdx := HDT.out _ (List.getElem_mem hil)
      generalize L[i] = x at c0 c1 hxn HD hdx
      obtain ⟨px, dx, nx⟩ := x
      simp only at c0 c1 hxn
      obtain ⟨kx, dd, ex, kx2⟩ := nx
      obtain ⟨Ax, cx, ex', _, _⟩ := hxn.open
      simp only [List.cons.injEq, and_true] at ex'
      obtain ⟨rfl, rfl, rfl, rfl⟩ := ex'
      simp only [Stl.Nd.data] at hdx
      have hp := HP.out
      rw [HD.out, show (⟨px, dx, .mk kx dd ex kx2⟩ : Stl.It) :: L.drop (i + 1) = [⟨px, dx, .mk kx dd ex kx2⟩] ++ L.drop (i + 1) from rfl, Stl.reft_append] at hp
      by_cases hk : kx = Stl.kDir
      · have h1 : (kx == [100, 105, 114]) = true := by rw [hk]; decide
        rw [Stl.reft_dir names ⟨px, dx, .mk kx dd ex kx2⟩ hk, List.nil_append] at hp
        have HPP := Lib.hid hp
        clear hk hp hxn
        go_wp2
        go_roundw
        case rel => exact ⟨i + 1, acc, hil, by go_num, by omega, HRow, HBr, HPP⟩
        case measure => simp [intOf]; omega
      · have h1 : (kx == [100, 105, 114]) = false := by rw [beq_eq_false_iff_ne]; exact hk
        rw [Stl.reft_other names ⟨px, dx, .mk kx dd ex kx2⟩ hk, Stl.insAll_append] at hp
        simp only [Stl.Nd.data] at hp
        have HPP := Lib.hid hp
        have hfl := Stl.found_length dd names
        clear hk hp hxn
        go_wp2_with fail
        refine (FindIn_any dd (by omega) _ names hnm _ (HS2.out.later HBr.out)).mono ?_
        rintro ev w3 ⟨v3, rfl, hr3, hb3⟩
        obtain ⟨Af, cf, rfl⟩ := hr3.slice
        have HR3 := Lib.hid hr3
        have HB3 := Lib.hid hb3
        have HRow3 := Lib.hid (HRow.out.later hb3)
        generalize Stl.found dd names = fd at *
        clear hr3 hb3 c0 c1 c2 c3 c4 c5
        obtain ⟨wo, rfl⟩ : ∃ wo : World, wo = wr := ⟨_, rfl⟩
        go_wp2_with fail
        go_loopw [5, 9] (fun v a wi => ∃ (q : Nat) (acc2 : List (List UInt8)), q ≤ fd.length ∧ a = .int .i64 q ∧ acc2.length ≤ 2000 * i + q ∧ Hid (Row wi v acc2) ∧ Hid (Below w3.heap.size w3 wi) ∧ Hid (Stl.insAll (fd.drop q) acc2 = Stl.insAll fd acc)) (fun _ a _ => fd.length - (intOf a).toNat)
        case atStart => exact ⟨0, acc, Nat.zero_le _, rfl, by omega, HRow3, Lib.hid (Below.refl _ _), Lib.hid rfl⟩
        case round =>
          obtain ⟨q, acc2, hq, rfl, hal2, HRow4, HB4, HP4⟩ := hrel
          by_cases hql : q < fd.length
          · have i3 : (q : Int) < (fd.length : Int) := by omega
            have i4 : (0 : Int) ≤ (q : Int) := by omega
            obtain ⟨gf, rfl, _, s0⟩ := (HR3.out.later HB4.out).cellAt hql
            have HD4 := Lib.hid (List.drop_eq_getElem_cons hql)
            generalize fd[q] = y at s0 HD4
            go_wp2_with fail
            refine (With_any _ acc2 y (by omega) _ HRow4.out).mono ?_
            rintro ev w5 ⟨v5, rfl, hr5, hb5⟩
            have HR5 := Lib.hid hr5
            have HB5 := Lib.hid (HB4.out.trans (hb5.mono HB4.out.size))
            have hlen5 := Stl.ins_length y acc2
            have hp4 := HP4.out
            rw [HD4.out, Stl.insAll_cons] at hp4
            have HP5 := Lib.hid hp4
            clear hr5 hb5 hp4 s0
            generalize Stl.ins y acc2 = acc3 at *
            obtain ⟨A5, c5, rfl⟩ := HR5.out.slice
            go_wp2
            go_roundw
            case rel => exact ⟨q + 1, acc3, hql, by go_num, by omega, HR5, HB5, HP5⟩
            case measure => simp [intOf]; omega
          · have i3 : ¬ (q : Int) < (fd.length : Int) := by omega
            have hac : acc2 = Stl.insAll fd acc := by
              have := HP4.out
              rw [List.drop_of_length_le (by omega)] at this
              exact this
            have HB5 := Lib.hid (HBr.out.trans ((HB3.out.trans (HB4.out.mono HB3.out.size)).mono HBr.out.size))
            have HP5 := Lib.hid (show Stl.insAll (Stl.reft names (L.drop (i + 1))) acc2 = res by rw [hac]; exact HPP.out)
            clear hac
            go_wp2
            go_roundw
            case rel => exact ⟨i + 1, acc2, hil, by go_num, by omega, HRow4, HB5, HP5⟩
            case measure => simp [intOf]; omega
    · have i1 : ¬ (i : Int) < (L.length : Int) := by omega
      have HF := Lib.hid (show acc = res by
        have := HP.out
        rw [List.drop_of_length_le (by omega)] at this
        exact this)
      go_wp2
      go_ret
      exact ⟨_, rfl, by rw [← HF.out]; exact HRow.out, HBe.out⟩
#print axioms RefsIn_any
end Go.Proofs.YtgmdifmokcnbpaaGreatDoor
