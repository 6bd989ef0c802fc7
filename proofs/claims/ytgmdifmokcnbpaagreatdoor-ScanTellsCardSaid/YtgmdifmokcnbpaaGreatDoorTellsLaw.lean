/- The walk of the law ScanTells: it answers true, whatever the text, the tree and the names. -/
import Derived.Test.YtgmdifmokcnbpaaGreatDoorScanned
import Derived.Test.YtgmdifmokcnbpaaGreatDoorRefsIn
import Derived.Test.YtgmdifmokcnbpaaGreatDoorLargeNode
import Derived.Test.YtgmdifmokcnbpaaGreatDoorOwnNode
import Derived.Test.YtgmdifmokcnbpaaGreatDoorCoded
import Derived.Test.YtgmdifmokcnbpaaGreatDoorLongTexts
import Derived.Deep.RegionHeld3
namespace Go.Proofs.YtgmdifmokcnbpaaGreatDoor
open Go.RowKit Go.Maps Go.Sort Go.Shelf

/-- What the law answers. -/
def TrueEnd (w : World) (e : Ending) (w' : World) : Prop := e = .returned (.bool true) ∧ Below w.heap.size w w'

/-- A slice of texts that came in: its address is none only where it is empty. -/
def Named (w : World) (A : Option Addr) (c : Nat) (l : List (List UInt8)) : Prop := Strs w (.slice A l.length c) l ∧ (A = none → l.length = 0 ∧ c = 0) ∧ c ≤ 140737488355328 ∧ l.length ≤ c

theorem SameTexts_same (v v2 : Value) (l : List (List UInt8)) (hl : l.length ≤ 1000000) (w : World) (hs : Strs w v l) (hs2 : Strs w v2 l) :
    Calls Tryz.prog 7 #[v, v2] w fun e w' => e = .returned (.bool true) ∧ Below w.heap.size w w' := by
  have h := SameTexts_any v v2 l l hl hl w hs hs2
  simpa using h

theorem longL_no {l : List (List UInt8)} {m : Nat} (h : longL l m = false) : l.length ≤ 20 := by
  unfold longL at h
  rw [Bool.or_eq_false_iff] at h
  have := h.1
  simp at this
  exact this

theorem strs_news {w : World} {A : Option Addr} {c : Nat} {l : List (List UInt8)} (h : Strs w (.slice A l.length c) l) : ∀ ad, A = some ad → ∀ j u, (l.map encStr)[j]? = some u → w.cell? (ad.add j) = some u := by
  rintro ad rfl j u hu
  rw [List.getElem?_map] at hu
  obtain ⟨x, hx, rfl⟩ := Option.map_eq_some_iff.1 hu
  have hj : j < l.length := (List.getElem?_eq_some_iff.1 hx).1
  obtain ⟨b, off, e, _, hc⟩ := h.cellAt hj
  injection e with e
  subst e
  rw [(List.getElem?_eq_some_iff.1 hx).2] at hc
  exact flat_add' hc

theorem box_later {w w' : World} {B : Nat} {o : Obj} (h : w.heap[B]? = some o) (hb : Below w.heap.size w w') : w'.heap[B]? = some o := (hb.block _ (lt_of_block h)).trans h

theorem refsIn_length (n : Stl.Nd) (names : List (List UInt8)) : (Stl.refsIn n names).length ≤ 400000 := by
  rw [refsIn_eq]
  have h1 := Stl.insAll_length (Stl.reft names (Stl.items n)) []
  have h2 : (Stl.reft names (Stl.items n)).length ≤ 400000 := by
    unfold Stl.items
    split
    · rename_i ht
      obtain ⟨i1, i2⟩ := Stl.items_well ht
      have := Stl.reft_length names _ (fun y hy => Stl.own_data (i2 y hy).1)
      omega
    · simp [Stl.reft]
  simp at h1
  omega

set_option maxHeartbeats 8000000 in
set_option maxRecDepth 100000 in
theorem ScanTells_any (s f t : List UInt8) (n : Stl.Nd) (vs : List Value) (An : Option Addr) (cn : Nat) (names : List (List UInt8)) (w : World) (p : Nat → Addr) (hE : Errs w p) (hn : NodeAt w n vs) (hs : Named w An cn names)
    (hls : s.length ≤ 140737488355328) (hlf : f.length ≤ 140737488355328) (hlt : t.length ≤ 140737488355328) :
    Calls Tryz.prog 3 #[.string ⟨s.toArray⟩, .agg vs.toArray, .slice An names.length cn, .string ⟨f.toArray⟩, .string ⟨t.toArray⟩] w (TrueEnd w) := by
  have HE := Lib.hid hE
  have HN := Lib.hid hn
  have HS := Lib.hid hs.1
  have hcn := hs.2.2.1
  have hcl := hs.2.2.2
  have HA := Lib.hid hs.2.1
  obtain ⟨k, d, e, ks⟩ := n
  obtain ⟨A, c, rfl, _, _⟩ := hn.open
  clear hE hn hs
  have HB0 := Lib.hid ((Below.refl _ w).alloc (Nat.le_refl _) (.cells #[.string ⟨k.toArray⟩, .string ⟨d.toArray⟩, .bool e, .slice A ks.length c] 24))
  have HX0 := Lib.hid (heap_alloc_new w (.cells #[.string ⟨k.toArray⟩, .string ⟨d.toArray⟩, .bool e, .slice A ks.length c] 24))
  go_enter Tryz.func3, Tryz.ntmps3
  go_upto_region 1 with fail
  generalize w.alloc (.cells #[.string ⟨k.toArray⟩, .string ⟨d.toArray⟩, .bool e, .slice A ks.length c] 24) = w0 at *
  go_wp2_with fail
  refine (scanned_any w0 (p 5) (p 2) ((HE.out.later HB0.out).at_ 5 (by omega) (by omega)) ((HE.out.later HB0.out).at_ 2 (by omega) (by omega))).mono ?_
  rintro ev w1 ⟨rfl, hb1⟩
  have HB1 := Lib.hid (HB0.out.trans (hb1.mono HB0.out.size))
  have HX1 := Lib.hid ((hb1.block _ (lt_of_block HX0.out)).trans HX0.out)
  clear hb1
  have c0 := cell_of_row w1 _ 0 _ _ _ HX1.out
  have c1 := cell_of_row w1 _ 1 _ _ _ HX1.out
  have c2 := cell_of_row w1 _ 2 _ _ _ HX1.out
  have c3 := cell_of_row w1 _ 3 _ _ _ HX1.out
  by_cases hs1 : 300 < s.length
  · have i1 : (300 : Int) < (s.length : Int) := by omega
    clear hs1
    go_wp2_with fail
    go_ret
    exact ⟨rfl, HB1.out⟩
  have i1 : (s.length : Int) ≤ 300 := by omega
  have hsl : s.length ≤ 300 := by omega
  clear hs1
  go_wp2_with fail
  refine (LargeNode_any (.mk k d e ks) _ 60 (by omega) w1 (NodeAt.later HB1.out _ _ HN.out)).mono ?_
  rintro ev w2 ⟨r, rfl, hb2⟩
  have HB2 := Lib.hid (HB1.out.trans (hb2.mono HB1.out.size))
  have HX2 := Lib.hid (box_later HX1.out hb2)
  clear hb2 c0 c1 c2 c3
  by_cases hr : 0 < r
  · go_wp2_with fail
    go_ret
    exact ⟨rfl, HB2.out⟩
  have hr2 : r ≤ 0 := by omega
  clear hr
  go_wp2_with fail
  refine (longTexts_any _ names 30 (by omega) w2 (HS.out.later HB2.out)).mono ?_
  rintro ev w3 ⟨rfl, rfl⟩
  obtain ⟨w2, rfl⟩ : ∃ x : World, x = w3 := ⟨_, rfl⟩
  cases hlong : longL names 30
  case true =>
    clear hlong
    go_wp2_with fail
    go_ret
    exact ⟨rfl, HB2.out⟩
  have hn20 := longL_no hlong
  clear hlong
  by_cases hf1 : 30 < f.length
  · have i2 : (30 : Int) < (f.length : Int) := by omega
    clear hf1
    go_wp2_with fail
    go_ret
    exact ⟨rfl, HB2.out⟩
  have i2 : (f.length : Int) ≤ 30 := by omega
  have hfl : f.length ≤ 30 := by omega
  clear hf1
  by_cases ht1 : 30 < t.length
  · have i3 : (30 : Int) < (t.length : Int) := by omega
    clear ht1
    go_wp2_with fail
    go_ret
    exact ⟨rfl, HB2.out⟩
  have i3 : (t.length : Int) ≤ 30 := by omega
  have htl : t.length ≤ 30 := by omega
  clear ht1
  obtain ⟨i0, hi, hz0, hz1, hz2⟩ := infoS
  have Hi := Lib.hid hi
  have Hz0 := Lib.hid hz0
  have Hz1 := Lib.hid hz1
  have Hz2 := Lib.hid hz2
  clear hi hz0 hz1 hz2
  have HS2 := Lib.hid (HS.out.later HB2.out)
  go_upto_region 6 with (at_builtin; go_loud (refine Stl.wpList_app _ rfl (.tmp 45) (.tmp 46) 25 rfl w2.heap.size 9 i0 (.string ByteArray.empty) 1 16 Tryz.underlying25 Hi.out Hz0.out Hz1.out Hz2.out rfl (by decide) (.slice none 0 0) 0 [] rfl (World.ownsRow_nil _ _ _ _) An names.length cn (names.map encStr) rfl (by simp) HA.out (strs_news HS2.out) (encStr_one _) (by unfold maxLen; omega) (by omega) (Nat.le_refl _) ?_); intro Ao co w3 hown hg _)
  have hb3 : Below w2.heap.size w2 w3 := ⟨hg.os, hg.tape, hg.output, hg.size, fun k hk => hg.block k hk (by simp [Value.ownBlock])⟩
  have HB3 := Lib.hid (HB2.out.trans (hb3.mono HB2.out.size))
  have HX3 := Lib.hid (box_later HX2.out hb3)
  have hown2 : w3.ownsRow w2.heap.size 9 1 (.slice Ao names.length co) names.length (names.map encStr) := by simpa using hown
  have HOS := Lib.hid (strs_of_row hown2)
  have HNS := Lib.hid (HS2.out.later hb3)
  have HN3 := Lib.hid (NodeAt.later HB3.out _ _ HN.out)
  have HE3 := Lib.hid (HE.out.later HB3.out)
  have HFL := Lib.hid (Stl.found_length s names)
  have HRL := Lib.hid (refsIn_length (.mk k d e ks) names)
  have s0 := cell_of_row w3 w.heap.size 0 _ _ _ HX3.out
  have s1 := cell_of_row w3 w.heap.size 1 _ _ _ HX3.out
  have s2 := cell_of_row w3 w.heap.size 2 _ _ _ HX3.out
  have s3 := cell_of_row w3 w.heap.size 3 _ _ _ HX3.out
  clear hg hb3 hown hown2
  go_region_held3 (fun w' => w'.cell? ⟨w.heap.size, 0, none⟩ = some (.string ⟨k.toArray⟩) ∧ w'.cell? ⟨w.heap.size, 1, none⟩ = some (.string ⟨d.toArray⟩) ∧ w'.cell? ⟨w.heap.size, 2, none⟩ = some (.bool e) ∧ w'.cell? ⟨w.heap.size, 3, none⟩ = some (.slice A ks.length c))
    (first
      | exact ⟨s0, s1, s2, s3⟩
      | go_keep)
    (first
      | (go_at_call 8; refine (Find_any s (by omega) _ names (by omega) _ ?_).mono ?_; exact HOS.out; rintro ev w4 ⟨v4, rfl, hst4, hb4⟩; obtain ⟨A4, c4, rfl, _⟩ := id hst4; have HT4 := Lib.hid hst4; have HB4 := Lib.hid (show Below w3.heap.size w3 w4 from ⟨hb4.os, hb4.tape, hb4.output, hb4.size, hb4.block⟩); have HX4 := Lib.hid (box_later HX3.out HB4.out); have s0 := cell_of_row w4 w.heap.size 0 _ _ _ HX4.out; have s1 := cell_of_row w4 w.heap.size 1 _ _ _ HX4.out; have s2 := cell_of_row w4 w.heap.size 2 _ _ _ HX4.out; have s3 := cell_of_row w4 w.heap.size 3 _ _ _ HX4.out; clear hst4 hb4)
      | (go_at_call 9; refine (FindIn_any s (by omega) _ names (by omega) _ ?_).mono ?_; exact HNS.out.later HB4.out; rintro ev w5 ⟨v5, rfl, hr5, hb5⟩; obtain ⟨A5, c5, rfl⟩ := hr5.slice; have HR5 := Lib.hid hr5; have HB5 := Lib.hid (HB4.out.trans (hb5.mono HB4.out.size)); have HT5 := Lib.hid (HT4.out.later hb5); have HX5 := Lib.hid (box_later HX4.out hb5); have s0 := cell_of_row w5 w.heap.size 0 _ _ _ HX5.out; have s1 := cell_of_row w5 w.heap.size 1 _ _ _ HX5.out; have s2 := cell_of_row w5 w.heap.size 2 _ _ _ HX5.out; have s3 := cell_of_row w5 w.heap.size 3 _ _ _ HX5.out; clear hr5 hb5)
      | (go_at_call 7; with_reducible refine (SameTexts_same (.slice A4 (Stl.found s names).length c4) (.slice A5 (Stl.found s names).length c5) (Stl.found s names) (by have := HFL.out; omega) _ ?_ ?_).mono ?_; exact HT5.out; exact strs_of_row HR5.out; rintro ev w6 ⟨rfl, hb6⟩; have HB6 := Lib.hid (HB5.out.trans (hb6.mono HB5.out.size)); have HX6 := Lib.hid (box_later HX5.out hb6); have s0 := cell_of_row w6 w.heap.size 0 _ _ _ HX6.out; have s1 := cell_of_row w6 w.heap.size 1 _ _ _ HX6.out; have s2 := cell_of_row w6 w.heap.size 2 _ _ _ HX6.out; have s3 := cell_of_row w6 w.heap.size 3 _ _ _ HX6.out; clear hb6)
      | (go_at_call 11; refine (OwnNode_any _ (.mk k d e ks) [.string ⟨k.toArray⟩, .string ⟨d.toArray⟩, .bool e, .slice A ks.length c] _ (Nat.le_refl _) ?_).mono ?_; exact NodeAt.later HB6.out _ _ HN3.out; rintro ev w7 ⟨vs7, rfl, hnp7, hb7⟩; obtain ⟨A7, c7, rfl⟩ := hnp7.open; have HN7 := Lib.hid (NodeP.at _ _ hnp7); have HB7 := Lib.hid (HB6.out.trans (hb7.mono HB6.out.size)); have HX7 := Lib.hid (box_later HX6.out hb7); have s0 := cell_of_row w7 w.heap.size 0 _ _ _ HX7.out; have s1 := cell_of_row w7 w.heap.size 1 _ _ _ HX7.out; have s2 := cell_of_row w7 w.heap.size 2 _ _ _ HX7.out; have s3 := cell_of_row w7 w.heap.size 3 _ _ _ HX7.out; clear hnp7 hb7)
      | (go_at_call 10; refine (Refs_any p (.mk k d e ks) [.string ⟨k.toArray⟩, .string ⟨d.toArray⟩, .bool e, .slice A7 ks.length c7] _ names (by omega) _ ?_ ?_ ?_).mono ?_; exact HE3.out.later HB7.out; exact HN7.out; exact HOS.out.later HB7.out; rintro ev w8 ⟨A8, c8, rfl, hr8, hb8⟩; have HT8 := Lib.hid (strs_of_row hr8); have HB8 := Lib.hid (HB7.out.trans (hb8.mono HB7.out.size)); have HX8 := Lib.hid (box_later HX7.out hb8); have s0 := cell_of_row w8 w.heap.size 0 _ _ _ HX8.out; have s1 := cell_of_row w8 w.heap.size 1 _ _ _ HX8.out; have s2 := cell_of_row w8 w.heap.size 2 _ _ _ HX8.out; have s3 := cell_of_row w8 w.heap.size 3 _ _ _ HX8.out; clear hr8 hb8)
      | (go_at_call 12; refine (RefsIn_any (.mk k d e ks) [.string ⟨k.toArray⟩, .string ⟨d.toArray⟩, .bool e, .slice A ks.length c] _ names (by omega) _ ?_ ?_).mono ?_; exact NodeAt.later HB8.out _ _ HN3.out; exact HNS.out.later HB8.out; rintro ev w9 ⟨v9, rfl, hr9, hb9⟩; obtain ⟨A9, c9, rfl⟩ := hr9.slice; have HR9 := Lib.hid hr9; have HT9 := Lib.hid (HT8.out.later hb9); have HB9 := Lib.hid (HB8.out.trans (hb9.mono HB8.out.size)); have HX9 := Lib.hid (box_later HX8.out hb9); have s0 := cell_of_row w9 w.heap.size 0 _ _ _ HX9.out; have s1 := cell_of_row w9 w.heap.size 1 _ _ _ HX9.out; have s2 := cell_of_row w9 w.heap.size 2 _ _ _ HX9.out; have s3 := cell_of_row w9 w.heap.size 3 _ _ _ HX9.out; clear hr9 hb9)
      | (go_at_call 7; with_reducible refine (SameTexts_same (.slice A8 (Stl.refsIn (.mk k d e ks) names).length c8) (.slice A9 (Stl.refsIn (.mk k d e ks) names).length c9) (Stl.refsIn (.mk k d e ks) names) (by have := HRL.out; omega) _ ?_ ?_).mono ?_; exact HT9.out; exact strs_of_row HR9.out; rintro ev w10 ⟨rfl, hb10⟩; have HB10 := Lib.hid (HB9.out.trans (hb10.mono HB9.out.size)); have HX10 := Lib.hid (box_later HX9.out hb10); have s0 := cell_of_row w10 w.heap.size 0 _ _ _ HX10.out; have s1 := cell_of_row w10 w.heap.size 1 _ _ _ HX10.out; have s2 := cell_of_row w10 w.heap.size 2 _ _ _ HX10.out; have s3 := cell_of_row w10 w.heap.size 3 _ _ _ HX10.out; clear hb10)
      | fail)
  have HBe := Lib.hid (HB3.out.trans (HB10.out.mono HB3.out.size))
  clear s0 s1 s2 s3
  go_wp2_with fail
  refine (Turn_any s f t _ (p 5) (p 2) ((HE.out.later HBe.out).at_ 5 (by omega) (by omega)) ((HE.out.later HBe.out).at_ 2 (by omega) (by omega)) (by omega) (by omega) (by omega)).mono ?_
  rintro ev w11 ⟨rfl, hb11⟩
  have HB11 := Lib.hid (HBe.out.trans (hb11.mono HBe.out.size))
  clear hb11
  by_cases hnm : Stl.isName f = true ∧ Stl.isName t = true
  case neg =>
    have H1 := Lib.hid (show turnRes s f t (p 5) (p 2) = .tuple #[.string ⟨#[]⟩, .iface 176 (.pointer (some (p 5)))] from if_neg hnm)
    have H2 := Lib.hid (show turnOfRes s f t = .tuple #[.string ⟨#[]⟩, .int .i64 5] from if_neg hnm)
    clear hnm
    rw [H1.out]
    go_wp2_with fail
    refine (TurnOf_any s f t (by omega) (by omega) (by omega) _).mono ?_
    rintro ev w12 ⟨rfl, rfl⟩
    rw [H2.out]
    have hcd : Calls Tryz.prog 15 #[.iface 176 (.pointer (some (p 5))), .int .i64 5] w12 (BoolEnd true w12) := coded_any p 5 5 (by omega) (by omega) w12 (HE.out.later HB11.out)
    go_wp2_with fail
    refine hcd.mono ?_
    rintro ev w13 ⟨rfl, hb13⟩
    have HB13 := Lib.hid (HB11.out.trans (hb13.mono HB11.out.size))
    clear hb13 hcd
    go_wp2
    go_ret
    exact ⟨rfl, HB13.out⟩
  by_cases hT : 2000 < (Stl.turnL f t 0 s).length
  case pos =>
    have H1 := Lib.hid (show turnRes s f t (p 5) (p 2) = .tuple #[.string ⟨#[]⟩, .iface 176 (.pointer (some (p 2)))] from (if_pos hnm).trans (if_pos hT))
    have H2 := Lib.hid (show turnOfRes s f t = .tuple #[.string ⟨#[]⟩, .int .i64 2] from (if_pos hnm).trans (if_pos hT))
    clear hnm hT
    rw [H1.out]
    go_wp2_with fail
    refine (TurnOf_any s f t (by omega) (by omega) (by omega) _).mono ?_
    rintro ev w12 ⟨rfl, rfl⟩
    rw [H2.out]
    have hcd : Calls Tryz.prog 15 #[.iface 176 (.pointer (some (p 2))), .int .i64 2] w12 (BoolEnd true w12) := coded_any p 2 2 (by omega) (by omega) w12 (HE.out.later HB11.out)
    go_wp2_with fail
    refine hcd.mono ?_
    rintro ev w13 ⟨rfl, hb13⟩
    have HB13 := Lib.hid (HB11.out.trans (hb13.mono HB11.out.size))
    clear hb13 hcd
    go_wp2
    go_ret
    exact ⟨rfl, HB13.out⟩
  case neg =>
    have H1 := Lib.hid (show turnRes s f t (p 5) (p 2) = .tuple #[.string ⟨(Stl.turnL f t 0 s).toArray⟩, .nilIface] from (if_pos hnm).trans (if_neg hT))
    have H2 := Lib.hid (show turnOfRes s f t = .tuple #[.string ⟨(Stl.turnL f t 0 s).toArray⟩, .int .i64 0] from (if_pos hnm).trans (if_neg hT))
    clear hnm hT
    generalize Stl.turnL f t 0 s = T at H1 H2
    rw [H1.out]
    go_wp2_with fail
    refine (TurnOf_any s f t (by omega) (by omega) (by omega) _).mono ?_
    rintro ev w12 ⟨rfl, rfl⟩
    rw [H2.out]
    have hcd : Calls Tryz.prog 15 #[.nilIface, .int .i64 0] w12 (BoolEnd true w12) := coded_any p 0 0 (by omega) (by omega) w12 (HE.out.later HB11.out)
    go_wp2_with fail
    refine hcd.mono ?_
    rintro ev w13 ⟨rfl, hb13⟩
    have HB13 := Lib.hid (HB11.out.trans (hb13.mono HB11.out.size))
    clear hb13 hcd
    go_wp2
    go_ret
    exact ⟨rfl, HB13.out⟩
#print axioms ScanTells_any
end Go.Proofs.YtgmdifmokcnbpaaGreatDoor
