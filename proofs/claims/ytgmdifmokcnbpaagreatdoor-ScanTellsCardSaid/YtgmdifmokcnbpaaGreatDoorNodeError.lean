/- The walk of the reference's nodeError. -/
import Derived.Test.YtgmdifmokcnbpaaGreatDoorCheck
import Derived.Test.YtgmdifmokcnbpaaGreatDoorRefNames
namespace Go.Proofs.YtgmdifmokcnbpaaGreatDoor
open Go.RowKit

def NodeEnd (w : World) (r : Nat) (e : Ending) (w' : World) : Prop := e = .returned (.int .i64 r) ∧ Below w.heap.size w w'

theorem byte_bad (d : List UInt8) (j : Nat) (hpf : j < (ByteArray.mk d.toArray).size) (hj : j < d.length) :
    (Stl.badByte d[j] = true → (((ByteArray.mk d.toArray)[j]'hpf).toNat : Int) < 33 ∨ (¬ (((ByteArray.mk d.toArray)[j]'hpf).toNat : Int) < 33 ∧ (126 : Int) < (((ByteArray.mk d.toArray)[j]'hpf).toNat : Int))) ∧
    (Stl.badByte d[j] = false → ¬ (((ByteArray.mk d.toArray)[j]'hpf).toNat : Int) < 33 ∧ ¬ (126 : Int) < (((ByteArray.mk d.toArray)[j]'hpf).toNat : Int)) := by
  have e : (ByteArray.mk d.toArray)[j]'hpf = d[j] := rfl
  rw [e, Stl.badByte_nat]
  generalize d[j].toNat = n
  simp only [Stl.badRune, Bool.or_eq_true, decide_eq_true_eq, Bool.or_eq_false_iff, decide_eq_false_iff_not]
  omega

set_option maxHeartbeats 2000000 in
set_option maxRecDepth 100000 in
theorem node_file (k d : List UInt8) (e : Bool) (A : Option Addr) (c : Nat) (ks : List (List UInt8 × Stl.Nd)) (hc : ks.length ≤ c) (hc2 : ks.length ≤ 140737488355328) (hd : d.length ≤ 140737488355328) (w : World) (hk : KidsOf w A ks)
    (h0 : k = Stl.kFile ∨ k = Stl.kDir ∨ k = Stl.kLink) (hkl : ¬ k = Stl.kLink) (hkk : k = Stl.kFile) (h1 : (k == [102, 105, 108, 101]) = true) (h2 : (k == [100, 105, 114]) = false) (h3 : (k == [108, 105, 110, 107]) = false) :
    Calls Tryz.prog 50 #[.agg #[.string ⟨k.toArray⟩, .string ⟨d.toArray⟩, .bool e, .slice A ks.length c]] w (NodeEnd w (Stl.ownErrP k d e (ks.map (·.1)))) := by
  have HR := Lib.hid (Stl.own_rest k d e (ks.map (·.1)) h0)
  rw [List.length_map] at HR
  generalize Stl.ownErrP k d e (ks.map (·.1)) = r at HR
  have hb := (Below.refl _ w).alloc (Nat.le_refl _) (.cells #[.string ⟨k.toArray⟩, .string ⟨d.toArray⟩, .bool e, .slice A ks.length c] 24)
  have HB := Lib.hid hb
  have HX := Lib.hid (heap_alloc_new w (.cells #[.string ⟨k.toArray⟩, .string ⟨d.toArray⟩, .bool e, .slice A ks.length c] 24))
  have HK := Lib.hid (hk.later hb)
  have HKL := Lib.hid hkl
  have HKK := Lib.hid hkk
  clear hb hk h0 hkl hkk
  go_enter Tryz.func50, Tryz.ntmps50
  go_upto_region 1 with fail
  generalize w.alloc (.cells #[.string ⟨k.toArray⟩, .string ⟨d.toArray⟩, .bool e, .slice A ks.length c] 24) = w1 at *
  have c0 := cell_of_row w1 _ 0 _ _ _ HX.out
  have c1 := cell_of_row w1 _ 1 _ _ _ HX.out
  have c2 := cell_of_row w1 _ 2 _ _ _ HX.out
  have c3 := cell_of_row w1 _ 3 _ _ _ HX.out
  by_cases hn0 : ks.length = 0
  case neg =>
    have hsh : Stl.shapeB k d e ks.length = false := by rw [HKK.out]; simp only [Stl.shapeB, if_pos]; simpa using hn0
    have n2 : 0 < ks.length := by omega
    have n3 : decide (0 < ks.length) = true := by simpa using n2
    clear hn0
    have HF := Lib.hid (show r = 3 by rw [HR.out, if_pos hsh])
    clear hsh
    go_wp2
    all_goals
      go_ret
      exact ⟨by rw [HF.out]; rfl, HB.out⟩
  have HN0 := Lib.hid hn0
  clear hn0
  have hsh : ¬ Stl.shapeB k d e ks.length = false := by rw [HKK.out]; simp only [Stl.shapeB, if_pos]; simpa using HN0.out
  have hr := HR.out
  rw [if_neg hsh] at hr
  clear HR hsh
  have HR := Lib.hid hr
  clear hr
  go_upto_region 6 with fail
  go_cut [52] (fun s wx => s = .bool false ∧ w1 = wx)
  case first =>
    have n3 : decide (0 < ks.length) = false := by rw [HN0.out]; rfl
    go_wp2
    go_meet
    case rel => exact ⟨rfl, rfl⟩
  case rest =>
  obtain ⟨rfl, rfl⟩ := hcut
  by_cases hbd : 2000 < d.length
  · have HF := Lib.hid (show r = 2 by rw [HR.out, if_pos (.inl hbd)])
    have i1 : (2000 : Int) < (d.length : Int) := by omega
    clear hbd
    go_wp2
    go_ret
    exact ⟨by rw [HF.out]; rfl, HB.out⟩
  have i1 : (d.length : Int) ≤ 2000 := by omega
  have hr := HR.out
  rw [if_neg (by rintro (h | ⟨h, _⟩); exact hbd h; exact HKL.out h), if_neg (fun h => HKL.out h.1)] at hr
  clear HR
  have HR := Lib.hid hr
  clear hr hbd
  go_wp2_with fail
  go_loopw [6] (fun a wr => wr = w1 ∧ a = .int .i64 0) (fun _ _ => 0)
  case atStart => exact ⟨rfl, rfl⟩
  case round =>
  obtain ⟨rfl, rfl⟩ := hrel
  go_wp2_with fail
  go_loopw [7] (fun a wo => wo = wr ∧ ∃ j : Nat, j ≤ ks.length ∧ a = .int .i64 j ∧ Hid (((ks.take j).map (·.1)).all Stl.isName = true)) (fun a _ => ks.length - (intOf a).toNat)
  case atStart => exact ⟨rfl, 0, Nat.zero_le _, rfl, Lib.hid rfl⟩
  case round =>
  obtain ⟨rfl, j, hj, rfl, HP⟩ := hrel
  by_cases hjl : j < ks.length
  · have i4 : (j : Int) < (ks.length : Int) := by omega
    have i5 : (0 : Int) ≤ (j : Int) := by omega
    obtain ⟨b, off, rfl, hlt, ⟨k0, hl⟩, _⟩ := HK.out.at hjl
    have HT := Lib.hid (show ks.take (j + 1) = ks.take j ++ [ks[j]] from List.take_succ_eq_append_getElem hjl)
    have HM := Lib.hid (show ks[j].1 ∈ ks.map (·.1) from List.mem_map.2 ⟨_, List.getElem_mem hjl, rfl⟩)
    generalize ks[j] = kd at HT HM k0 hl
    obtain ⟨nm, x⟩ := kd
    simp only at HM k0 hl
    go_wp2_with fail
    refine (IsName_any nm (by omega) _).mono ?_
    rintro ev w3 ⟨rfl, rfl⟩
    cases hq : Stl.isName nm
    · have HF := Lib.hid (show r = 5 by
        rw [HR.out, if_pos]
        rw [Bool.eq_false_iff]
        intro h
        have := List.all_eq_true.1 h _ HM.out
        rw [hq] at this
        cases this)
      clear hq
      go_wp2
      go_ret
      exact ⟨by rw [HF.out]; rfl, HB.out⟩
    · have HQ := Lib.hid hq
      clear hq
      go_wp2
      go_roundw
      case rel =>
        refine ⟨trivial, j + 1, hjl, by go_num, Lib.hid ?_⟩
        rw [HT.out, List.map_append, List.all_append, HP.out]
        simp [HQ.out]
      case measure => simp [intOf]; omega
  have i4 : ¬ (j : Int) < (ks.length : Int) := by omega
  have hal : (ks.map (·.1)).all Stl.isName = true := by
    have := HP.out
    rwa [List.take_of_length_le (by omega)] at this
  have hr := HR.out
  rw [if_neg (by rw [hal]; decide)] at hr
  clear HR hal HP
  have HR := Lib.hid hr
  clear hr
  go_wp2_with fail
  obtain ⟨wo, rfl⟩ : ∃ wo : World, wo = wr := ⟨_, rfl⟩
  go_loopw [9] (fun a wr => Below wo.heap.size wo wr ∧ ∃ j : Nat, j ≤ ks.length ∧ a = .int .i64 ((j + 1 : Nat) : Int) ∧ Hid (∀ i (h : i + 1 < ks.length), i < j → ks[i].1 < ks[i + 1].1)) (fun a _ => ks.length + 2 - (intOf a).toNat)
  case atStart => exact ⟨Below.refl _ _, 0, by omega, rfl, Lib.hid (fun i _ h => by omega)⟩
  case round =>
    obtain ⟨hb, j, hj, rfl, HP⟩ := hrel
    have HBr := Lib.hid hb
    have HB4 := Lib.hid (HB.out.trans (hb.mono HB.out.size))
    have c3 := cell_of_row wr _ 3 _ _ _ ((hb.block _ (lt_of_block HX.out)).trans HX.out)
    clear hb
    by_cases hlt : j + 1 < ks.length
    · have i1 : ((j + 1 : Nat) : Int) < (ks.length : Int) := by omega
      have i2 : (j : Int) + 1 < (ks.length : Int) := by omega
      have i3 : (0 : Int) ≤ (j : Int) := by omega
      have hj0 : j < ks.length := by omega
      obtain ⟨b, off, rfl, hbl, ⟨k1, hl1⟩, _⟩ := (HK.out.later HBr.out).at hlt
      obtain ⟨b', off', e', _, ⟨k2, hl2⟩, _⟩ := (HK.out.later HBr.out).at hj0
      injection e' with e'
      injection e' with e1 e2 e3
      subst e1 e2
      by_cases hx : ks[j].1 < ks[j + 1].1
      · obtain ⟨q1, q2⟩ := less_no hx
        have HX2 := Lib.hid hx
        clear hx
        go_wp2_with fail
        go_quiet (fail)
        go_wp2
        go_roundw
        case rel =>
          refine ⟨Below.drewN HBr.out _, j + 1, Nat.le_of_lt hlt, by go_num, Lib.hid ?_⟩
          intro i h1 h2
          rcases Nat.lt_or_ge i j with h3 | h3
          · exact HP.out i h1 h3
          · obtain rfl : i = j := by omega
            exact HX2.out
        case measure => simp [intOf]; omega
      · have HF := Lib.hid (show r = 10 by
          rw [HR.out, if_pos]
          rw [Bool.eq_false_iff]
          intro h
          have := Stl.risesB_at _ j h (by simpa using hlt)
          simp only [List.getElem_map] at this
          exact hx this)
        by_cases hne : ks[j + 1].1 = ks[j].1
        · have q1 : (ks[j + 1].1 == ks[j].1) = true := by rw [beq_iff_eq]; exact hne
          clear hx hne
          go_wp2_with fail
          go_quiet (fail)
          go_wp2
          go_ret
          exact ⟨by rw [HF.out]; rfl, Below.drewN HB4.out _⟩
        · obtain ⟨q1, q2⟩ := less_yes hx hne
          clear hx hne
          go_wp2_with fail
          go_quiet (fail)
          go_wp2
          go_ret
          exact ⟨by rw [HF.out]; rfl, Below.drewN HB4.out _⟩
    · have i1 : ¬ ((j + 1 : Nat) : Int) < (ks.length : Int) := by omega
      have i2 : ¬ (j : Int) + 1 < (ks.length : Int) := by omega
      have HF := Lib.hid (show r = 0 by
        rw [HR.out, if_neg]
        rw [Bool.not_eq_false]
        refine Stl.risesB_of _ fun i hi => ?_
        simp only [List.getElem_map]
        simp only [List.length_map] at hi
        exact HP.out i hi (by omega))
      go_wp2
      go_ret
      exact ⟨by rw [HF.out]; rfl, HB4.out⟩

set_option maxHeartbeats 2000000 in
set_option maxRecDepth 100000 in
theorem node_dir (k d : List UInt8) (e : Bool) (A : Option Addr) (c : Nat) (ks : List (List UInt8 × Stl.Nd)) (hc : ks.length ≤ c) (hc2 : ks.length ≤ 140737488355328) (hd : d.length ≤ 140737488355328) (w : World) (hk : KidsOf w A ks)
    (h0 : k = Stl.kFile ∨ k = Stl.kDir ∨ k = Stl.kLink) (hkl : ¬ k = Stl.kLink) (hkk : k = Stl.kDir) (h1 : (k == [102, 105, 108, 101]) = false) (h2 : (k == [100, 105, 114]) = true) (h3 : (k == [108, 105, 110, 107]) = false) :
    Calls Tryz.prog 50 #[.agg #[.string ⟨k.toArray⟩, .string ⟨d.toArray⟩, .bool e, .slice A ks.length c]] w (NodeEnd w (Stl.ownErrP k d e (ks.map (·.1)))) := by
  have HR := Lib.hid (Stl.own_rest k d e (ks.map (·.1)) h0)
  rw [List.length_map] at HR
  generalize Stl.ownErrP k d e (ks.map (·.1)) = r at HR
  have hb := (Below.refl _ w).alloc (Nat.le_refl _) (.cells #[.string ⟨k.toArray⟩, .string ⟨d.toArray⟩, .bool e, .slice A ks.length c] 24)
  have HB := Lib.hid hb
  have HX := Lib.hid (heap_alloc_new w (.cells #[.string ⟨k.toArray⟩, .string ⟨d.toArray⟩, .bool e, .slice A ks.length c] 24))
  have HK := Lib.hid (hk.later hb)
  have HKL := Lib.hid hkl
  have HKK := Lib.hid hkk
  clear hb hk h0 hkl hkk
  go_enter Tryz.func50, Tryz.ntmps50
  go_upto_region 1 with fail
  generalize w.alloc (.cells #[.string ⟨k.toArray⟩, .string ⟨d.toArray⟩, .bool e, .slice A ks.length c] 24) = w1 at *
  have c0 := cell_of_row w1 _ 0 _ _ _ HX.out
  have c1 := cell_of_row w1 _ 1 _ _ _ HX.out
  have c2 := cell_of_row w1 _ 2 _ _ _ HX.out
  have c3 := cell_of_row w1 _ 3 _ _ _ HX.out
  have fd : ¬ Stl.kDir = Stl.kFile := by decide
  cases e with
  | true =>
    have hsh : Stl.shapeB k d true ks.length = false := by rw [HKK.out]; simp [Stl.shapeB, if_neg fd]
    have HF := Lib.hid (show r = 3 by rw [HR.out, if_pos hsh])
    clear hsh
    go_wp2
    all_goals
      go_ret
      exact ⟨by rw [HF.out]; rfl, HB.out⟩
  | false =>
  by_cases hd0 : d = []
  case neg =>
    have hsh : Stl.shapeB k d false ks.length = false := by rw [HKK.out]; simp only [Stl.shapeB, if_neg fd, if_pos]; simpa using hd0
    have e1 : (d == []) = false := by simpa using hd0
    have e2 : d.isEmpty = false := by simpa using hd0
    clear hd0 fd
    have HF := Lib.hid (show r = 3 by rw [HR.out, if_pos hsh])
    clear hsh
    go_wp2
    all_goals
      go_ret
      exact ⟨by rw [HF.out]; rfl, HB.out⟩
  have hsh : ¬ Stl.shapeB k d false ks.length = false := by rw [HKK.out, hd0]; simp [Stl.shapeB, if_neg fd]
  have e1 : (d == []) = true := by simpa using hd0
  have e2 : d.isEmpty = true := by simpa using hd0
  clear hd0 fd
  have hr := HR.out
  rw [if_neg hsh] at hr
  clear HR hsh
  have HR := Lib.hid hr
  clear hr
  by_cases hbd : 2000 < d.length
  · have HF := Lib.hid (show r = 2 by rw [HR.out, if_pos (.inl hbd)])
    have i1 : (2000 : Int) < (d.length : Int) := by omega
    clear hbd
    go_wp2
    go_ret
    exact ⟨by rw [HF.out]; rfl, HB.out⟩
  have i1 : (d.length : Int) ≤ 2000 := by omega
  have hr := HR.out
  rw [if_neg (by rintro (h | ⟨h, _⟩); exact hbd h; exact HKL.out h), if_neg (fun h => HKL.out h.1)] at hr
  clear HR
  have HR := Lib.hid hr
  clear hr hbd
  go_wp2_with fail
  go_loopw [6] (fun a wr => wr = w1 ∧ a = .int .i64 0) (fun _ _ => 0)
  case atStart => exact ⟨rfl, rfl⟩
  case round =>
  obtain ⟨rfl, rfl⟩ := hrel
  go_wp2_with fail
  go_loopw [7] (fun a wo => wo = wr ∧ ∃ j : Nat, j ≤ ks.length ∧ a = .int .i64 j ∧ Hid (((ks.take j).map (·.1)).all Stl.isName = true)) (fun a _ => ks.length - (intOf a).toNat)
  case atStart => exact ⟨rfl, 0, Nat.zero_le _, rfl, Lib.hid rfl⟩
  case round =>
  obtain ⟨rfl, j, hj, rfl, HP⟩ := hrel
  by_cases hjl : j < ks.length
  · have i4 : (j : Int) < (ks.length : Int) := by omega
    have i5 : (0 : Int) ≤ (j : Int) := by omega
    obtain ⟨b, off, rfl, hlt, ⟨k0, hl⟩, _⟩ := HK.out.at hjl
    have HT := Lib.hid (show ks.take (j + 1) = ks.take j ++ [ks[j]] from List.take_succ_eq_append_getElem hjl)
    have HM := Lib.hid (show ks[j].1 ∈ ks.map (·.1) from List.mem_map.2 ⟨_, List.getElem_mem hjl, rfl⟩)
    generalize ks[j] = kd at HT HM k0 hl
    obtain ⟨nm, x⟩ := kd
    simp only at HM k0 hl
    go_wp2_with fail
    refine (IsName_any nm (by omega) _).mono ?_
    rintro ev w3 ⟨rfl, rfl⟩
    cases hq : Stl.isName nm
    · have HF := Lib.hid (show r = 5 by
        rw [HR.out, if_pos]
        rw [Bool.eq_false_iff]
        intro h
        have := List.all_eq_true.1 h _ HM.out
        rw [hq] at this
        cases this)
      clear hq
      go_wp2
      go_ret
      exact ⟨by rw [HF.out]; rfl, HB.out⟩
    · have HQ := Lib.hid hq
      clear hq
      go_wp2
      go_roundw
      case rel =>
        refine ⟨trivial, j + 1, hjl, by go_num, Lib.hid ?_⟩
        rw [HT.out, List.map_append, List.all_append, HP.out]
        simp [HQ.out]
      case measure => simp [intOf]; omega
  have i4 : ¬ (j : Int) < (ks.length : Int) := by omega
  have hal : (ks.map (·.1)).all Stl.isName = true := by
    have := HP.out
    rwa [List.take_of_length_le (by omega)] at this
  have hr := HR.out
  rw [if_neg (by rw [hal]; decide)] at hr
  clear HR hal HP
  have HR := Lib.hid hr
  clear hr
  go_wp2_with fail
  obtain ⟨wo, rfl⟩ : ∃ wo : World, wo = wr := ⟨_, rfl⟩
  go_loopw [9] (fun a wr => Below wo.heap.size wo wr ∧ ∃ j : Nat, j ≤ ks.length ∧ a = .int .i64 ((j + 1 : Nat) : Int) ∧ Hid (∀ i (h : i + 1 < ks.length), i < j → ks[i].1 < ks[i + 1].1)) (fun a _ => ks.length + 2 - (intOf a).toNat)
  case atStart => exact ⟨Below.refl _ _, 0, by omega, rfl, Lib.hid (fun i _ h => by omega)⟩
  case round =>
    obtain ⟨hb, j, hj, rfl, HP⟩ := hrel
    have HBr := Lib.hid hb
    have HB4 := Lib.hid (HB.out.trans (hb.mono HB.out.size))
    have c3 := cell_of_row wr _ 3 _ _ _ ((hb.block _ (lt_of_block HX.out)).trans HX.out)
    clear hb
    by_cases hlt : j + 1 < ks.length
    · have i1 : ((j + 1 : Nat) : Int) < (ks.length : Int) := by omega
      have i2 : (j : Int) + 1 < (ks.length : Int) := by omega
      have i3 : (0 : Int) ≤ (j : Int) := by omega
      have hj0 : j < ks.length := by omega
      obtain ⟨b, off, rfl, hbl, ⟨k1, hl1⟩, _⟩ := (HK.out.later HBr.out).at hlt
      obtain ⟨b', off', e', _, ⟨k2, hl2⟩, _⟩ := (HK.out.later HBr.out).at hj0
      injection e' with e'
      injection e' with e1 e2 e3
      subst e1 e2
      by_cases hx : ks[j].1 < ks[j + 1].1
      · obtain ⟨q1, q2⟩ := less_no hx
        have HX2 := Lib.hid hx
        clear hx
        go_wp2_with fail
        go_quiet (fail)
        go_wp2
        go_roundw
        case rel =>
          refine ⟨Below.drewN HBr.out _, j + 1, Nat.le_of_lt hlt, by go_num, Lib.hid ?_⟩
          intro i h1 h2
          rcases Nat.lt_or_ge i j with h3 | h3
          · exact HP.out i h1 h3
          · obtain rfl : i = j := by omega
            exact HX2.out
        case measure => simp [intOf]; omega
      · have HF := Lib.hid (show r = 10 by
          rw [HR.out, if_pos]
          rw [Bool.eq_false_iff]
          intro h
          have := Stl.risesB_at _ j h (by simpa using hlt)
          simp only [List.getElem_map] at this
          exact hx this)
        by_cases hne : ks[j + 1].1 = ks[j].1
        · have q1 : (ks[j + 1].1 == ks[j].1) = true := by rw [beq_iff_eq]; exact hne
          clear hx hne
          go_wp2_with fail
          go_quiet (fail)
          go_wp2
          go_ret
          exact ⟨by rw [HF.out]; rfl, Below.drewN HB4.out _⟩
        · obtain ⟨q1, q2⟩ := less_yes hx hne
          clear hx hne
          go_wp2_with fail
          go_quiet (fail)
          go_wp2
          go_ret
          exact ⟨by rw [HF.out]; rfl, Below.drewN HB4.out _⟩
    · have i1 : ¬ ((j + 1 : Nat) : Int) < (ks.length : Int) := by omega
      have i2 : ¬ (j : Int) + 1 < (ks.length : Int) := by omega
      have HF := Lib.hid (show r = 0 by
        rw [HR.out, if_neg]
        rw [Bool.not_eq_false]
        refine Stl.risesB_of _ fun i hi => ?_
        simp only [List.getElem_map]
        simp only [List.length_map] at hi
        exact HP.out i hi (by omega))
      go_wp2
      go_ret
      exact ⟨by rw [HF.out]; rfl, HB4.out⟩

set_option maxHeartbeats 2000000 in
set_option maxRecDepth 100000 in
theorem node_link (k d : List UInt8) (e : Bool) (A : Option Addr) (c : Nat) (ks : List (List UInt8 × Stl.Nd)) (hc : ks.length ≤ c) (hc2 : ks.length ≤ 140737488355328) (hd : d.length ≤ 140737488355328) (w : World) (hk : KidsOf w A ks)
    (h0 : k = Stl.kFile ∨ k = Stl.kDir ∨ k = Stl.kLink) (hkl : k = Stl.kLink) (hkk : k = Stl.kLink) (h1 : (k == [102, 105, 108, 101]) = false) (h2 : (k == [100, 105, 114]) = false) (h3 : (k == [108, 105, 110, 107]) = true) :
    Calls Tryz.prog 50 #[.agg #[.string ⟨k.toArray⟩, .string ⟨d.toArray⟩, .bool e, .slice A ks.length c]] w (NodeEnd w (Stl.ownErrP k d e (ks.map (·.1)))) := by
  have HR := Lib.hid (Stl.own_rest k d e (ks.map (·.1)) h0)
  rw [List.length_map] at HR
  generalize Stl.ownErrP k d e (ks.map (·.1)) = r at HR
  have hb := (Below.refl _ w).alloc (Nat.le_refl _) (.cells #[.string ⟨k.toArray⟩, .string ⟨d.toArray⟩, .bool e, .slice A ks.length c] 24)
  have HB := Lib.hid hb
  have HX := Lib.hid (heap_alloc_new w (.cells #[.string ⟨k.toArray⟩, .string ⟨d.toArray⟩, .bool e, .slice A ks.length c] 24))
  have HK := Lib.hid (hk.later hb)
  have HKL := Lib.hid hkl
  have HKK := Lib.hid hkk
  clear hb hk h0 hkl hkk
  go_enter Tryz.func50, Tryz.ntmps50
  go_upto_region 1 with fail
  generalize w.alloc (.cells #[.string ⟨k.toArray⟩, .string ⟨d.toArray⟩, .bool e, .slice A ks.length c] 24) = w1 at *
  have c0 := cell_of_row w1 _ 0 _ _ _ HX.out
  have c1 := cell_of_row w1 _ 1 _ _ _ HX.out
  have c2 := cell_of_row w1 _ 2 _ _ _ HX.out
  have c3 := cell_of_row w1 _ 3 _ _ _ HX.out
  have fl : ¬ Stl.kLink = Stl.kFile := by decide
  have dl : ¬ Stl.kLink = Stl.kDir := by decide
  by_cases hn0 : ks.length = 0
  case neg =>
    have hsh : Stl.shapeB k d e ks.length = false := by rw [HKK.out]; simp only [Stl.shapeB, if_neg fl, if_neg dl]; simp; intro _; simpa using hn0
    have n2 : 0 < ks.length := by omega
    have n3 : decide (0 < ks.length) = true := by simpa using n2
    clear hn0
    have HF := Lib.hid (show r = 3 by rw [HR.out, if_pos hsh])
    clear hsh
    go_wp2
    all_goals
      go_ret
      exact ⟨by rw [HF.out]; rfl, HB.out⟩
  have HN0 := Lib.hid hn0
  clear hn0
  cases e with
  | true =>
    have hsh : Stl.shapeB k d true ks.length = false := by rw [HKK.out]; simp [Stl.shapeB, if_neg fl, if_neg dl]
    have n3 : decide (0 < ks.length) = false := by rw [HN0.out]; rfl
    clear fl dl
    have HF := Lib.hid (show r = 3 by rw [HR.out, if_pos hsh])
    clear hsh
    go_wp2
    all_goals
      go_ret
      exact ⟨by rw [HF.out]; rfl, HB.out⟩
  | false =>
  have hsh : ¬ Stl.shapeB k d false ks.length = false := by rw [HKK.out, HN0.out]; simp [Stl.shapeB, if_neg fl, if_neg dl]
  clear fl dl
  have hr := HR.out
  rw [if_neg hsh] at hr
  clear HR hsh
  have HR := Lib.hid hr
  clear hr
  go_upto_region 6 with fail
  go_cut [52] (fun s wx => s = .bool false ∧ w1 = wx)
  case first =>
    have n3 : decide (0 < ks.length) = false := by rw [HN0.out]; rfl
    go_wp2
    go_meet
    case rel => exact ⟨rfl, rfl⟩
  case rest =>
  obtain ⟨rfl, rfl⟩ := hcut
  by_cases hbd : 2000 < d.length
  · have HF := Lib.hid (show r = 2 by rw [HR.out, if_pos (.inl hbd)])
    have i1 : (2000 : Int) < (d.length : Int) := by omega
    clear hbd
    go_wp2
    go_ret
    exact ⟨by rw [HF.out]; rfl, HB.out⟩
  have i1 : (d.length : Int) ≤ 2000 := by omega
  by_cases hd1 : d.length < 1
  · have HF := Lib.hid (show r = 2 by rw [HR.out, if_pos (.inr ⟨HKL.out, .inl hd1⟩)])
    have i2 : (d.length : Int) < 1 := by omega
    clear hbd hd1
    go_wp2
    go_ret
    exact ⟨by rw [HF.out]; rfl, HB.out⟩
  have i2 : ¬ (d.length : Int) < 1 := by omega
  by_cases hd4 : 40 < d.length
  · have HF := Lib.hid (show r = 2 by rw [HR.out, if_pos (.inr ⟨HKL.out, .inr hd4⟩)])
    have i3 : (40 : Int) < (d.length : Int) := by omega
    clear hbd hd1 hd4
    go_wp2
    go_ret
    exact ⟨by rw [HF.out]; rfl, HB.out⟩
  have i3 : (d.length : Int) ≤ 40 := by omega
  have hr := HR.out
  rw [if_neg (by rintro (h | ⟨_, h | h⟩); exact hbd h; exact hd1 h; exact hd4 h)] at hr
  clear HR
  have HR := Lib.hid hr
  clear hr hbd hd1 hd4
  go_wp2_with fail
  go_loopw [6] (fun a wr => wr = w1 ∧ ∃ j : Nat, j ≤ d.length ∧ a = .int .i64 j ∧ Hid ((d.take j).any Stl.badByte = false)) (fun a _ => d.length - (intOf a).toNat)
  case atStart => exact ⟨rfl, 0, Nat.zero_le _, rfl, Lib.hid rfl⟩
  case round =>
  obtain ⟨rfl, j, hj, rfl, HP⟩ := hrel
  by_cases hjd : j < d.length
  · have i4 : (j : Int) < (d.length : Int) := by omega
    have i5 : (0 : Int) ≤ (j : Int) := by omega
    have hpf : j < (ByteArray.mk d.toArray).size := by simpa [ByteArray.size] using hjd
    have hbt := byte_bad d j hpf hjd
    have HT := Lib.hid (List.take_succ_eq_append_getElem hjd)
    have HM := Lib.hid (List.getElem_mem hjd)
    generalize d[j] = b at hbt HT HM
    cases hbb : Stl.badByte b
    · obtain ⟨q1, q2⟩ := hbt.2 hbb
      have HBB := Lib.hid hbb
      clear hbb hbt
      go_wp2
      go_roundw
      case rel =>
        refine ⟨trivial, j + 1, hjd, by go_num, Lib.hid ?_⟩
        rw [HT.out, List.any_append, HP.out]
        simp [HBB.out]
      case measure => simp [intOf]; omega
    · have HF := Lib.hid (show r = 1 by rw [HR.out, if_pos ⟨HKL.out, List.any_eq_true.2 ⟨b, HM.out, hbb⟩⟩])
      rcases hbt.1 hbb with q1 | ⟨q1, q2⟩
      · clear hbb hbt
        go_wp2
        go_ret
        exact ⟨by rw [HF.out]; rfl, HB.out⟩
      · clear hbb hbt
        go_wp2
        go_ret
        exact ⟨by rw [HF.out]; rfl, HB.out⟩
  have i4 : ¬ (j : Int) < (d.length : Int) := by omega
  have hnb : d.any Stl.badByte = false := by
    have := HP.out
    rwa [List.take_of_length_le (by omega)] at this
  have hr := HR.out
  rw [if_neg (fun h => by rw [hnb] at h; cases h.2)] at hr
  clear HR hnb
  have HR := Lib.hid hr
  clear hr
  go_wp2_with fail
  go_loopw [7] (fun a wo => wo = wr ∧ ∃ j : Nat, j ≤ ks.length ∧ a = .int .i64 j ∧ Hid (((ks.take j).map (·.1)).all Stl.isName = true)) (fun a _ => ks.length - (intOf a).toNat)
  case atStart => exact ⟨rfl, 0, Nat.zero_le _, rfl, Lib.hid rfl⟩
  case round =>
  obtain ⟨rfl, j, hj, rfl, HP⟩ := hrel
  by_cases hjl : j < ks.length
  · have i4 : (j : Int) < (ks.length : Int) := by omega
    have i5 : (0 : Int) ≤ (j : Int) := by omega
    obtain ⟨b, off, rfl, hlt, ⟨k0, hl⟩, _⟩ := HK.out.at hjl
    have HT := Lib.hid (show ks.take (j + 1) = ks.take j ++ [ks[j]] from List.take_succ_eq_append_getElem hjl)
    have HM := Lib.hid (show ks[j].1 ∈ ks.map (·.1) from List.mem_map.2 ⟨_, List.getElem_mem hjl, rfl⟩)
    generalize ks[j] = kd at HT HM k0 hl
    obtain ⟨nm, x⟩ := kd
    simp only at HM k0 hl
    go_wp2_with fail
    refine (IsName_any nm (by omega) _).mono ?_
    rintro ev w3 ⟨rfl, rfl⟩
    cases hq : Stl.isName nm
    · have HF := Lib.hid (show r = 5 by
        rw [HR.out, if_pos]
        rw [Bool.eq_false_iff]
        intro h
        have := List.all_eq_true.1 h _ HM.out
        rw [hq] at this
        cases this)
      clear hq
      go_wp2
      go_ret
      exact ⟨by rw [HF.out]; rfl, HB.out⟩
    · have HQ := Lib.hid hq
      clear hq
      go_wp2
      go_roundw
      case rel =>
        refine ⟨trivial, j + 1, hjl, by go_num, Lib.hid ?_⟩
        rw [HT.out, List.map_append, List.all_append, HP.out]
        simp [HQ.out]
      case measure => simp [intOf]; omega
  have i4 : ¬ (j : Int) < (ks.length : Int) := by omega
  have hal : (ks.map (·.1)).all Stl.isName = true := by
    have := HP.out
    rwa [List.take_of_length_le (by omega)] at this
  have hr := HR.out
  rw [if_neg (by rw [hal]; decide)] at hr
  clear HR hal HP
  have HR := Lib.hid hr
  clear hr
  go_wp2_with fail
  obtain ⟨wo, rfl⟩ : ∃ wo : World, wo = wr := ⟨_, rfl⟩
  go_loopw [9] (fun a wr => Below wo.heap.size wo wr ∧ ∃ j : Nat, j ≤ ks.length ∧ a = .int .i64 ((j + 1 : Nat) : Int) ∧ Hid (∀ i (h : i + 1 < ks.length), i < j → ks[i].1 < ks[i + 1].1)) (fun a _ => ks.length + 2 - (intOf a).toNat)
  case atStart => exact ⟨Below.refl _ _, 0, by omega, rfl, Lib.hid (fun i _ h => by omega)⟩
  case round =>
    obtain ⟨hb, j, hj, rfl, HP⟩ := hrel
    have HBr := Lib.hid hb
    have HB4 := Lib.hid (HB.out.trans (hb.mono HB.out.size))
    have c3 := cell_of_row wr _ 3 _ _ _ ((hb.block _ (lt_of_block HX.out)).trans HX.out)
    clear hb
    by_cases hlt : j + 1 < ks.length
    · have i1 : ((j + 1 : Nat) : Int) < (ks.length : Int) := by omega
      have i2 : (j : Int) + 1 < (ks.length : Int) := by omega
      have i3 : (0 : Int) ≤ (j : Int) := by omega
      have hj0 : j < ks.length := by omega
      obtain ⟨b, off, rfl, hbl, ⟨k1, hl1⟩, _⟩ := (HK.out.later HBr.out).at hlt
      obtain ⟨b', off', e', _, ⟨k2, hl2⟩, _⟩ := (HK.out.later HBr.out).at hj0
      injection e' with e'
      injection e' with e1 e2 e3
      subst e1 e2
      by_cases hx : ks[j].1 < ks[j + 1].1
      · obtain ⟨q1, q2⟩ := less_no hx
        have HX2 := Lib.hid hx
        clear hx
        go_wp2_with fail
        go_quiet (fail)
        go_wp2
        go_roundw
        case rel =>
          refine ⟨Below.drewN HBr.out _, j + 1, Nat.le_of_lt hlt, by go_num, Lib.hid ?_⟩
          intro i h1 h2
          rcases Nat.lt_or_ge i j with h3 | h3
          · exact HP.out i h1 h3
          · obtain rfl : i = j := by omega
            exact HX2.out
        case measure => simp [intOf]; omega
      · have HF := Lib.hid (show r = 10 by
          rw [HR.out, if_pos]
          rw [Bool.eq_false_iff]
          intro h
          have := Stl.risesB_at _ j h (by simpa using hlt)
          simp only [List.getElem_map] at this
          exact hx this)
        by_cases hne : ks[j + 1].1 = ks[j].1
        · have q1 : (ks[j + 1].1 == ks[j].1) = true := by rw [beq_iff_eq]; exact hne
          clear hx hne
          go_wp2_with fail
          go_quiet (fail)
          go_wp2
          go_ret
          exact ⟨by rw [HF.out]; rfl, Below.drewN HB4.out _⟩
        · obtain ⟨q1, q2⟩ := less_yes hx hne
          clear hx hne
          go_wp2_with fail
          go_quiet (fail)
          go_wp2
          go_ret
          exact ⟨by rw [HF.out]; rfl, Below.drewN HB4.out _⟩
    · have i1 : ¬ ((j + 1 : Nat) : Int) < (ks.length : Int) := by omega
      have i2 : ¬ (j : Int) + 1 < (ks.length : Int) := by omega
      have HF := Lib.hid (show r = 0 by
        rw [HR.out, if_neg]
        rw [Bool.not_eq_false]
        refine Stl.risesB_of _ fun i hi => ?_
        simp only [List.getElem_map]
        simp only [List.length_map] at hi
        exact HP.out i hi (by omega))
      go_wp2
      go_ret
      exact ⟨by rw [HF.out]; rfl, HB4.out⟩

set_option maxHeartbeats 2000000 in
set_option maxRecDepth 100000 in
theorem node_other (k d : List UInt8) (e : Bool) (A : Option Addr) (c : Nat) (ks : List (List UInt8 × Stl.Nd)) (hc : ks.length ≤ c) (hc2 : ks.length ≤ 140737488355328) (hd : d.length ≤ 140737488355328) (w : World) (hk : KidsOf w A ks)
    (h0 : k ≠ Stl.kFile ∧ k ≠ Stl.kDir ∧ k ≠ Stl.kLink) (h1 : (k == [102, 105, 108, 101]) = false) (h2 : (k == [100, 105, 114]) = false) (h3 : (k == [108, 105, 110, 107]) = false) :
    Calls Tryz.prog 50 #[.agg #[.string ⟨k.toArray⟩, .string ⟨d.toArray⟩, .bool e, .slice A ks.length c]] w (NodeEnd w (Stl.ownErrP k d e (ks.map (·.1)))) := by
  have HF := Lib.hid (Stl.own_none k d e (ks.map (·.1)) h0)
  generalize Stl.ownErrP k d e (ks.map (·.1)) = r at HF
  have HB := Lib.hid ((Below.refl _ w).alloc (Nat.le_refl _) (.cells #[.string ⟨k.toArray⟩, .string ⟨d.toArray⟩, .bool e, .slice A ks.length c] 24))
  clear h0 hk
  go_enter Tryz.func50, Tryz.ntmps50
  go_wp2
  go_ret
  exact ⟨by rw [HF.out]; rfl, HB.out⟩

theorem nodeError_any (n : Stl.Nd) (vs : List Value) (w : World) (hn : NodeAt w n vs) :
    Calls Tryz.prog 50 #[.agg vs.toArray] w (NodeEnd w (Stl.ownErr n)) := by
  obtain ⟨k, d, e, ks⟩ := n
  obtain ⟨A, c, rfl, ⟨hc, hc2, _, hd⟩, hk⟩ := hn.open
  have fl : ¬ Stl.kFile = Stl.kLink := by decide
  have dl : ¬ Stl.kDir = Stl.kLink := by decide
  rcases Stl.kinds k with ⟨h0, h1, h2, h3⟩ | ⟨h0, h1, h2, h3⟩ | ⟨h0, h1, h2, h3⟩ | ⟨h0, h1, h2, h3⟩
  · exact node_file k d e A c ks hc hc2 hd w hk (.inl h0) (by rw [h0]; exact fl) h0 h1 h2 h3
  · exact node_dir k d e A c ks hc hc2 hd w hk (.inr (.inl h0)) (by rw [h0]; exact dl) h0 h1 h2 h3
  · exact node_link k d e A c ks hc hc2 hd w hk (.inr (.inr h0)) h0 h0 h1 h2 h3
  · exact node_other k d e A c ks hc hc2 hd w hk h0 h1 h2 h3
#print axioms nodeError_any
end Go.Proofs.YtgmdifmokcnbpaaGreatDoor
