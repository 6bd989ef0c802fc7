/- The walk of the law ScanTurns: it answers true, whatever the texts. -/
import Derived.Test.YtgmdifmokcnbpaaDoorScanned
import Derived.Test.YtgmdifmokcnbpaaDoorTurnsPure
import Derived.Deep.DeepCutAuto
import Derived.Deep.CutRange
namespace Go.Proofs.YtgmdifmokcnbpaaDoor
open Go.RowKit Go.Maps Go.Sort Go.Shelf

theorem Below.more {a w w' : World} (h : Below a.heap.size a w) (hb : Below w.heap.size w w') : Below a.heap.size a w' := h.trans (hb.mono h.size)
theorem Below.andAlloc {a w : World} (h : Below a.heap.size a w) (o : Obj) : Below a.heap.size a (w.alloc o) := h.alloc h.size o

set_option maxHeartbeats 4000000 in
set_option maxRecDepth 100000 in
theorem ScanTurns_any (s f t m : List UInt8) (w : World) (pN pB : Addr) (hN : errAt w 0 pN) (hB : errAt w 1 pB)
    (hls : s.length ≤ 9223372036854775807) (hlf : f.length ≤ 9223372036854775807) (hlt : t.length ≤ 9223372036854775807) (hlm : m.length ≤ 9223372036854775807) :
    Calls Tryd.prog 3 #[.string ⟨s.toArray⟩, .string ⟨f.toArray⟩, .string ⟨t.toArray⟩, .string ⟨m.toArray⟩] w fun e w' => e = .returned (.bool true) ∧ Below w.heap.size w w' := by
  have HN := Lib.hid hN
  have HB := Lib.hid hB
  clear hN hB
  go_enter Tryd.func3, Tryd.ntmps3
  go_wp2_with fail
  refine (scanned_any _ pN pB HN.out HB.out).mono ?_
  rintro e w1 ⟨rfl, hb1⟩
  have HB1 := Lib.hid hb1
  clear hb1
  by_cases h1 : 150 < s.length
  · have i1 : (150 : Int) < (s.length : Int) := by omega
    go_wp2_with fail
    go_ret
    exact ⟨rfl, HB1.out⟩
  have i1 : (s.length : Int) ≤ 150 := by omega
  by_cases h2 : 30 < f.length
  · have i2 : (30 : Int) < (f.length : Int) := by omega
    go_wp2_with fail
    go_ret
    exact ⟨rfl, HB1.out⟩
  have i2 : (f.length : Int) ≤ 30 := by omega
  by_cases h3 : 30 < t.length
  · have i3 : (30 : Int) < (t.length : Int) := by omega
    go_wp2_with fail
    go_ret
    exact ⟨rfl, HB1.out⟩
  have i3 : (t.length : Int) ≤ 30 := by omega
  by_cases h4 : 100 < m.length
  · have i4 : (100 : Int) < (m.length : Int) := by omega
    go_wp2_with fail
    go_ret
    exact ⟨rfl, HB1.out⟩
  have i4 : (m.length : Int) ≤ 100 := by omega
  go_wp2_with fail
  refine (Turn_any s f t _ pN pB (HN.out.later HB1.out) (HB.out.later HB1.out) (by omega) (by omega) (by omega)).mono ?_
  rintro e w2 ⟨rfl, hb2⟩
  have HB2 := Lib.hid (Below.more HB1.out hb2)
  clear hb2
  by_cases hnm : Stl.isName f = true ∧ Stl.isName t = true
  case neg =>
    rw [show turnRes s f t pN pB = .tuple #[.string ⟨#[]⟩, .iface 104 (.pointer (some pN))] from if_neg hnm]
    clear hnm
    go_wp2_with fail
    go_ret
    exact ⟨rfl, HB2.out⟩
  obtain ⟨hf, ht⟩ := hnm
  by_cases hT : 2000 < (Stl.turnL f t 0 s).length
  · rw [show turnRes s f t pN pB = .tuple #[.string ⟨#[]⟩, .iface 104 (.pointer (some pB))] from (if_pos ⟨hf, ht⟩).trans (if_pos hT)]
    clear hT hf ht
    go_wp2_with fail
    go_ret
    exact ⟨rfl, HB2.out⟩
  rw [show turnRes s f t pN pB = .tuple #[.string ⟨(Stl.turnL f t 0 s).toArray⟩, .nilIface] from (if_pos ⟨hf, ht⟩).trans (if_neg hT)]
  have HA1 := Lib.hid (fun hne => Stl.turns_gone s f t ht hne)
  have HA2 := Lib.hid (Stl.turns_come s f t ht)
  have HA3 := Lib.hid (Stl.turn_none f t s)
  have HA4 := Lib.hid (Stl.turns_back s f t hf ht)
  have HTL : (Stl.turnL f t 0 s).length ≤ 2000 := by omega
  clear hT
  generalize Stl.turnL f t 0 s = T at HA1 HA2 HA3 HA4 HTL
  have HF := Lib.hid hf
  have HT := Lib.hid ht
  clear hf ht
  go_wp2_with fail
  refine (Find_any s (by omega) _ [f] (by simp) _ (strs_lit w2 [f] (by simp) 1)).mono ?_
  rintro e w3 ⟨v, rfl, ⟨A3, c3, rfl, _⟩, hb3⟩
  have HB3 := Lib.hid (Below.more (Below.andAlloc HB2.out _) hb3)
  have HH := Lib.hid (Stl.found_one s f HF.out)
  clear hb3
  generalize (Stl.found s [f]).length = nh at HH
  go_wp2_with fail
  generalize hhad : decide (0 < nh) = had
  have HD := Lib.hid (show had = true ↔ f ∈ Stl.ments s by rw [← hhad, decide_eq_true_iff]; exact HH.out)
  clear hhad HH
  refine (Find_any s (by omega) _ [t] (by simp) _ (strs_lit w3 [t] (by simp) 1)).mono ?_
  rintro e w4 ⟨v, rfl, ⟨A4, c4, rfl, _⟩, hb4⟩
  have HB4 := Lib.hid (Below.more (Below.andAlloc HB3.out _) hb4)
  have HS := Lib.hid (Stl.found_one s t HT.out)
  clear hb4
  generalize (Stl.found s [t]).length = ns at HS
  go_upto_region 9 with fail
  generalize hhas : decide (0 < ns) = has
  have HS2 := Lib.hid (show has = true ↔ t ∈ Stl.ments s by rw [← hhas, decide_eq_true_iff]; exact HS.out)
  clear hhas HS
  go_cut [76] (fun c wx => c = .bool false ∧ Below w.heap.size w wx)
  case first =>
    by_cases he : f = t
    · subst he
      go_wp2_with fail
      go_meet
      case rel => exact ⟨rfl, HB4.out⟩
    · have he2 : (f == t) = false := by rw [beq_eq_false_iff_ne]; exact he
      have HE := Lib.hid he
      clear he
      go_wp2_with fail
      refine (Find_any T (by omega) _ [f] (by simp) _ (strs_lit w4 [f] (by simp) 1)).mono ?_
      rintro e w5 ⟨v, rfl, ⟨A5, c5, rfl, _⟩, hb5⟩
      have HB5 := Lib.hid (Below.more (Below.andAlloc HB4.out _) hb5)
      have hz : (Stl.found T [f]).length = 0 := by
        have h0 : ¬ 0 < (Stl.found T [f]).length := fun h => HA1.out HE.out ((Stl.found_one T f HF.out).1 h)
        omega
      rw [hz]
      clear hb5 hz
      go_wp2_with fail
      go_meet
      case rel => exact ⟨rfl, HB5.out⟩
  case rest =>
    obtain ⟨rfl, hb5⟩ := hcut
    have HB5 := Lib.hid hb5
    clear hb5
    go_upto_region 11 with fail
    go_cut [94] (fun c wx => c = .bool false ∧ Below w.heap.size w wx)
    case first =>
      cases had
      case true =>
        have HM := Lib.hid (HA2.out (HD.out.1 rfl))
        go_wp2_with fail
        refine (Find_any T (by omega) _ [t] (by simp) _ (strs_lit wc [t] (by simp) 1)).mono ?_
        rintro e w6 ⟨v, rfl, ⟨A6, c6, rfl, _⟩, hb6⟩
        have HB6 := Lib.hid (Below.more (Below.andAlloc HB5.out _) hb6)
        have hz : 0 < (Stl.found T [t]).length := (Stl.found_one T t HT.out).2 HM.out
        generalize (Stl.found T [t]).length = nz at hz
        have j2 : ((nz : Int) == 0) = false := by rw [beq_eq_false_iff_ne]; omega
        clear hb6
        go_wp2_with fail
        go_meet
        case rel => exact ⟨rfl, HB6.out⟩
      case false =>
        have hTs : T = s := HA3.out (fun h => by have := HD.out.2 h; cases this)
        subst hTs
        go_wp2_with fail
        go_meet
        case rel => exact ⟨rfl, HB5.out⟩
    case rest =>
      obtain ⟨rfl, hb7⟩ := hcut
      have HB7 := Lib.hid hb7
      clear hb7
      go_upto_region 13 with fail
      go_cut [101] (fun c wx => ∃ b : Bool, c = .bool b ∧ Hid (b = true → t ∉ Stl.ments s ∨ f = t) ∧ wx = wc)
      case first =>
        cases has
        case false =>
          have HX := Lib.hid (show t ∉ Stl.ments s from fun h => by have := HS2.out.2 h; cases this)
          go_wp2_with fail
          go_meet
          case rel => exact ⟨true, rfl, Lib.hid (fun _ => .inl HX.out), rfl⟩
        case true =>
          by_cases he : f = t
          · subst he
            go_wp2_with fail
            go_meet
            case rel => exact ⟨true, rfl, Lib.hid (fun _ => .inr trivial), rfl⟩
          · have he2 : (f == t) = false := by rw [beq_eq_false_iff_ne]; exact he
            clear he
            go_wp2_with fail
            go_meet
            case rel => exact ⟨false, rfl, Lib.hid (fun h => by cases h), rfl⟩
      case rest =>
        obtain ⟨b, rfl, HP, rfl⟩ := hcut
        go_upto_if 101 with fail
        go_cut [14, 15] (fun _ _ wx => Below w.heap.size w wx)
        case first =>
          cases b
          case false =>
            go_wp2_with fail
            go_meet
            case rel => exact HB7.out
          case true =>
            go_wp2_with fail
            refine (Turn_any T t f _ pN pB (HN.out.later HB7.out) (HB.out.later HB7.out) (by omega) (by omega) (by omega)).mono ?_
            rintro e w8 ⟨rfl, hb8⟩
            have HB8 := Lib.hid (Below.more HB7.out hb8)
            clear hb8
            rw [show turnRes T t f pN pB = .tuple #[.string ⟨s.toArray⟩, .nilIface] by
              unfold turnRes
              rw [HA4.out (HP.out trivial), if_pos ⟨HT.out, HF.out⟩, if_neg (by omega)]]
            go_wp2_with fail
            go_meet
            case rel => exact HB8.out
        case rest =>
          have HB8 := Lib.hid hcut
          clear hcut
          go_wp2_with fail
          refine (Find_any s (by omega) _ [f, t] (by simp) _ (strs_lit wc [f, t] (by simp) 2)).mono ?_
          rintro e w9 ⟨v, rfl, hS9, hb9⟩
          have HB9 := Lib.hid (Below.more (Below.andAlloc HB8.out _) hb9)
          have HS9 := Lib.hid hS9
          clear hS9 hb9
          have k1 : ¬ 9223372036854775807 < s.length + 1 := by omega
          have k2 : ¬ 9223372036854775807 < s.length + 1 + m.length := by omega
          have k3 : ByteArray.mk s.toArray ++ ByteArray.mk #[32] = ByteArray.mk (s ++ [32]).toArray := ByteArray.mk_append_mk s [32]
          have k4 : ByteArray.mk (s ++ [32]).toArray ++ ByteArray.mk m.toArray = ByteArray.mk (s ++ [32] ++ m).toArray := ByteArray.mk_append_mk (s ++ [32]) m
          go_wp2_with fail
          refine (Find_any (s ++ 32 :: m) (by simp; omega) _ [f, t] (by simp) _ (strs_lit w9 [f, t] (by simp) 2)).mono ?_
          rintro e w10 ⟨v2, rfl, hS10, hb10⟩
          have HB10 := Lib.hid (Below.more (Below.andAlloc HB9.out _) hb10)
          have HS10 := Lib.hid hS10
          have HS9b := Lib.hid ((HS9.out.later (Below.alloc (Below.refl _ w9) (Nat.le_refl _) _)).later hb10)
          have HMo := Lib.hid (fun y => Stl.turns_more s m [f, t] y)
          have HL1 := Stl.found_length s [f, t]
          have HL2 := Stl.found_length (s ++ 32 :: m) [f, t]
          rw [List.length_append, List.length_cons] at HL2
          clear hS10 hb10 k1 k2 k3 k4 HS9
          generalize Stl.found s [f, t] = l at HS9b HL1 HMo
          generalize Stl.found (s ++ 32 :: m) [f, t] = l2 at HS10 HL2 HMo
          obtain ⟨A9, c9, rfl, _⟩ := id HS9b.out
          go_wp2_with fail
          go_loopw [18] (fun a wr => Below w.heap.size w wr ∧ Below w10.heap.size w10 wr ∧ ∃ k : Nat, k ≤ l.length ∧ a = .int .i64 k) (fun a _ => l.length - (intOf a).toNat)
          case atStart => exact ⟨HB10.out, Below.refl _ _, 0, Nat.zero_le _, rfl⟩
          case round =>
            obtain ⟨hb11, hb12, k, hk, rfl⟩ := hrel
            have HB11 := Lib.hid hb11
            have HB12 := Lib.hid hb12
            by_cases hkl : k < l.length
            · obtain ⟨b, off, rfl, hb, hc⟩ := (HS9b.out.later hb12).cellAt hkl
              clear hb11 hb12
              have n1 : (k : Int) < (l.length : Int) := by omega
              have n2 : (0 : Int) ≤ (k : Int) := by omega
              go_wp2_with fail
              refine (InTexts_any l[k] v2 l2 (by omega) _ (HS10.out.later HB12.out)).mono ?_
              rintro e w13 ⟨rfl, rfl⟩
              rw [show l2.contains l[k] = true from List.contains_iff_mem.2 (HMo.out _ (List.getElem_mem _))]
              go_wp2
              go_roundw
              case rel => exact ⟨HB11.out, HB12.out, k + 1, hkl, rfl⟩
              case measure => simp [intOf]; omega
            · have n1 : ¬ (k : Int) < (l.length : Int) := by omega
              go_wp2
              go_ret
              exact ⟨rfl, HB11.out⟩
#print axioms ScanTurns_any
end Go.Proofs.YtgmdifmokcnbpaaDoor
