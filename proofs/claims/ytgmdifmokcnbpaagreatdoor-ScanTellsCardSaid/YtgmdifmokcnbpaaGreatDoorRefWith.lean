/- The walk of the reference's With: a text more, of a rising list. -/
import Derived.Test.YtgmdifmokcnbpaaGreatDoorTexts
import Derived.Test.YtgmdifmokcnbpaaGreatDoorRefNames
import Derived.Laws.AppendOwnNone
import Derived.Deep.DeepCutAuto
import Derived.Deep.CutRange
namespace Go.Proofs.YtgmdifmokcnbpaaGreatDoor
open Go.RowKit Go.Maps Go.Sort Go.Shelf

/-- The value is nil or an owned row of these texts. -/
abbrev Row (w : World) (v : Value) (l : List (List UInt8)) : Prop := w.ownsRow 0 9 1 v l.length (l.map encStr)

theorem Row.later {w w' : World} {v : Value} {l : List (List UInt8)} (h : Row w v l) (hb : Below w.heap.size w w') : Row w' v l := by
  have hlt := World.ownsRow.lt h
  obtain ⟨h1, h2⟩ := h
  refine ⟨h1, ?_⟩
  rcases h2 with h2 | ⟨g, cap, cur, rfl, h3, h4, h5⟩
  · exact .inl h2
  · exact .inr ⟨g, cap, cur, rfl, h3, (hb.block g (hlt g rfl).2).trans h4, h5⟩

theorem ins_at : ∀ (l : List (List UInt8)) (x : List UInt8) (k : Nat), k ≤ l.length → (∀ j (h : j < l.length), j < k → l[j] < x) → (∀ h : k < l.length, ¬ l[k] < x) → Stl.ins x l = if l[k]? = some x then l else l.take k ++ x :: l.drop k
  | [], x, k, h1, _, _ => by
    have : k = 0 := by simpa using h1
    subst this
    simp [Stl.ins]
  | y :: r, x, 0, _, _, h3 => by
    have h := h3 (by simp)
    simp only [List.getElem_cons_zero] at h
    unfold Stl.ins
    rw [if_neg h]
    simp
  | y :: r, x, k + 1, h1, h2, h3 => by
    have h := h2 0 (by simp) (by omega)
    simp only [List.getElem_cons_zero] at h
    unfold Stl.ins
    rw [if_pos h]
    have ih := ins_at r x k (by simpa using h1) (fun j hj hk => by
      have := h2 (j + 1) (by simp; omega) (by omega)
      simpa using this) (fun hk => by
      have := h3 (by simp; omega)
      simpa using this)
    rw [ih]
    simp only [List.getElem?_cons_succ]
    split <;> simp

theorem infoStr : ∃ i : TypeInfo, Tryz.prog.info? 9 = some i ∧ i.zero = some (.string ByteArray.empty) ∧ i.size = 1 ∧ i.bytes = 16 := by
  have h : (Tryz.prog.info? 9).map (fun i => (i.zero, i.size, i.bytes)) = some (some (.string ByteArray.empty), 1, 16) := by kernel_rfl
  cases hi : Tryz.prog.info? 9 with
  | none => rw [hi] at h; cases h
  | some i =>
    rw [hi] at h
    simp only [Option.map_some, Option.some.injEq, Prod.mk.injEq] at h
    exact ⟨i, rfl, h.1, h.2.1, h.2.2⟩

theorem addr_flat {w : World} {g j : Nat} {u : Value} (h : w.cell? ((⟨g, 0, none⟩ : Addr).add j) = some u) : w.cell? ⟨g, j, none⟩ = some u := by
  by_cases hj : j = 0
  · subst hj; exact h
  · simpa [Addr.add, hj] using h

theorem addr_flat' {w : World} {g k j : Nat} {u : Value} (h : w.cell? ⟨g, k + j, none⟩ = some u) : w.cell? ((⟨g, k, none⟩ : Addr).add j) = some u := by
  by_cases hj : j = 0
  · subst hj; exact h
  · simpa [Addr.add, hj] using h

theorem below_grown2 {w w1 w2 : World} {o : Obj} {r : Option Nat} (h1 : w.grownBy w1 none) (h2 : (w1.alloc o).grownBy w2 r) (hr : ∀ b, r = some b → w.heap.size ≤ b) : Below w.heap.size w w2 := by
  refine Below.trans (b := w1.alloc o) ?_ ?_
  · exact Below.alloc ⟨h1.os, h1.tape, h1.output, h1.size, fun k hk => h1.block k hk (by simp)⟩ h1.size o
  · exact ⟨h2.os, h2.tape, h2.output, h2.size, fun k hk => h2.block k (Nat.lt_of_lt_of_le hk (Nat.le_trans h1.size (by simp))) (fun e => by have := hr k e.symm; omega)⟩

theorem below_own {w w2 w3 : World} {r : Option Nat} (h2 : w2.grownBy w3 r) (hs : w.heap.size ≤ w2.heap.size) (hr : ∀ b, r = some b → w.heap.size ≤ b) : Below w.heap.size w2 w3 :=
  ⟨h2.os, h2.tape, h2.output, h2.size, fun k hk => h2.block k (Nat.lt_of_lt_of_le hk hs) (fun e => by have := hr k e.symm; omega)⟩

theorem grownBy_self (w : World) (r : Option Nat) : w.grownBy w r := ⟨rfl, rfl, rfl, Nat.le_refl _, fun _ _ _ => rfl⟩

theorem row_base {w : World} {base n : Nat} {e : TypeId} {v : Value} {xs : List Value} (h : w.ownsRow base e 1 v n xs) : w.ownsRow 0 e 1 v n xs := by
  obtain ⟨h1, h2⟩ := h
  refine ⟨h1, ?_⟩
  rcases h2 with h2 | ⟨g, cap, cur, e, _, h3⟩
  · exact .inl h2
  · exact .inr ⟨g, cap, cur, e, Nat.zero_le _, h3⟩

theorem slice_if (c : Prop) [Decidable c] (a b : Addr) (n m : Nat) : Value.slice (if c then some a else some b) n m = Value.slice (some (if c then a else b)) n m := by
  split <;> rfl

set_option maxHeartbeats 2000000 in
theorem With_any (v : Value) (l : List (List UInt8)) (x : List UInt8) (hl : l.length ≤ 1000000) (w : World) (h : Row w v l) :
    Calls Tryz.prog 26 #[v, .string ⟨x.toArray⟩] w fun e w' => ∃ v', e = .returned v' ∧ Row w' v' (Stl.ins x l) ∧ Below w.heap.size w w' := by
  obtain ⟨g, cap, rfl⟩ | ⟨hv, hn⟩ : (∃ g cap, v = .slice (some ⟨g, 0, none⟩) l.length cap) ∨ (v = .slice none 0 0 ∧ l = []) := by
    rcases h.2 with ⟨rfl, h2⟩ | ⟨g, cap, cur, rfl, _⟩
    · exact .inr ⟨rfl, List.length_eq_zero_iff.1 h2⟩
    · exact .inl ⟨g, cap, rfl⟩
  · have HI := Lib.hid (ins_at l x)
    generalize Stl.ins x l = il at HI
    go_enter Tryz.func26, Tryz.ntmps26
    have HR := Lib.hid h
    clear h
    go_wp2_with fail
    go_loopw [5] (fun a wr => wr = w ∧ ∃ k : Nat, k ≤ l.length ∧ a = .int .i64 k ∧ Hid (∀ j (h : j < l.length), j < k → l[j] < x)) (fun a _ => l.length - (intOf a).toNat)
    case atStart => exact ⟨rfl, 0, Nat.zero_le _, rfl, Lib.hid (fun j _ h => by omega)⟩
    case round =>
      obtain ⟨rfl, k, hk, rfl, HP⟩ := hrel
      by_cases hkl : k < l.length
      · have n1 : (k : Int) < (l.length : Int) := by omega
        have n2 : (0 : Int) ≤ (k : Int) := by omega
        have hc : wr.cell? ⟨g, k, none⟩ = some (.string ⟨(l[k]).toArray⟩) := by
          have := HR.out.cells (g := g) rfl k (encStr l[k]) (by simp [hkl])
          by_cases hj : k = 0
          · subst hj; exact this
          · simpa [Addr.add, hj] using this
        by_cases hlt : l[k] < x
        · have HLT := Lib.hid hlt
          have hb : Op.bytesLess l[k] x = true := by rw [bytesLess_eq, decide_eq_true_iff]; exact hlt
          clear hlt
          go_wp2
          go_roundw
          case rel =>
            refine ⟨trivial, k + 1, hkl, rfl, Lib.hid (fun j hj hjk => ?_)⟩
            rcases Nat.lt_or_ge j k with h | h
            · exact HP.out j hj h
            · obtain rfl : j = k := by omega
              exact HLT.out
          case measure => simp [intOf]; omega
        · have HI2 := HI.out k hk HP.out (fun _ => hlt)
          have hb : Op.bytesLess l[k] x = false := by rw [bytesLess_eq, decide_eq_false_iff_not]; exact hlt
          clear hlt
          by_cases he : l[k] = x
          · have HE := Lib.hid (show il = l by rw [HI2, List.getElem?_eq_getElem hkl, he]; simp)
            have he2 : (l[k] == x) = true := by rw [beq_iff_eq]; exact he
            clear he HI2
            go_wp2
            go_ret
            exact ⟨_, rfl, by rw [HE.out]; exact HR.out, Below.refl _ _⟩
          · have HE := Lib.hid (show il = l.take k ++ x :: l.drop k by rw [HI2, List.getElem?_eq_getElem hkl]; simp [he])
            have he2 : (l[k] == x) = false := by rw [beq_eq_false_iff_ne]; exact he
            clear he HI2
            have hcap : l.length ≤ cap := by
              rcases HR.out.2 with ⟨e, _⟩ | ⟨_, _, _, e, _, _, h5, _⟩
              · cases e
              · injection e with _ _ e; omega
            have hcap2 : (k : Int) ≤ (cap : Int) := by omega
            go_upto_region 8 with fail
            obtain ⟨i0, hi, hz0, hz1, hz2⟩ := infoStr
            have hcs : ∀ j u, ((l.take k).map encStr)[j]? = some u → wr.cell? ((⟨g, 0, none⟩ : Addr).add j) = some u := fun j u hu => HR.out.cells (g := g) rfl j u (by
              rw [List.getElem?_map] at hu ⊢
              rw [List.getElem?_take] at hu
              split at hu
              · exact hu
              · cases hu)
            have hle : ((l.take k).map encStr).length = k * 1 := by simp; omega
            have HC := Lib.hid hcs
            have HLE := Lib.hid hle
            have Hi := Lib.hid hi
            have Hz0 := Lib.hid hz0
            have Hz1 := Lib.hid hz1
            have Hz2 := Lib.hid hz2
            clear hcs hle hi hz0 hz1 hz2 hb
            go_upto_region 9 with (at_builtin; refine wpList_append_own _ rfl _ _ 25 rfl wr.heap.size 9 i0 (.string ByteArray.empty) 1 16 Tryz.underlying25 Hi.out Hz0.out Hz1.out Hz2.out rfl (by decide) (.slice none 0 0) 0 [] rfl (World.ownsRow_nil _ _ _ _) ⟨g, 0, none⟩ k cap ((l.take k).map encStr) rfl HLE.out HC.out (fun u hu => by obtain ⟨y, _, rfl⟩ := List.mem_map.1 hu; rfl) (by unfold maxLen; omega) (by omega) (Nat.le_refl _) ?_; intro v1 w1 hown1 hg1 hv1)
            have HO1 := Lib.hid (hown1.alloc (.cells #[.string ⟨x.toArray⟩] 9))
            have HG1 := Lib.hid hg1
            clear hown1 hg1 hv1
            go_upto_region 10 with (at_builtin; refine wpList_append_own _ rfl _ _ 25 rfl wr.heap.size 9 i0 (.string ByteArray.empty) 1 16 Tryz.underlying25 Hi.out Hz0.out Hz1.out Hz2.out rfl (by decide) v1 (0 + k) _ rfl HO1.out ⟨w1.heap.size, 0, none⟩ 1 1 [.string ⟨x.toArray⟩] rfl rfl (cell_one_new _ _ _) (fun u hu => by simp at hu; subst hu; rfl) (by unfold maxLen; omega) (by omega) (Nat.le_trans HG1.out.size (by simp)) ?_; intro v2 w2 hown2 hg2 hv2)
            have HO2 := Lib.hid hown2
            have HB2 := Lib.hid (below_grown2 (o := .cells #[.string ⟨x.toArray⟩] 9) HG1.out hg2 (fun b hb => (HO1.out.lt b hb).1))
            clear hown2 hg2 hv2
            have hcs : ∀ j u, ((l.drop k).map encStr)[j]? = some u → w2.cell? ((⟨g, k, none⟩ : Addr).add j) = some u := fun j u hu => by
              rw [List.getElem?_map, List.getElem?_drop, ← List.getElem?_map] at hu
              have h1 := HR.out.cells (g := g) rfl (k + j) u hu
              have h2 : w2.cell? ⟨g, k + j, none⟩ = some u := by
                rw [HB2.out.cell (p := ⟨g, k + j, none⟩) ((World.ownsRow.lt HR.out) g rfl).2]
                exact addr_flat h1
              exact addr_flat' h2
            have HC2 := Lib.hid hcs
            clear hcs
            have HLE2 := Lib.hid (show ((l.drop k).map encStr).length = (l.length - k) * 1 by simp)
            go_wp2_with (at_builtin; go_loud (refine wpList_append_own _ rfl _ _ 25 rfl wr.heap.size 9 i0 (.string ByteArray.empty) 1 16 Tryz.underlying25 Hi.out Hz0.out Hz1.out Hz2.out rfl (by decide) v2 (0 + k + 1) _ rfl HO2.out ⟨g, k, none⟩ (l.length - k) (cap - k) ((l.drop k).map encStr) rfl HLE2.out HC2.out (fun u hu => by obtain ⟨y, _, rfl⟩ := List.mem_map.1 hu; rfl) (by unfold maxLen; omega) (by omega) HB2.out.size ?_); intro v3 w3 hown3 hg3 hv3)
            have HO3 := Lib.hid hown3
            have HB3 := Lib.hid (Below.trans HB2.out (below_own hg3 HB2.out.size (fun b hb => (HO2.out.lt b hb).1)))
            clear hown3 hg3 hv3
            go_ret
            refine ⟨v3, rfl, ?_, HB3.out⟩
            have e1 : (l.take k ++ x :: l.drop k).length = 0 + k + 1 + (l.length - k) := by simp; omega
            have e2 : (l.take k ++ x :: l.drop k).map encStr = ([] ++ (l.take k).map encStr) ++ [.string ⟨x.toArray⟩] ++ (l.drop k).map encStr := by simp
            show w3.ownsRow 0 9 1 v3 il.length (il.map encStr)
            rw [HE.out, e1, e2]
            exact row_base HO3.out
      · have n1 : ¬ (k : Int) < (l.length : Int) := by omega
        have HE := Lib.hid (show il = l.take k ++ x :: l.drop k by
          rw [HI.out k hk HP.out (fun h => absurd h hkl), List.getElem?_eq_none (by omega)]
          simp)
        have hcap : l.length ≤ cap := by
          rcases HR.out.2 with ⟨e, _⟩ | ⟨_, _, _, e, _, _, h5, _⟩
          · cases e
          · injection e with _ _ e; omega
        have hcap2 : (k : Int) ≤ (cap : Int) := by omega
        have n3 : (k : Int) ≤ (l.length : Int) := by omega
        have n4 : (0 : Int) ≤ (k : Int) := by omega
        go_upto_region 8 with fail
        obtain ⟨i0, hi, hz0, hz1, hz2⟩ := infoStr
        have hcs : ∀ j u, ((l.take k).map encStr)[j]? = some u → wr.cell? ((⟨g, 0, none⟩ : Addr).add j) = some u := fun j u hu => HR.out.cells (g := g) rfl j u (by
          rw [List.getElem?_map] at hu ⊢
          rw [List.getElem?_take] at hu
          split at hu
          · exact hu
          · cases hu)
        have hle : ((l.take k).map encStr).length = k * 1 := by simp; omega
        have HC := Lib.hid hcs
        have HLE := Lib.hid hle
        have Hi := Lib.hid hi
        have Hz0 := Lib.hid hz0
        have Hz1 := Lib.hid hz1
        have Hz2 := Lib.hid hz2
        clear hcs hle hi hz0 hz1 hz2
        go_upto_region 9 with (at_builtin; refine wpList_append_own _ rfl _ _ 25 rfl wr.heap.size 9 i0 (.string ByteArray.empty) 1 16 Tryz.underlying25 Hi.out Hz0.out Hz1.out Hz2.out rfl (by decide) (.slice none 0 0) 0 [] rfl (World.ownsRow_nil _ _ _ _) ⟨g, 0, none⟩ k cap ((l.take k).map encStr) rfl HLE.out HC.out (fun u hu => by obtain ⟨y, _, rfl⟩ := List.mem_map.1 hu; rfl) (by unfold maxLen; omega) (by omega) (Nat.le_refl _) ?_; intro v1 w1 hown1 hg1 hv1)
        have HO1 := Lib.hid (hown1.alloc (.cells #[.string ⟨x.toArray⟩] 9))
        have HG1 := Lib.hid hg1
        clear hown1 hg1 hv1
        go_upto_region 10 with (at_builtin; refine wpList_append_own _ rfl _ _ 25 rfl wr.heap.size 9 i0 (.string ByteArray.empty) 1 16 Tryz.underlying25 Hi.out Hz0.out Hz1.out Hz2.out rfl (by decide) v1 (0 + k) _ rfl HO1.out ⟨w1.heap.size, 0, none⟩ 1 1 [.string ⟨x.toArray⟩] rfl rfl (cell_one_new _ _ _) (fun u hu => by simp at hu; subst hu; rfl) (by unfold maxLen; omega) (by omega) (Nat.le_trans HG1.out.size (by simp)) ?_; intro v2 w2 hown2 hg2 hv2)
        have HO2 := Lib.hid hown2
        have HB2 := Lib.hid (below_grown2 (o := .cells #[.string ⟨x.toArray⟩] 9) HG1.out hg2 (fun b hb => (HO1.out.lt b hb).1))
        clear hown2 hg2 hv2
        have hcs : ∀ (ad : Addr) j u, ((l.drop k).map encStr)[j]? = some u → w2.cell? (ad.add j) = some u := fun ad j u hu => by
          rw [List.drop_of_length_le (by omega)] at hu
          simp at hu
        by_cases hck : cap = k
        · have hck2 : k = cap := hck.symm
          clear hck
          subst hck2
          have HC2 := Lib.hid hcs
          clear hcs
          have HLE2 := Lib.hid (show ((l.drop k).map encStr).length = (l.length - k) * 1 by simp)
          go_wp2_with (at_builtin; go_loud (refine wpList_append_own _ rfl _ _ 25 rfl wr.heap.size 9 i0 (.string ByteArray.empty) 1 16 Tryz.underlying25 Hi.out Hz0.out Hz1.out Hz2.out rfl (by decide) v2 (0 + k + 1) _ rfl HO2.out ⟨g, 0, none⟩ 0 0 [] rfl rfl (fun j u hu => by simp at hu) (fun u hu => by cases hu) (by unfold maxLen; omega) (by omega) HB2.out.size ?_); intro v3 w3 hown3 hg3 hv3)
          have HO3 := Lib.hid hown3
          have HB3 := Lib.hid (Below.trans HB2.out (below_own hg3 HB2.out.size (fun b hb => (HO2.out.lt b hb).1)))
          clear hown3 hg3 hv3
          go_ret
          refine ⟨v3, rfl, ?_, HB3.out⟩
          have e1 : (l.take k ++ x :: l.drop k).length = 0 + k + 1 + 0 := by simp; omega
          have e2 : (l.take k ++ x :: l.drop k).map encStr = ([] ++ (l.take k).map encStr) ++ [.string ⟨x.toArray⟩] ++ [] := by rw [List.drop_of_length_le (by omega)]; simp
          show w3.ownsRow 0 9 1 v3 il.length (il.map encStr)
          rw [HE.out, e1, e2]
          exact row_base HO3.out
        · have hck2 : ¬ cap = k := hck
          clear hck
          have HC2 := Lib.hid hcs
          clear hcs
          have HLE2 := Lib.hid (show ((l.drop k).map encStr).length = (l.length - k) * 1 by simp)
          go_wp2_with (at_builtin; go_loud (refine wpList_append_own _ rfl _ _ 25 rfl wr.heap.size 9 i0 (.string ByteArray.empty) 1 16 Tryz.underlying25 Hi.out Hz0.out Hz1.out Hz2.out rfl (by decide) v2 (0 + k + 1) _ rfl HO2.out ⟨g, k, none⟩ (l.length - k) (cap - k) ((l.drop k).map encStr) rfl HLE2.out (HC2.out _) (fun u hu => by obtain ⟨y, _, rfl⟩ := List.mem_map.1 hu; rfl) (by unfold maxLen; omega) (by omega) HB2.out.size ?_); intro v3 w3 hown3 hg3 hv3)
          have HO3 := Lib.hid hown3
          have HB3 := Lib.hid (Below.trans HB2.out (below_own hg3 HB2.out.size (fun b hb => (HO2.out.lt b hb).1)))
          clear hown3 hg3 hv3
          go_ret
          refine ⟨v3, rfl, ?_, HB3.out⟩
          have e1 : (l.take k ++ x :: l.drop k).length = 0 + k + 1 + (l.length - k) := by simp; omega
          have e2 : (l.take k ++ x :: l.drop k).map encStr = ([] ++ (l.take k).map encStr) ++ [.string ⟨x.toArray⟩] ++ (l.drop k).map encStr := by simp
          show w3.ownsRow 0 9 1 v3 il.length (il.map encStr)
          rw [HE.out, e1, e2]
          exact row_base HO3.out
  · subst hv hn
    have HE := Lib.hid (show Stl.ins x [] = [x] from rfl)
    generalize Stl.ins x [] = il at HE
    obtain ⟨i0, hi, hz0, hz1, hz2⟩ := infoStr
    have Hi := Lib.hid hi
    have Hz0 := Lib.hid hz0
    have Hz1 := Lib.hid hz1
    have Hz2 := Lib.hid hz2
    clear hi hz0 hz1 hz2 h
    go_enter Tryz.func26, Tryz.ntmps26
    go_wp2_with fail
    go_loopw [5] (fun a wr => wr = w ∧ a = .int .i64 0) (fun _ _ => 0)
    case atStart => exact ⟨rfl, rfl⟩
    case round =>
      obtain ⟨rfl, rfl⟩ := hrel
      go_upto_region 9 with (at_builtin; refine wpList_append_own_none rfl _ _ 25 rfl wr.heap.size 9 i0 1 Tryz.underlying25 Hi.out (.slice none 0 0) 0 [] rfl (World.ownsRow_nil _ _ _ _) rfl ?_)
      have HO1 := Lib.hid ((World.ownsRow_nil wr wr.heap.size 9 1).alloc (.cells #[.string ⟨x.toArray⟩] 9))
      go_upto_region 10 with (at_builtin; go_loud (refine wpList_append_own _ rfl _ _ 25 rfl wr.heap.size 9 i0 (.string ByteArray.empty) 1 16 Tryz.underlying25 Hi.out Hz0.out Hz1.out Hz2.out rfl (by decide) (.slice none 0 0) 0 [] rfl HO1.out ⟨wr.heap.size, 0, none⟩ 1 1 [.string ⟨x.toArray⟩] rfl rfl (cell_one_new _ _ _) (fun u hu => by simp at hu; subst hu; rfl) (by unfold maxLen; omega) (by omega) (by simp) ?_); intro v2 w2 hown2 hg2 hv2)
      have HO2 := Lib.hid hown2
      have HB2 := Lib.hid (below_grown2 (o := .cells #[.string ⟨x.toArray⟩] 9) (grownBy_self wr none) hg2 (fun b hb => by cases hb))
      clear hown2 hg2 hv2
      go_wp2_with (at_builtin; go_loud (refine wpList_append_own_none rfl _ _ 25 rfl wr.heap.size 9 i0 1 Tryz.underlying25 Hi.out v2 (0 + 1) _ rfl HO2.out rfl ?_))
      go_ret
      refine ⟨v2, rfl, ?_, HB2.out⟩
      show w2.ownsRow 0 9 1 v2 il.length (il.map encStr)
      rw [HE.out]
      exact row_base HO2.out
#print axioms With_any
end Go.Proofs.YtgmdifmokcnbpaaGreatDoor
