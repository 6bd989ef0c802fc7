/- The walk of scan.Refs. -/
import Derived.Test.YtgmdifmokcnbpaaGreatDoorEach
import Derived.Test.YtgmdifmokcnbpaaGreatDoorTexts
import Derived.Test.YtgmdifmokcnbpaaGreatDoorApp
import Derived.Test.YtgmdifmokcnbpaaGreatDoorRefsPure
import Derived.Deep.RegionHeld3
import Derived.Deep.AppendLies
import Derived.Sort.OwnSorted
import Derived.Lib.OwnBridge
namespace Stl
/-- All names that are mentioned in these nodes, in order, with those that come again. -/
def reft (names : List Bytes) (l : List It) : List Bytes := (l.filter fun x => x.n.kind != kDir).flatMap fun x => found x.n.data names

theorem reft_append (names : List Bytes) (l m : List It) : reft names (l ++ m) = reft names l ++ reft names m := by simp [reft]
theorem reft_dir (names : List Bytes) (x : It) (h : x.n.kind = kDir) : reft names [x] = [] := by simp [reft, h]
theorem reft_other (names : List Bytes) (x : It) (h : x.n.kind ≠ kDir) : reft names [x] = found x.n.data names := by simp [reft, h]

theorem reft_length (names : List Bytes) : ∀ (l : List It), (∀ x ∈ l, x.n.data.length ≤ 2000) → (reft names l).length ≤ 2000 * l.length
  | [], _ => by simp [reft]
  | x :: r, h => by
    have ih := reft_length names r (fun y hy => h y (by simp [hy]))
    have hx := h x (by simp)
    have e : reft names (x :: r) = reft names [x] ++ reft names r := by rw [← reft_append]; rfl
    rw [e, List.length_append, List.length_cons]
    have : (reft names [x]).length ≤ 2000 := by
      by_cases hk : x.n.kind = kDir
      · rw [reft_dir names x hk]; simp
      · rw [reft_other names x hk]
        exact Nat.le_trans (found_length _ _) hx
    omega
end Stl
namespace Go.Proofs.YtgmdifmokcnbpaaGreatDoor
open Go.RowKit Go.Maps Go.Sort Go.Shelf

theorem infoS : ∃ i : TypeInfo, Tryz.prog.info? 9 = some i ∧ i.zero = some (.string ByteArray.empty) ∧ i.size = 1 ∧ i.bytes = 16 := by
  have h : (Tryz.prog.info? 9).map (fun i => (i.zero, i.size, i.bytes)) = some (some (.string ByteArray.empty), 1, 16) := by kernel_rfl
  cases hi : Tryz.prog.info? 9 with
  | none => rw [hi] at h; cases h
  | some i =>
    rw [hi] at h
    simp only [Option.map_some, Option.some.injEq, Prod.mk.injEq] at h
    exact ⟨i, rfl, h.1, h.2.1, h.2.2⟩

/-- While the nodes are gone through. -/
structure RSt (w0 W : World) (nv : Value) (b3 b5 : Nat) (names : List (List UInt8)) (pre : List Stl.It) : Prop where
  nms : W.heap[b3]? = some (.cells #[nv] 25 (0, 0))
  out : ∃ A c, W.heap[b5]? = some (.cells #[.slice A (Stl.reft names pre).length c] 25 (0, 0)) ∧ W.ownsRow w0.heap.size 9 1 (.slice A (Stl.reft names pre).length c) (Stl.reft names pre).length ((Stl.reft names pre).map encStr)
  strs0 : Strs w0 nv names
  old : w0.heap.size ≤ b5
  ne : b3 ≠ b5
  below : Below w0.heap.size w0 W

theorem RSt.strs {w0 W : World} {nv : Value} {b3 b5 : Nat} {names : List (List UInt8)} {pre : List Stl.It} (h : RSt w0 W nv b3 b5 names pre) : Strs W nv names := h.strs0.later h.below

theorem RSt.later {w0 W W' : World} {nv : Value} {b3 b5 : Nat} {names : List (List UInt8)} {pre : List Stl.It} (h : RSt w0 W nv b3 b5 names pre) (hb : Below W.heap.size W W') : RSt w0 W' nv b3 b5 names pre := by
  obtain ⟨A, c, h1, h2⟩ := h.out
  exact ⟨(hb.block _ (lt_of_block h.nms)).trans h.nms, ⟨A, c, (hb.block _ (lt_of_block h1)).trans h1, h2.kept (Below.toGrown hb none) (by cases Value.ownBlock (Value.slice A (Stl.reft names pre).length c) <;> simp)⟩, h.strs0, h.old, h.ne, h.below.trans (hb.mono h.below.size)⟩

/-- A row of texts is no block of another type. -/
theorem row_apart {W : World} {base : Nat} {v : Value} {n : Nat} {xs : List Value} (h : W.ownsRow base 9 1 v n xs) {b : Nat} {cs : Array Value} {T : TypeId} {fr : Nat × Nat} (hb : W.heap[b]? = some (.cells cs T fr)) (hT : T ≠ 9) : some b ≠ v.ownBlock := by
  intro e
  rcases h.2 with ⟨hv, _⟩ | ⟨g, cap, cur, hv, _, hg, _⟩
  · rw [hv] at e; simp [Value.ownBlock] at e
  · rw [hv] at e
    have : b = g := by simpa [Value.ownBlock] using e
    subst this
    rw [hb] at hg
    injection hg with hg
    injection hg with _ hg
    exact hT hg

theorem encStr_one (l : List (List UInt8)) : ∀ u ∈ l.map encStr, u.oneCell' = true := fun u hu => by
  obtain ⟨y, _, rfl⟩ := List.mem_map.1 hu
  rfl

theorem row_none {W : World} {base : Nat} {e : TypeId} {A : Option Addr} {n c : Nat} {xs : List Value} (h : W.ownsRow base e 1 (.slice A n c) n xs) : A = none → n = 0 ∧ c = 0 := by
  rintro rfl
  rcases h.2 with ⟨hv, h2⟩ | ⟨g, cap, cur, hv, _⟩
  · injection hv with _ _ h3
    exact ⟨h2, h3⟩
  · injection hv with h1
    cases h1

theorem row_cells {W : World} {base : Nat} {e : TypeId} {A : Option Addr} {n c : Nat} {xs : List Value} (h : W.ownsRow base e 1 (.slice A n c) n xs) : ∀ ad, A = some ad → ∀ j u, xs[j]? = some u → W.cell? (ad.add j) = some u := by
  rintro ad rfl j u hu
  rcases h.2 with ⟨hv, h2⟩ | ⟨g, cap, cur, hv, _⟩
  · injection hv with h1
    cases h1
  · injection hv with h1
    injection h1 with h1
    subst h1
    exact World.ownsRow.cells h (g := g) rfl j u hu

theorem refs1_end {w0 W W1 w2 w3 : World} {nv : Value} {b3 b5 : Nat} {names : List (List UInt8)} {pre : List Stl.It} {x : Stl.It} {Ao A3 : Option Addr} {co c3 : Nat} {acc fd : List (List UInt8)}
    (HS1 : RSt w0 W1 nv b3 b5 names pre) (HB : Below W.heap.size W W1) (HO1 : W1.heap[b5]? = some (.cells #[.slice Ao acc.length co] 25 (0, 0))) (HB2 : Below W1.heap.size W1 w2)
    (HO3 : w2.ownsRow w0.heap.size 9 1 (.slice Ao acc.length co) acc.length (acc.map encStr)) (HO4 : w3.ownsRow w0.heap.size 9 1 (.slice A3 (acc.length + fd.length) c3) (acc.length + fd.length) (acc.map encStr ++ fd.map encStr))
    (HG3 : w2.grownBy w3 (Value.slice Ao acc.length co).ownBlock) (HR : Stl.reft names (pre ++ [x]) = acc ++ fd) :
    RSt w0 (w3.setCell ⟨b5, 0, none⟩ (.slice A3 (acc.length + fd.length) c3)) nv b3 b5 names (pre ++ [x]) ∧ NKeep W (w3.setCell ⟨b5, 0, none⟩ (.slice A3 (acc.length + fd.length) c3)) := by
  have s2 := (HB2.block _ (lt_of_block HO1)).trans HO1
  have s3 := (HG3.block _ (lt_of_block s2) (row_apart HO3 s2 (by decide))).trans s2
  have n2 := (HB2.block _ (lt_of_block HS1.nms)).trans HS1.nms
  have n3 := (HG3.block _ (lt_of_block n2) (row_apart HO3 n2 (by decide))).trans n2
  have hz := HS1.below.size
  have hb2 : Below w0.heap.size w0 w2 := HS1.below.trans (HB2.mono hz)
  have hb3 : Below w0.heap.size w0 w3 := hb2.grown HG3 hb2.size (fun k hk => (HO3.lt k hk).1)
  refine ⟨⟨?_, ⟨A3, c3, ?_, ?_⟩, HS1.strs0, HS1.old, HS1.ne, hb3.setCell HS1.old _⟩, ?_⟩
  · rw [Below.heap_setCell _ _ _ _ HS1.ne]
    exact n3
  · rw [one_setCell s3, HR]
    simp
  · rw [HR, List.length_append, List.map_append]
    exact ownsRow_setCell_other HO4 (row_apart HO4 s3 (by decide)).symm _
  · intro k cs T fr hk h1 h2
    have k1 := (HB.block _ (lt_of_block hk)).trans hk
    have k2 := (HB2.block _ (lt_of_block k1)).trans k1
    have k3 := (HG3.block _ (lt_of_block k2) (row_apart HO3 k2 h1)).trans k2
    rw [Below.heap_setCell _ _ _ _ (by
      rintro rfl
      rw [s3] at k3
      injection k3 with k3
      injection k3 with _ k3
      exact h2 k3.symm)]
    exact k3

set_option maxHeartbeats 4000000 in
set_option maxRecDepth 100000 in
theorem refs1_any {w0 W : World} {nv : Value} {b3 b5 : Nat} {names : List (List UInt8)} {pre : List Stl.It} (x : Stl.It) (vs : List Value) (path : List UInt8) (h : RSt w0 W nv b3 b5 names pre) (W0 : World) (hn : NodeAt W0 x.n vs) 
    (hd : x.n.data.length ≤ 2000) (hp : (Stl.reft names pre).length ≤ 1000000) (hnm : names.length ≤ 1000000) :
    Calls Tryz.prog 28 (#[.agg vs.toArray, .string ⟨path.toArray⟩] ++ #[.pointer (some ⟨b5, 0, none⟩), .pointer (some ⟨b3, 0, none⟩)]) W (DoEnd (fun l W' => RSt w0 W' nv b3 b5 names l) (pre ++ [x]) W) := by
  obtain ⟨p', deep, n⟩ := x
  obtain ⟨k, d, e, ks⟩ := n
  obtain ⟨A, c, rfl, _, _⟩ := hn.open
  have HS := Lib.hid h
  have hb1 : Below W.heap.size W (W.alloc (.cells #[.string ⟨k.toArray⟩, .string ⟨d.toArray⟩, .bool e, .slice A ks.length c] 24)) := (Below.refl _ W).alloc (Nat.le_refl _) _
  have HS1 := Lib.hid (h.later hb1)
  clear h hn
  by_cases hk : k = Stl.kDir
  · have h1 : (k == [100, 105, 114]) = true := by rw [hk]; decide
    have HR := Lib.hid (show Stl.reft names (pre ++ [⟨p', deep, .mk k d e ks⟩]) = Stl.reft names pre by rw [Stl.reft_append, Stl.reft_dir names ⟨p', deep, .mk k d e ks⟩ hk, List.append_nil])
    have HB := Lib.hid hb1
    clear hk hb1
    go_enter Tryz.func28, Tryz.ntmps28
    go_wp2
    go_end0
    refine ⟨rfl, ?_, NKeep.of_below HB.out⟩
    obtain ⟨q1, q2, q3, q4, q5, q6⟩ := HS1.out
    exact ⟨q1, by rw [HR.out]; exact q2, q3, q4, q5, q6⟩
  · have h1 : (k == [100, 105, 114]) = false := by rw [beq_eq_false_iff_ne]; exact hk
    have HR := Lib.hid (show Stl.reft names (pre ++ [⟨p', deep, .mk k d e ks⟩]) = Stl.reft names pre ++ Stl.found d names by rw [Stl.reft_append, Stl.reft_other names ⟨p', deep, .mk k d e ks⟩ hk]; rfl)
    have hfl := Stl.found_length d names
    have HB := Lib.hid hb1
    obtain ⟨Ao, co, ho1, ho2⟩ := HS1.out.out
    generalize Stl.reft names pre = acc at HR ho1 ho2 hp
    have HO1 := Lib.hid ho1
    have HO2 := Lib.hid ho2
    have c5 := cell_of_one ho1
    have f5 := free_of_one ho1
    have c3 := cell_of_one HS1.out.nms
    have hbx := heap_alloc_new W (.cells #[.string ⟨k.toArray⟩, .string ⟨d.toArray⟩, .bool e, .slice A ks.length c] 24)
    have HBX := Lib.hid hbx
    have d1 := cell_of_row _ W.heap.size 1 _ _ _ hbx
    obtain ⟨i0, hi, hz0, hz1, hz2⟩ := infoS
    have Hi := Lib.hid hi
    have Hz0 := Lib.hid hz0
    have Hz1 := Lib.hid hz1
    have Hz2 := Lib.hid hz2
    simp only [Stl.Nd.data] at hd
    have hd2 : d.length ≤ 1000000 := by omega
    clear hk hb1 ho1 ho2 hi hz0 hz1 hz2 hbx
    go_enter Tryz.func28, Tryz.ntmps28
    go_upto_region 2 with fail
    generalize W.alloc (.cells #[.string ⟨k.toArray⟩, .string ⟨d.toArray⟩, .bool e, .slice A ks.length c] 24) = W1 at *
    go_region_law
      (first
        | (refine Stl.step_app _ (by rfl) (.tmp 9) (.tmp 13) 25 (by rfl) w0.heap.size 9 i0 (.string ByteArray.empty) 1 16 Tryz.underlying25 Hi.out Hz0.out Hz1.out Hz2.out rfl (by decide) (.slice Ao acc.length co) acc.length (acc.map encStr) (by rfl) HO3.out A2 (Stl.found d names).length c2 ((Stl.found d names).map encStr) (by rfl) (by simp) (row_none HRW2.out) (row_cells HRW2.out) (encStr_one _) (by unfold maxLen; omega) (by omega) (Nat.le_trans HS1.out.below.size HB2.out.size) ?_; intro A3 c3' w3 hown3 hgr3 _; have HO4 := Lib.hid hown3; have HG3 := Lib.hid hgr3; have s5 := (hgr3.cell_far ⟨b5, 0, none⟩ (Nat.lt_of_lt_of_le (lt_of_block HO1.out) HB2.out.size) (row_apart HO3.out ((HB2.out.block _ (lt_of_block HO1.out)).trans HO1.out) (by decide))).trans s5; have s1 := (hgr3.cell_far ⟨W.heap.size, 1, none⟩ (Nat.lt_of_lt_of_le (lt_of_block HBX.out) HB2.out.size) (row_apart HO3.out ((HB2.out.block _ (lt_of_block HBX.out)).trans HBX.out) (by decide))).trans s1; have s3 := (hgr3.cell_far ⟨b3, 0, none⟩ (Nat.lt_of_lt_of_le (lt_of_block HS1.out.nms) HB2.out.size) (row_apart HO3.out ((HB2.out.block _ (lt_of_block HS1.out.nms)).trans HS1.out.nms) (by decide))).trans s3; have fz := (hgr3.frozen_far ⟨b5, 0, none⟩ (Nat.lt_of_lt_of_le (lt_of_block HO1.out) HB2.out.size) (row_apart HO3.out ((HB2.out.block _ (lt_of_block HO1.out)).trans HO1.out) (by decide))).trans ((HB2.out.frozen (p := ⟨b5, 0, none⟩) (lt_of_block HO1.out)).trans f5); clear hown3 hgr3)
        | (go_simp; go_at_call 8; refine (Find_row d hd2 nv names hnm _ ?_).mono ?_; exact HS1.out.strs; rintro ev w2 ⟨v2, rfl, hrow2, hb2'⟩; have hb2 : Below W1.heap.size W1 w2 := ⟨hb2'.os, hb2'.tape, hb2'.output, hb2'.size, hb2'.block⟩; clear hb2'; obtain ⟨A2, c2, rfl⟩ := Stl.owns_slice _ hrow2; have HB2 := Lib.hid hb2; have HRW2 := Lib.hid hrow2; have HO3 := Lib.hid (HO2.out.kept (Below.toGrown HB2.out none) (by cases Value.ownBlock (Value.slice Ao acc.length co) <;> simp)); have s5 := (HB2.out.cell (p := ⟨b5, 0, none⟩) (lt_of_block HO1.out)).trans c5; have s1 := (HB2.out.cell (p := ⟨W.heap.size, 1, none⟩) (lt_of_block HBX.out)).trans d1; have s3 := (HB2.out.cell (p := ⟨b3, 0, none⟩) (lt_of_block HS1.out.nms)).trans c3; clear hb2 hrow2 c5 d1 c3)
        | fail)
    all_goals
      go_end0
      exact ⟨rfl, refs1_end HS1.out HB.out HO1.out HB2.out HO3.out HO4.out HG3.out HR.out⟩
#print axioms refs1_any

/-! ### slices.Sort and slices.Compact of a row that is owned -/
theorem SortRow_any (A : Option Addr) (c base : Nat) (l : List (List UInt8)) (hl : l.length ≤ 100000000) (w : World) (h : w.ownsRow base 9 1 (.slice A l.length c) l.length (l.map encStr)) :
    Calls Tryz.prog 29 #[.slice A l.length c] w fun e w' => e = .returned (.tuple #[]) ∧ w'.ownsRow base 9 1 (.slice A l.length c) l.length ((l.mergeSort leB).map encStr) ∧ w.grownBy w' (Value.slice A l.length c).ownBlock := by
  rcases h.2 with ⟨hv, h0⟩ | ⟨g, cap, cur, hv, hbase, hb, h1, h2, h3, h4⟩
  · have hn : l = [] := List.length_eq_zero_iff.1 h0
    subst hn
    refine (AnyM.slices_Sort_string_none Tryz.sortS A c w).mono ?_
    rintro e w' ⟨rfl, rfl⟩
    exact ⟨rfl, by simpa using h, rfl, rfl, rfl, Nat.le_refl _, fun _ _ _ => rfl⟩
  · injection hv with e1 e2 e3
    subst e1 e3
    refine (AnyM.slices_Sort_string Tryz.sortS g 0 c l w (holds_of_block hb (by simpa using h4)) (Array.getElem?_eq_some_iff.1 hb).1 (by omega)).mono ?_
    rintro e w' ⟨rfl, n, os, rfl⟩
    refine ⟨rfl, ownsRow_sorted (by simp) hbase hb h1 h2 h3, grownBy_sorted _⟩

theorem compact_length_le (l : List (List UInt8)) : (Lib.compact l).length ≤ l.length := by
  unfold Lib.compact
  have : ∀ (xs : Array (List UInt8)) m, (Lib.compactUpTo xs m).length ≤ m := by
    intro xs m
    induction m with
    | zero => simp [Lib.compactUpTo]
    | succ m ih =>
      rw [Lib.compactUpTo_succ]
      split
      · simp; omega
      · simp; omega
  exact this _ _

theorem CompactRow_any (A : Option Addr) (c base : Nat) (l : List (List UInt8)) (hl : l.length ≤ 100000000) (w : World) (h : w.ownsRow base 9 1 (.slice A l.length c) l.length (l.map encStr)) :
    Calls Tryz.prog 30 #[.slice A l.length c] w fun e w' => e = .returned (.slice A (Lib.compact l).length c) ∧ w'.ownsRow base 9 1 (.slice A (Lib.compact l).length c) (Lib.compact l).length ((Lib.compact l).map encStr) ∧ w.grownBy w' (Value.slice A l.length c).ownBlock := by
  rcases h.2 with ⟨hv, h0⟩ | ⟨g, cap, cur, hv, hbase, hb, h1, h2, h3, h4⟩
  · have hn : l = [] := List.length_eq_zero_iff.1 h0
    subst hn
    refine (Tryz.slices_Compact_string_empty A c w).mono ?_
    rintro e w' ⟨rfl, rfl⟩
    exact ⟨rfl, h, rfl, rfl, rfl, Nat.le_refl _, fun _ _ _ => rfl⟩
  · injection hv with e1 e2 e3
    subst e1 e3
    have hk := compact_length_le l
    refine (Tryz.slices_Compact_string g 0 c l w (holds_of_block hb (by simpa using h4)) (by omega) h1).mono ?_
    rintro e w' ⟨rfl, q, rfl⟩
    refine ⟨rfl, ?_, rfl, rfl, rfl, by simp [putRow, mapBlock, Sort.ahead], fun k hk hne => by
      have : g ≠ k := fun e => hne (by simp [Value.ownBlock, e])
      simp [putRow, mapBlock, Sort.ahead, Array.getElem?_modify, this]⟩
    have := Lib.ownsRow_putRow (q := q) (k := (Lib.compact l).length) (ys := Lib.compact l ++ List.replicate (l.length - (Lib.compact l).length) []) h (by simp; omega) hk
    simpa using this

theorem refs1_enters : ∀ args w, (callFunc 28 args).run Tryz.prog w = .ok (.enter 28 args) w := enters_of Tryz.func28 (by kernel_rfl) rfl

/-- What Refs hands back. -/
def RefsEnd (l : List (List UInt8)) (w : World) (e : Ending) (w' : World) : Prop := ∃ A c, e = .returned (.slice A l.length c) ∧ w'.ownsRow w.heap.size 9 1 (.slice A l.length c) l.length (l.map encStr) ∧ Below w.heap.size w w'

theorem refsIn_eq (n : Stl.Nd) (names : List (List UInt8)) : Stl.refsIn n names = Stl.insAll (Stl.reft names (Stl.items n)) [] := rfl

set_option maxHeartbeats 2000000 in
theorem Refs_any (p : Nat → Addr) (n : Stl.Nd) (vs : List Value) (nv : Value) (names : List (List UInt8)) (hnm : names.length ≤ 1000000) (w : World) (hE : Errs w p) (hn : NodeAt w n vs) (hs : Strs w nv names) :
    Calls Tryz.prog 10 #[.agg vs.toArray, nv] w (RefsEnd (Stl.refsIn n names) w) := by
  have HR := Lib.hid (refsIn_eq n names)
  generalize Stl.refsIn n names = res at HR
  have HE := Lib.hid hE
  have HN := Lib.hid hn
  have HS := Lib.hid hs
  obtain ⟨k, d, e, ks⟩ := n
  obtain ⟨A, c, rfl, _, _⟩ := hn.open
  obtain ⟨An, cn, rfl, _⟩ := id hs
  clear hE hn hs
  go_enter Tryz.func10, Tryz.ntmps10
  go_wp2_with fail
  have hbl : Below w.heap.size w (((w.alloc (.cells #[.string ⟨k.toArray⟩, .string ⟨d.toArray⟩, .bool e, .slice A ks.length c] 24)).alloc (.cells #[.slice An names.length cn] 25)).alloc (.cells #[.slice none 0 0] 25)) := below_alloc3 w _ _ _
  obtain ⟨k1, k2, k3⟩ := boxes3 w _ (.cells #[.string ⟨k.toArray⟩, .string ⟨d.toArray⟩, .bool e, .slice A ks.length c] 24) (.cells #[.slice An names.length cn] 25) (.cells #[.slice none 0 0] 25) (Below.refl _ _)
  have h0 : RSt w (((w.alloc (.cells #[.string ⟨k.toArray⟩, .string ⟨d.toArray⟩, .bool e, .slice A ks.length c] 24)).alloc (.cells #[.slice An names.length cn] 25)).alloc (.cells #[.slice none 0 0] 25)) (.slice An names.length cn) (w.heap.size + 1) (w.heap.size + 1 + 1) names [] :=
    ⟨k2, ⟨none, 0, k3, World.ownsRow_nil _ _ _ _⟩, HS.out, by omega, by omega, hbl⟩
  have h := Each_any p w HE.out (.mk k d e ks) _ HN.out 28 #[.pointer (some ⟨w.heap.size + 1 + 1, 0, none⟩), .pointer (some ⟨w.heap.size + 1, 0, none⟩)] refs1_enters
    (fun l W => RSt w W (.slice An names.length cn) (w.heap.size + 1) (w.heap.size + 1 + 1) names l) (fun pre W W' h hb => h.later hb) (fun pre W h => h.below)
    (fun ht pre x W vs hI hnx hr => by
      obtain ⟨i1, i2⟩ := Stl.items_well ht
      obtain ⟨rest, hr⟩ := hr
      have hx : ∀ y ∈ pre ++ [x], y.n.data.length ≤ 2000 := fun y hy => Stl.own_data (i2 y (by rw [← hr]; simp at hy ⊢; rcases hy with hy | hy <;> simp [hy])).1
      have hlen : pre.length ≤ 200 := by
        have := congrArg List.length hr
        simp at this
        omega
      have := Stl.reft_length names pre (fun y hy => hx y (by simp [hy]))
      exact refs1_any x vs (Stl.told x.path) hI w hnx (hx x (by simp)) (by omega) hnm) _ h0
  have hlen : (Stl.reft names (Stl.items (.mk k d e ks))).length ≤ 400000 := by
    unfold Stl.items
    split
    · rename_i ht
      obtain ⟨i1, i2⟩ := Stl.items_well ht
      have := Stl.reft_length names _ (fun y hy => Stl.own_data (i2 y hy).1)
      omega
    · simp [Stl.reft]
  refine h.mono ?_
  rintro ev w2 ⟨rfl, hI, _⟩
  obtain ⟨Ao, co, ho1, ho2⟩ := hI.out
  have HB2 := Lib.hid hI.below
  have HO2 := Lib.hid ho2
  have hsc := Stl.sort_compact (Stl.reft names (Stl.items (.mk k d e ks)))
  rw [← HR.out] at hsc
  have HL := Lib.hid hlen
  have c5 := cell_of_one ho1
  have HO1 := Lib.hid ho1
  clear h h0 k1 k2 k3 hbl hI ho1 ho2 HR hlen
  have HX := Lib.hid hsc
  clear hsc
  generalize Stl.reft names (Stl.items (.mk k d e ks)) = acc at HO2 HX c5 HL HO1
  go_wp2_with fail
  refine (SortRow_any Ao co w.heap.size acc (by have := HL.out; omega) _ HO2.out).mono ?_
  rintro ev w3 ⟨rfl, hr3, hb3⟩
  have s3 := (hb3.block _ (lt_of_block HO1.out) (row_apart HO2.out HO1.out (by decide))).trans HO1.out
  have HB3 := Lib.hid (HB2.out.grown hb3 HB2.out.size (fun k hk => (HO2.out.lt k hk).1))
  have hl3 : (acc.mergeSort leB).length = acc.length := List.length_mergeSort _
  rw [← hl3] at hr3
  have HR3 := Lib.hid hr3
  have HL3 := Lib.hid hl3
  clear hr3 hb3 c5
  have c5 : w3.cell? ⟨w.heap.size + 1 + 1, 0, none⟩ = some (.slice Ao (acc.mergeSort leB).length co) := by
    rw [HL3.out]
    exact cell_of_one s3
  clear hl3 s3
  have hl4 : (acc.mergeSort leB).length ≤ 100000000 := by rw [HL3.out]; have := HL.out; omega
  generalize acc.mergeSort leB = srt at HR3 HX c5 hl4
  go_wp2_with fail
  refine (CompactRow_any Ao co w.heap.size srt hl4 _ HR3.out).mono ?_
  rintro ev w4 ⟨rfl, hr4, hb4⟩
  have HB4 := Lib.hid (HB3.out.grown hb4 HB3.out.size (fun k hk => (HR3.out.lt k hk).1))
  rw [HX.out] at hr4 ⊢
  have HR4 := Lib.hid hr4
  clear hr4 hb4 c5
  go_wp2
  go_ret
  exact ⟨Ao, co, rfl, HR4.out, HB4.out⟩
#print axioms Refs_any
end Go.Proofs.YtgmdifmokcnbpaaGreatDoor
