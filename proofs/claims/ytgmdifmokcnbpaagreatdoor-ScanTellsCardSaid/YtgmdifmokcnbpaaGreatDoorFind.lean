/- The walk of scan.Find, and of what it does at each mention. -/
import Derived.Test.YtgmdifmokcnbpaaGreatDoorTurn
import Derived.Test.YtgmdifmokcnbpaaGreatDoorRisePure
import Derived.Handy
import Derived.OwnWalkIn
import Derived.TacticsInMore
import Derived.Maps.OwnSet
import Derived.Sort.KeysCollected
import Derived.Maps.AppendAt
import Derived.Shelf.SlIter.Nil
import Derived.Shelf.SortM.Plain
import Derived.Shelf.SortM.SortNone
namespace Go.Proofs.YtgmdifmokcnbpaaGreatDoor
open Go.RowKit Go.Maps Go.Sort Go.Shelf

/-! ### texts in memory -/
/-- A slice that reads as these texts. -/
def Strs (w : World) (v : Value) (l : List (List UInt8)) : Prop :=
  ∃ A c, v = .slice A l.length c ∧ (l ≠ [] → ∃ b off, A = some ⟨b, off, none⟩ ∧ b < w.heap.size ∧ ∀ (j : Nat) x, l[j]? = some x → w.cell? ⟨b, off + j, none⟩ = some (.string ⟨x.toArray⟩))

theorem Strs.later {w w' : World} {v : Value} {l : List (List UInt8)} (h : Strs w v l) (hb : Below w.heap.size w w') : Strs w' v l := by
  obtain ⟨A, c, rfl, h1⟩ := h
  refine ⟨A, c, rfl, fun hn => ?_⟩
  obtain ⟨b, off, rfl, hlt, hc⟩ := h1 hn
  exact ⟨b, off, rfl, Nat.lt_of_lt_of_le hlt hb.size, fun j x hx => (hb.cell (p := ⟨b, off + j, none⟩) hlt).trans (hc j x hx)⟩

/-- slices.Contains of texts. -/
theorem Contains_any (v : Value) (l : List (List UInt8)) (x : List UInt8) (w : World) (h : Strs w v l) (hl : l.length ≤ 9223372036854775807) :
    Calls Tryz.prog 20 #[v, .string ⟨x.toArray⟩] w fun e w' => e = .returned (.bool (l.contains x)) ∧ w' = w := by
  obtain ⟨A, c, rfl, h1⟩ := h
  by_cases hn : l = []
  · subst hn
    exact Tryz.slices_Contains_string_empty A c ⟨x.toArray⟩ w
  · obtain ⟨b, off, rfl, hlt, hc⟩ := h1 hn
    have hz : (l.map fun x => (⟨x.toArray⟩ : ByteArray)).length = l.length := by simp
    have := Tryz.slices_Contains_string b off l.length c (l.map fun x => ⟨x.toArray⟩) ⟨x.toArray⟩ w (by simp) hl (fun j hj => by
      rw [hz] at hj
      rw [hc j (l[j]) (List.getElem?_eq_getElem hj)]
      simp [List.getD_eq_getElem?_getD, hj])
    have e : Lib.containsS ((l.map fun x => (⟨x.toArray⟩ : ByteArray)).take l.length) ⟨x.toArray⟩ = l.contains x := by
      rw [List.take_of_length_le (by simp), Bool.eq_iff_iff, Lib.containsS_iff, List.contains_iff_mem]
      simp
    rw [e] at this
    exact this

/-! ### a set of texts -/
/-- Block b is a map with a true entry at each text of these, and no other. -/
def SetAt (w : World) (b n : Nat) (acc : List (List UInt8)) : Prop :=
  ∃ D : DataW Unit, w.ownsMap Tryz.prog 9 (plainElem Tryz.prog 4) b n D ∧ ∀ x, Maps.has D (.string x) = true ↔ x ∈ acc

theorem key_string (x : List UInt8) : WideAt.IsKeyLit (Lit.string x) := by trivial

theorem has_put_str {D : DataW Unit} (hD : Maps.IsMap D) (x y : List UInt8) (d : DataW Unit) : Maps.has (D.put (.string x) d) (.string y) = true ↔ y = x ∨ Maps.has D (.string y) = true := by
  by_cases h : y = x
  · subst h
    simp [Maps.has_put_same hD (key_string y)]
  · rw [Maps.has_put_other (fun e => h (by injection e)) d]
    simp [h]

theorem ownsMap_later {w w' : World} {k : TypeId} {R : Value → Option (DataW Unit × List MemPlace)} {b n : Nat} {D : DataW Unit} (h : w.ownsMap Tryz.prog k R b n D) (hb : Below w.heap.size w w') : w'.ownsMap Tryz.prog k R b n D := by
  have hl := h.lt
  obtain ⟨es, clock, h1, h2⟩ := h
  exact ⟨es, clock, (hb.block b hl).trans h1, h2⟩

theorem SetAt.later {w w' : World} {b n : Nat} {acc : List (List UInt8)} (h : SetAt w b n acc) (hb : Below w.heap.size w w') : SetAt w' b n acc := by
  obtain ⟨D, h1, h2⟩ := h
  exact ⟨D, ownsMap_later h1 hb, h2⟩

/-- Rising texts with the members of a set are its keys, sorted. -/
theorem set_sorted {w : World} {b n : Nat} {D : DataW Unit} {acc ss m : List (List UInt8)} (h1 : w.ownsMap Tryz.prog 9 (plainElem Tryz.prog 4) b n D) (h2 : ∀ x, Maps.has D (.string x) = true ↔ x ∈ acc)
    (hm : Stl.Rise m) (hma : ∀ x, x ∈ m ↔ x ∈ acc) (hss : ss.Perm (strKeys D)) : ss.mergeSort (fun x y => decide (x ≤ y)) = m := by
  obtain ⟨es, hD, hpw, _⟩ := h1.entries (string_keyed Tryz.underlying9)
  obtain ⟨es', hD', hko⟩ := h1.keysOf
  obtain rfl : es = es' := by rw [hD] at hD'; simpa using hD'
  subst hD
  have hnd : m.Nodup := List.Pairwise.imp (R := (· < ·)) (S := (· ≠ ·)) (fun {a b} h (e : a = b) => Stl.blt_irrefl a (e ▸ h)) hm
  have hp : m.Perm (strKeys (.map es)) := perm_strKeys hpw (fun p hp => by obtain ⟨v, hv⟩ := hko p hp; obtain ⟨x, _, hx, _⟩ := Maps.keyOf_str Tryz.underlying9 hv; exact ⟨x, hx⟩) hnd (fun x => by rw [hma, h2])
  rw [show (fun x y : List UInt8 => decide (x ≤ y)) = leB from rfl, mergeSort_of_perm (hss.trans hp.symm)]
  refine List.mergeSort_of_pairwise (hm.imp fun h => ?_)
  simpa using List.le_of_lt h

theorem Strs.grown {w w' : World} {v : Value} {l : List (List UInt8)} {b n : Nat} {acc : List (List UInt8)} (h : Strs w v l) (hs : SetAt w b n acc) (hg : w.grownBy w' (some b)) : Strs w' v l := by
  obtain ⟨D, ⟨es, clock, hb, _⟩, _⟩ := hs
  obtain ⟨A, c, rfl, h1⟩ := h
  refine ⟨A, c, rfl, fun hn => ?_⟩
  obtain ⟨g, off, rfl, hlt, hc⟩ := h1 hn
  refine ⟨g, off, rfl, Nat.lt_of_lt_of_le hlt hg.size, fun j x hx => ?_⟩
  have := hc j x hx
  have hne : g ≠ b := by
    rintro rfl
    simp [World.cell?, hb] at this
  rw [World.cell?_of_block (hg.block g hlt (fun e => hne (by injection e)))]
  exact this

/-! ### what is done at each mention -/
structure FSt (w0 W : World) (nv : Value) (b1 b2 b3 : Nat) (names : List (List UInt8)) (pre : List (Nat × List UInt8)) : Prop where
  nms : W.heap[b1]? = some (.cells #[nv] 25 (0, 0))
  box : W.heap[b3]? = some (.cells #[.map (some b2)] 47 (0, 0))
  strs : Strs W nv names
  set : SetAt W b2 pre.length ((pre.map (·.2)).filter fun w => Stl.isName w && names.contains w)
  old : w0.heap.size ≤ b2
  below : Below w0.heap.size w0 W

theorem FSt.later {w0 W W' : World} {nv : Value} {b1 b2 b3 : Nat} {names : List (List UInt8)} {pre : List (Nat × List UInt8)} (h : FSt w0 W nv b1 b2 b3 names pre) (hb : Below W.heap.size W W') : FSt w0 W' nv b1 b2 b3 names pre :=
  ⟨(hb.block _ (lt_of_block h.nms)).trans h.nms, (hb.block _ (lt_of_block h.box)).trans h.box, h.strs.later hb, h.set.later hb, h.old, h.below.trans (hb.mono h.below.size)⟩

theorem FSt.more {w0 W W' : World} {nv : Value} {b1 b2 b3 : Nat} {names : List (List UInt8)} {pre : List (Nat × List UInt8)} {m : Nat × List UInt8} (h : FSt w0 W nv b1 b2 b3 names pre) (hw : (Stl.isName m.2 && names.contains m.2) = false) (hb : Below W.heap.size W W') :
    FSt w0 W' nv b1 b2 b3 names (pre ++ [m]) := by
  have h' := h.later hb
  refine ⟨h'.nms, h'.box, h'.strs, ?_, h'.old, h'.below⟩
  obtain ⟨D, h1, h2⟩ := h'.set
  refine ⟨D, h1.mono (by simp), fun x => ?_⟩
  rw [h2]
  rw [List.map_append, List.filter_append, List.map_cons, List.map_nil, List.filter_cons, hw]
  simp

set_option maxHeartbeats 1000000 in
theorem find1_any {w0 W : World} {nv : Value} {b1 b2 b3 : Nat} {names : List (List UInt8)} {pre : List (Nat × List UInt8)} (at_ : Nat) (wd : List UInt8) (h : FSt w0 W nv b1 b2 b3 names pre) (hpre : pre.length < 1000000) (hwd : wd.length ≤ 1000000) (hn : names.length ≤ 1000000) :
    Calls Tryz.prog 18 #[.int .i64 at_, .string ⟨wd.toArray⟩, .pointer (some ⟨b1, 0, none⟩), .pointer (some ⟨b3, 0, none⟩)] W fun e W' => e = .returned (.tuple #[]) ∧ FSt w0 W' nv b1 b2 b3 names (pre ++ [(at_, wd)]) := by
  have HS := Lib.hid h
  clear h
  go_enter Tryz.func18, Tryz.ntmps18
  cases hn1 : Stl.isName wd
  · go_wp2_with fail
    refine (Name_any _ _ (by omega)).mono ?_
    rintro e w1 ⟨rfl, hb⟩
    rw [hn1]
    have HB := Lib.hid hb
    clear hb
    go_wp2
    go_end0
    exact ⟨rfl, HS.out.more (m := (at_, wd)) (by simp [hn1]) HB.out⟩
  · go_wp2_with fail
    refine (Name_any _ _ (by omega)).mono ?_
    rintro e w1 ⟨rfl, hb⟩
    rw [hn1]
    have HS1 := Lib.hid (HS.out.later hb)
    clear hb HS
    have c1 := cell_of_one HS1.out.nms
    cases hn2 : names.contains wd
    · go_wp2_with fail
      refine (Contains_any _ _ _ _ HS1.out.strs (by omega)).mono ?_
      rintro e w2 ⟨rfl, rfl⟩
      rw [hn2]
      go_wp2
      go_end0
      exact ⟨rfl, HS1.out.more (m := (at_, wd)) (by show (Stl.isName wd && names.contains wd) = false; rw [hn1, hn2]; rfl) (Below.refl _ _)⟩
    · go_wp2_with fail
      refine (Contains_any _ _ _ _ HS1.out.strs (by omega)).mono ?_
      rintro e w2 ⟨rfl, rfl⟩
      rw [hn2]
      have c3 := cell_of_one HS1.out.box
      obtain ⟨D, hown, hD⟩ := HS1.out.set
      have HD := Lib.hid hD
      have HO := Lib.hid hown
      have HK := Lib.hid (WideMaps.keyOf_string_mk (P := Tryz.prog) Tryz.underlying9 (show (ByteArray.mk wd.toArray).size ≤ maxLen by simp [ByteArray.size, maxLen]; omega))
      clear hD
      go_wp2_with (at_mapUpdate; refine wpList_mapUpdate_own _ rfl _ _ _ 47 rfl 9 4 (string_keyed Tryz.underlying9) Tryz.underlying47 _ b2 pre.length _ rfl HO.out (by unfold maxLen; omega) _ _ (Lit.string wd) rfl rfl HK.out _ [] (plainElem_bool Tryz.underlying4 true) ?_; intro w3 hown3 hg3)
      have hne1 : b1 ≠ b2 := by
        rintro rfl
        obtain ⟨es, clock, hb, _⟩ := HO.out
        rw [HS1.out.nms] at hb
        cases hb
      have hne3 : b3 ≠ b2 := by
        rintro rfl
        obtain ⟨es, clock, hb, _⟩ := HO.out
        rw [HS1.out.box] at hb
        cases hb
      have hS := HS1.out
      go_end0
      refine ⟨rfl, (hg3.block _ (lt_of_block hS.nms) (fun e => hne1 (by injection e))).trans hS.nms, (hg3.block _ (lt_of_block hS.box) (fun e => hne3 (by injection e))).trans hS.box, hS.strs.grown hS.set hg3, ⟨_, by simpa using hown3, fun x => ?_⟩, hS.old, hS.below.trans ⟨hg3.os, hg3.tape, hg3.output, hg3.size, fun k hk => hg3.block k (Nat.lt_of_lt_of_le hk hS.below.size) (fun e => by injection e with e; have := hS.old; omega)⟩⟩
      rw [has_put_str hown.isMap, HD.out, List.map_append, List.filter_append, List.map_cons, List.map_nil, List.filter_cons, hn1, hn2]
      simp [or_comm]
#print axioms find1_any

/-! ### the keys of a set, sorted -/
theorem sorts_any (m : Nat) : AnyZ.SortsIn Tryz.prog Tryz.sortedS_ren Fence.wide m :=
  ⟨fun blk off cap ss W hH hblk hsz => callsIn_wide.2 (AnyM.slices_Sort_string Tryz.sortS blk off cap ss W hH hblk hsz),
   fun p cap W => callsIn_wide.2 (AnyM.slices_Sort_string_none Tryz.sortS p cap W)⟩

theorem keys_any (mb : Option Nat) (W : World) : Calls Tryz.prog 22 #[.map mb] W fun e w' => e = .returned (.func (.func 43) #[] #[.pointer (some ⟨W.heap.size, 0, none⟩)]) ∧ w' = W.alloc (.cells #[.map mb] 47) :=
  callsIn_wide.1 (AnyZ.keys_in Tryz.keysMSB Fence.wide 5 trivial rfl mb W)

set_option maxHeartbeats 1000000 in
theorem sorted_any (b nn : Nat) (D0 : DataW Unit) (R : Value → Option (DataW Unit × List MemPlace)) (w : World) (hown : w.ownsMap Tryz.prog 9 R b nn D0) (hmax : Maps.size D0 ≤ maxLen) (hbytes : Maps.size D0 * 16 ≤ 140737488355328) :
    Calls Tryz.prog 21 #[.func (.func 43) #[] #[.pointer (some ⟨w.heap.size, 0, none⟩)]] (w.alloc (.cells #[.map (some b)] 47)) fun e w' => ∃ (v : Value) (ss : List (List UInt8)), e = .returned v ∧ ss.Perm (strKeys D0) ∧
      w'.ownsRow (w.alloc (.cells #[.map (some b)] 47)).heap.size 9 1 v ss.length ((ss.mergeSort (fun x y => decide (x ≤ y))).map encStr) ∧ (v = .slice none 0 0 ↔ ss = []) ∧ Below (w.alloc (.cells #[.map (some b)] 47)).heap.size (w.alloc (.cells #[.map (some b)] 47)) w' := by
  have hbl := hown.lt
  have hseq : SeqGives Fence.wide 2 Tryz.prog 43 #[.pointer (some ⟨w.heap.size, 0, none⟩)] encStr (fun ss => ss.Perm (strKeys D0)) (Maps.size D0) (w.alloc (.cells #[.map (some b)] 47)) :=
    AnyZ.keys_gives (ρ := Tryz.keysMSB_ren) { Tryz.keysMSB with } Fence.wide _ trivial rfl (by omega) w.heap.size b nn D0 _ (by simp) (by simp) (by
      obtain ⟨es, clock, hb, Ft, hs, hD⟩ := hown
      exact ⟨es, clock, (Below.heap_alloc _ _ b hbl).trans hb, Ft, hs, hD⟩)
  exact callsIn_wide.1 (AnyZ.sorted_in Tryz.sortedS Fence.wide 5 trivial trivial trivial trivial rfl (by omega) (sorts_any _) (enters_of Tryz.func29 (by kernel_rfl) rfl) 43 #[.pointer (some ⟨w.heap.size, 0, none⟩)] trivial (enters_of Tryz.func43 (by kernel_rfl) rfl) _ _ hmax hbytes _ hseq)

/-- A row of texts reads as these texts. -/
theorem strs_of_row {w : World} {base : Nat} {v : Value} {n : Nat} {l : List (List UInt8)} (h : w.ownsRow base 9 1 v n (l.map encStr)) : Strs w v l := by
  have hc := @World.ownsRow.cells _ _ _ _ _ _ _ h
  have hlt := h.lt
  obtain ⟨h1, h2⟩ := h
  have hn : n = l.length := by simpa using h1.symm
  subst hn
  rcases h2 with ⟨rfl, h2⟩ | ⟨g, cap, cur, rfl, h2⟩
  · refine ⟨none, 0, ?_, fun hne => ?_⟩
    · rw [h2]
    · exact absurd (List.length_eq_zero_iff.1 h2) hne
  · refine ⟨_, cap, rfl, fun hne => ⟨g, 0, rfl, (hlt g rfl).2, fun j x hx => ?_⟩⟩
    have := hc (g := g) rfl j (encStr x) (by simp [hx])
    show w.cell? ⟨g, 0 + j, none⟩ = _
    by_cases hj : j = 0
    · subst hj; exact this
    · simpa [Addr.add, hj] using this

/-! ### Find -/
theorem mentsAt_bound {l : List UInt8} {pre : List (Nat × List UInt8)} {at_ : Nat} {wd : List UInt8} (h : ∃ rest, pre ++ (at_, wd) :: rest = Stl.mentsAt 0 l) : pre.length < l.length := by
  obtain ⟨rest, h⟩ := h
  have := Stl.mentsAt_length 0 l
  rw [← h] at this
  simp at this
  omega

theorem word_le (l : List UInt8) : (Stl.word l).length ≤ l.length := by
  unfold Stl.word
  exact (List.takeWhile_prefix _).length_le

theorem find1_enters (args : Array Value) (w : World) : (callFunc 18 args).run Tryz.prog w = .ok (.enter 18 args) w := enters_of Tryz.func18 (by kernel_rfl) rfl args w

theorem find_ments {w0 W : World} {nv : Value} {b1 b2 b3 : Nat} {names : List (List UInt8)} {l : List UInt8} (hF : FSt w0 W nv b1 b2 b3 names []) (hl : l.length ≤ 1000000) (hn : names.length ≤ 1000000) :
    Calls Tryz.prog 17 #[.string ⟨l.toArray⟩, .func (.func 18) #[] #[.pointer (some ⟨b1, 0, none⟩), .pointer (some ⟨b3, 0, none⟩)]] W fun e W' => e = .returned (.tuple #[]) ∧ FSt w0 W' nv b1 b2 b3 names (Stl.mentsAt 0 l) := by
  refine mentions_any l (by omega) _ _ find1_enters (fun pre W => FSt w0 W nv b1 b2 b3 names pre) (fun pre W W' h hb => h.later hb) ?_ W hF
  intro pre at_ W1 h1 hat hr
  have hp := mentsAt_bound hr
  have hw := word_le (l.drop at_)
  rw [List.length_drop] at hw
  exact find1_any at_ (Stl.word (l.drop at_)) h1 (by omega) (by omega) hn

set_option maxHeartbeats 1000000 in
theorem Find_row (l : List UInt8) (hl : l.length ≤ 1000000) (nv : Value) (names : List (List UInt8)) (hn : names.length ≤ 1000000) (w : World) (hs : Strs w nv names) :
    Calls Tryz.prog 8 #[.string ⟨l.toArray⟩, nv] w fun e w' => ∃ v, e = .returned v ∧ w'.ownsRow 0 9 1 v (Stl.found l names).length ((Stl.found l names).map encStr) ∧ Below w.heap.size w w' := by
  have hmm := @run_makeMap Tryz.prog
  obtain ⟨A, c, rfl, h1⟩ := id hs
  clear h1
  go_enter Tryz.func8, Tryz.ntmps8
  have HSt := Lib.hid hs
  clear hs
  go_wp2_with fail
  have h0 : FSt w (((w.alloc (.cells #[.slice A names.length c] 25)).alloc (.map #[] 0)).alloc (.cells #[.map (some (w.heap.size + 1))] 47)) (.slice A names.length c) w.heap.size (w.heap.size + 1) (w.heap.size + 1 + 1) names [] := by
    have hbl : Below w.heap.size w (((w.alloc (.cells #[.slice A names.length c] 25)).alloc (.map #[] 0)).alloc (.cells #[.map (some (w.heap.size + 1))] 47)) := below_alloc3 w _ _ _
    obtain ⟨k1, k2, k3⟩ := boxes3 w _ (.cells #[.slice A names.length c] 25) (.map #[] 0) (.cells #[.map (some (w.heap.size + 1))] 47) (Below.refl _ _)
    refine ⟨k1, k3, HSt.out.later hbl, ?_, by omega, hbl⟩
    · refine ⟨.map [], ?_, fun x => by simp [Maps.has]⟩
      have := World.ownsMap_made (H := Unit) (w.alloc (.cells #[.slice A names.length c] 25)) Tryz.prog 9 (plainElem Tryz.prog 4)
      have := this.alloc (.cells #[.map (some (w.heap.size + 1))] 47)
      simpa using this
  refine (find_ments h0 hl hn).mono ?_
  rintro e w1 ⟨rfl, hF⟩
  have c3 := cell_of_one hF.box
  obtain ⟨D, hown, hD⟩ := hF.set
  have HD := Lib.hid hD
  have HF := Lib.hid hF
  have HO := Lib.hid hown
  clear hD hF hown h0
  have hk := Stl.mentsAt_length 0 l
  have hz := HO.out.size_le
  have HK := Lib.hid hk
  have HZ := Lib.hid hz
  clear hk hz HSt hmm
  go_wp2_with (first
    | (go_at_call 22; refine (keys_any _ _).mono ?_; rintro e w' ⟨rfl, rfl⟩)
    | (go_at_call 21; refine (sorted_any (w.heap.size + 1) _ D _ w1 HO.out (by have := HK.out; have := HZ.out; unfold maxLen; omega) (by have := HK.out; have := HZ.out; omega)).mono ?_; rintro e w2 ⟨v, ss, rfl, hss, hrow, hnil, hb⟩))
  have hm : ss.mergeSort (fun x y => decide (x ≤ y)) = Stl.found l names := set_sorted HO.out HD.out (Stl.rise_insAll _ _ Stl.rise_nil) (fun x => by
    unfold Stl.found
    rw [Stl.mem_insAll, Stl.mentsAt_words]
    simp) hss
  have hlen : ss.length = (Stl.found l names).length := by rw [← hm, List.length_mergeSort]
  rw [hm, hlen] at hrow
  have hS : w2.ownsRow 0 9 1 v (Stl.found l names).length ((Stl.found l names).map encStr) := by
    obtain ⟨k1, k2⟩ := hrow
    refine ⟨k1, ?_⟩
    rcases k2 with k2 | ⟨g, cap, cur, k3, _, k4⟩
    · exact .inl k2
    · exact .inr ⟨g, cap, cur, k3, Nat.zero_le _, k4⟩
  have hB : Below w.heap.size w w2 := HF.out.below.trans (((Below.alloc (Below.refl _ w1) (Nat.le_refl _) _).trans (hb.mono (by simp))).mono HF.out.below.size)
  clear hrow hss hm hnil hb hlen
  go_ret
  exact ⟨v, rfl, hS, hB⟩

theorem Find_any (l : List UInt8) (hl : l.length ≤ 1000000) (nv : Value) (names : List (List UInt8)) (hn : names.length ≤ 1000000) (w : World) (hs : Strs w nv names) :
    Calls Tryz.prog 8 #[.string ⟨l.toArray⟩, nv] w fun e w' => ∃ v, e = .returned v ∧ Strs w' v (Stl.found l names) ∧ Below w.heap.size w w' :=
  (Find_row l hl nv names hn w hs).mono fun _ _ ⟨v, h1, h2, h3⟩ => ⟨v, h1, strs_of_row h2, h3⟩
#print axioms Find_any
end Go.Proofs.YtgmdifmokcnbpaaGreatDoor
