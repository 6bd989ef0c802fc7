/- The walk of the reference's ListOf. -/
import Derived.Test.YtgmdifmokcnbpaaGreatDoorItems
import Derived.Test.YtgmdifmokcnbpaaGreatDoorCheck
import Derived.Test.YtgmdifmokcnbpaaGreatDoorApp
import Derived.Deep.RegionHeld3
import Derived.Deep.AppendLies
namespace Go.Proofs.YtgmdifmokcnbpaaGreatDoor
open Go.RowKit Go.Maps Go.Sort Go.Shelf

def zeroItem : Value := .agg #[.string ByteArray.empty, .int .i64 0, .string ByteArray.empty, .string ByteArray.empty, .bool false, .slice none 0 0]

theorem infoItem : ∃ i : TypeInfo, Tryz.prog.info? 44 = some i ∧ i.zero = some zeroItem ∧ i.size = 6 ∧ i.bytes = 88 := by
  have h : (Tryz.prog.info? 44).map (fun i => (i.zero, i.size, i.bytes)) = some (some zeroItem, 6, 88) := by kernel_rfl
  cases hi : Tryz.prog.info? 44 with
  | none => rw [hi] at h; cases h
  | some i =>
    rw [hi] at h
    simp only [Option.map_some, Option.some.injEq, Prod.mk.injEq] at h
    exact ⟨i, rfl, h.1, h.2.1, h.2.2⟩

/-- A slice of the call's own that reads as these items; their nodes lie in W0. -/
def IRow (W0 w : World) (base : Nat) (v : Value) (l : List Stl.It) : Prop := ∃ xs, w.ownsRow base 44 6 v l.length xs ∧ ItemsCells W0 l xs

theorem itemCells_one {W0 : World} {x : Stl.It} {a : List Value} (h : ItemCells W0 x a) : ∀ u ∈ a, u.oneCell' = true := by
  obtain ⟨v0, v1, v2, v3, rfl, hn⟩ := h
  obtain ⟨p, d, n⟩ := x
  obtain ⟨k, d', e, ks⟩ := n
  obtain ⟨A, c, e', _, _⟩ := hn.open
  simp only [List.cons.injEq, and_true] at e'
  obtain ⟨rfl, rfl, rfl, rfl⟩ := e'
  intro u hu
  simp at hu
  rcases hu with rfl | rfl | rfl | rfl | rfl | rfl <;> rfl

theorem itemsCells_one {W0 : World} : ∀ (l : List Stl.It) (vs : List Value), ItemsCells W0 l vs → ∀ u ∈ vs, u.oneCell' = true
  | [], _, h => by
    have e : _ = [] := h
    subst e
    simp
  | x :: r, _, ⟨a, b, rfl, h1, h2⟩ => fun u hu => by
    rcases List.mem_append.1 hu with hu | hu
    · exact itemCells_one h1 u hu
    · exact itemsCells_one r b h2 u hu

/-- The i-th item's six cells. -/
theorem itemsCells_at {W0 : World} {l : List Stl.It} {vs : List Value} (h : ItemsCells W0 l vs) {i : Nat} (hi : i < l.length) : ∃ v0 v1 v2 v3, vs[6 * i]? = some (.string ⟨(l[i].path).toArray⟩) ∧ vs[6 * i + 1]? = some (.int .i64 l[i].deep) ∧
    vs[6 * i + 2]? = some v0 ∧ vs[6 * i + 3]? = some v1 ∧ vs[6 * i + 4]? = some v2 ∧ vs[6 * i + 5]? = some v3 ∧ NodeAt W0 (l[i].n) [v0, v1, v2, v3] := by
  obtain ⟨_, h2⟩ := ItemsCells.part i l vs h
  rw [List.drop_eq_getElem_cons hi] at h2
  obtain ⟨a, b, e, ⟨v0, v1, v2, v3, rfl, hn⟩, _⟩ := h2
  have g : ∀ j, vs[6 * i + j]? = (vs.drop (6 * i))[j]? := fun j => by rw [List.getElem?_drop]
  refine ⟨v0, v1, v2, v3, ?_, ?_, ?_, ?_, ?_, ?_, hn⟩
  · have := g 0
    rw [e] at this
    simpa using this
  · rw [g 1, e]; rfl
  · rw [g 2, e]; rfl
  · rw [g 3, e]; rfl
  · rw [g 4, e]; rfl
  · rw [g 5, e]; rfl

theorem flat_add {w : World} {g j : Nat} {u : Value} (h : w.cell? ((⟨g, 0, none⟩ : Addr).add j) = some u) : w.cell? ⟨g, j, none⟩ = some u := by
  by_cases hj : j = 0
  · subst hj; exact h
  · simpa [Addr.add, hj] using h

theorem flat_add' {w : World} {g k j : Nat} {u : Value} (h : w.cell? ⟨g, k + j, none⟩ = some u) : w.cell? ((⟨g, k, none⟩ : Addr).add j) = some u := by
  by_cases hj : j = 0
  · subst hj; exact h
  · simpa [Addr.add, hj] using h

/-- What is behind i rounds. -/
structure LSt (W0 : World) (n : Stl.Nd) (most deep i : Nat) (o : List Stl.It) : Prop where
  le : i ≤ most + 1
  list : Stl.listOf n most deep = o.take i ++ Stl.pre most deep (most + 1 - i) (o.drop i)
  len : o.length ≤ 1 + i * (most + 1)
  pos : 0 < o.length
  paths : ∀ x ∈ o, x.path.length ≤ i * 140737488355329 ∧ x.deep ≤ i

theorem kidItems_length (most : Nat) (x : Stl.It) : (Stl.kidItems most x).length = min (most + 1) x.n.kids.length := by simp [Stl.kidItems]

theorem LSt.start (W0 : World) (n : Stl.Nd) (most deep : Nat) : LSt W0 n most deep 0 [⟨[], 0, n⟩] :=
  ⟨Nat.zero_le _, by simp [Stl.listOf], by simp, by simp, by simp⟩

theorem LSt.skip {W0 : World} {n : Stl.Nd} {most deep i : Nat} {o : List Stl.It} (h : LSt W0 n most deep i o) (hi : i < o.length) (hm : i ≤ most) (hd : deep < o[i].deep) : LSt W0 n most deep (i + 1) o := by
  refine ⟨by omega, ?_, by have := h.len; have : (i + 1) * (most + 1) = i * (most + 1) + (most + 1) := Nat.succ_mul _ _; omega, h.pos, fun x hx => ?_⟩
  · rw [h.list, List.drop_eq_getElem_cons hi, show most + 1 - i = (most - i) + 1 by omega, Stl.pre, if_pos hd, List.take_succ_eq_append_getElem hi, List.append_assoc, show most + 1 - (i + 1) = most - i by omega]
    rfl
  · obtain ⟨h1, h2⟩ := h.paths x hx
    have : (i + 1) * 140737488355329 = i * 140737488355329 + 140737488355329 := Nat.succ_mul _ _
    omega

theorem LSt.step {W0 : World} {n : Stl.Nd} {most deep i : Nat} {o : List Stl.It} (h : LSt W0 n most deep i o) (hi : i < o.length) (hm : i ≤ most) (hd : ¬ deep < o[i].deep) (hk : ∀ p ∈ o[i].n.kids, p.1.length ≤ 140737488355328) :
    LSt W0 n most deep (i + 1) (o.take (i + 1) ++ Stl.kidItems most o[i] ++ o.drop (i + 1)) := by
  have e : (i + 1) * (most + 1) = i * (most + 1) + (most + 1) := Nat.succ_mul _ _
  have e2 : (i + 1) * 140737488355329 = i * 140737488355329 + 140737488355329 := Nat.succ_mul _ _
  have hl := kidItems_length most o[i]
  refine ⟨by omega, ?_, ?_, ?_, fun x hx => ?_⟩
  · have t1 : (o.take (i + 1)).length = i + 1 := by simp; omega
    rw [h.list, List.drop_eq_getElem_cons hi, show most + 1 - i = (most - i) + 1 by omega, Stl.pre, if_neg hd, List.append_assoc, List.take_left' t1, List.drop_left' t1, List.take_succ_eq_append_getElem hi, List.append_assoc, show most + 1 - (i + 1) = most - i by omega]
    rfl
  · have := h.len
    simp only [List.length_append, List.length_take, List.length_drop]
    omega
  · simp only [List.length_append, List.length_take]
    omega
  · rw [List.mem_append, List.mem_append] at hx
    rcases hx with (hx | hx) | hx
    · obtain ⟨h1, h2⟩ := h.paths x (List.mem_of_mem_take hx)
      omega
    · unfold Stl.kidItems at hx
      obtain ⟨p, hp, rfl⟩ := List.mem_map.1 hx
      obtain ⟨h1, h2⟩ := h.paths o[i] (List.getElem_mem _)
      have := hk p (List.mem_of_mem_take hp)
      simp only [List.length_append, List.length_cons]
      omega
    · obtain ⟨h1, h2⟩ := h.paths x (List.mem_of_mem_drop hx)
      omega

theorem LSt.done {W0 : World} {n : Stl.Nd} {most deep i : Nat} {o : List Stl.It} (h : LSt W0 n most deep i o) (hd : ¬ i < o.length ∨ ¬ i ≤ most) : Stl.listOf n most deep = o := by
  rw [h.list]
  rcases hd with hd | hd
  · rw [List.drop_of_length_le (by omega), List.take_of_length_le (by omega)]
    cases most + 1 - i <;> simp [Stl.pre]
  · rw [show most + 1 - i = 0 by have := h.le; omega, Stl.pre, List.take_append_drop]

theorem irow_start (W : World) (base : Nat) (W0 : World) (x : Stl.It) (cs : List Value) (hc : ItemCells W0 x cs) (hb : base ≤ W.heap.size) :
    IRow W0 (W.alloc (.cells cs.toArray 44)) base (.slice (some ⟨W.heap.size, 0, none⟩) 1 1) [x] := by
  obtain ⟨v0, v1, v2, v3, rfl, h⟩ := hc
  refine ⟨_, ⟨rfl, .inr ⟨_, _, _, rfl, hb, heap_alloc_new W _, Nat.le_refl _, by decide, rfl, rfl⟩⟩, _, [], by simp, ⟨v0, v1, v2, v3, rfl, h⟩, rfl⟩

theorem IRow.form {W0 w : World} {base : Nat} {v : Value} {l : List Stl.It} (h : IRow W0 w base v l) (hl : 0 < l.length) : ∃ g c, v = .slice (some ⟨g, 0, none⟩) l.length c ∧ base ≤ g ∧ g < w.heap.size ∧ l.length ≤ c := by
  obtain ⟨xs, h1, _⟩ := h
  rcases h1.2 with ⟨_, h0⟩ | ⟨g, cap, cur, rfl, hb, hg, hc, _⟩
  · omega
  · exact ⟨g, cap, rfl, hb, (Array.getElem?_eq_some_iff.1 hg).1, hc⟩

theorem IRow.kept {W0 w w' : World} {base : Nat} {v : Value} {l : List Stl.It} (h : IRow W0 w base v l) {r : Option Nat} (hg : w.grownBy w' r) (hne : v.ownBlock = none ∨ v.ownBlock ≠ r) : IRow W0 w' base v l := by
  obtain ⟨xs, h1, h2⟩ := h
  exact ⟨xs, h1.kept hg hne, h2⟩

theorem IRow.later {W0 w w' : World} {base : Nat} {v : Value} {l : List Stl.It} (h : IRow W0 w base v l) (hb : Below w.heap.size w w') : IRow W0 w' base v l :=
  h.kept (Below.toGrown hb none) (by cases Value.ownBlock v <;> simp)

/-- The six cells of the i-th item, where a row lies. -/
theorem IRow.at {W0 w : World} {base g c : Nat} {l : List Stl.It} (h : IRow W0 w base (.slice (some ⟨g, 0, none⟩) l.length c) l) {i : Nat} (hi : i < l.length) : ∃ v0 v1 v2 v3, w.cell? ⟨g, i * 6, none⟩ = some (.string ⟨(l[i].path).toArray⟩) ∧ w.cell? ⟨g, i * 6 + 1, none⟩ = some (.int .i64 l[i].deep) ∧
    w.cell? ⟨g, i * 6 + 2, none⟩ = some v0 ∧ w.cell? ⟨g, i * 6 + 3, none⟩ = some v1 ∧ w.cell? ⟨g, i * 6 + 4, none⟩ = some v2 ∧ w.cell? ⟨g, i * 6 + 5, none⟩ = some v3 ∧ NodeAt W0 (l[i].n) [v0, v1, v2, v3] := by
  obtain ⟨xs, h1, h2⟩ := h
  obtain ⟨v0, v1, v2, v3, c0, c1, c2, c3, c4, c5, hn⟩ := itemsCells_at h2 hi
  have go : ∀ j u, xs[j]? = some u → w.cell? ⟨g, j, none⟩ = some u := fun j u hu => flat_add (World.ownsRow.cells h1 (g := g) rfl j u hu)
  rw [Nat.mul_comm i 6]
  exact ⟨v0, v1, v2, v3, go _ _ c0, go _ _ c1, go _ _ c2, go _ _ c3, go _ _ c4, go _ _ c5, hn⟩

theorem ownsRow_low {w w' : World} {B base : Nat} {e : TypeId} {sz : Nat} {v : Value} {n : Nat} {xs : List Value} (h : w.ownsRow base e sz v n xs) (hb : Below B w w') (hv : ∀ g, v.ownBlock = some g → g < B) : w'.ownsRow base e sz v n xs := by
  obtain ⟨h1, h2⟩ := h
  refine ⟨h1, ?_⟩
  rcases h2 with h2 | ⟨g, cap, cur, rfl, hb2, hg, h3⟩
  · exact .inl h2
  · exact .inr ⟨g, cap, cur, rfl, hb2, (hb.block g (hv g rfl)).trans hg, h3⟩

theorem ownsRow_base {w : World} {base base' : Nat} {e : TypeId} {sz : Nat} {v : Value} {n : Nat} {xs : List Value} (h : w.ownsRow base e sz v n xs) (hb : base' ≤ base) : w.ownsRow base' e sz v n xs := by
  obtain ⟨h1, h2⟩ := h
  refine ⟨h1, ?_⟩
  rcases h2 with h2 | ⟨g, cap, cur, rfl, hb2, h3⟩
  · exact .inl h2
  · exact .inr ⟨g, cap, cur, rfl, Nat.le_trans hb hb2, h3⟩

theorem kidItems_at (most : Nat) (x : Stl.It) (q : Nat) (h : q < (Stl.kidItems most x).length) (h2 : q < x.n.kids.length) : (Stl.kidItems most x)[q] = ⟨x.path ++ 47 :: x.n.kids[q].1, x.deep + 1, x.n.kids[q].2⟩ := by
  simp [Stl.kidItems]

theorem kids_names {w : World} {A : Option Addr} {ks : List (List UInt8 × Stl.Nd)} (h : KidsOf w A ks) : ∀ p ∈ ks, p.1.length ≤ 140737488355328 := fun p hp => by
  obtain ⟨j, hj, rfl⟩ := List.mem_iff_getElem.1 hp
  obtain ⟨_, _, _, _, ⟨_, h1⟩, _⟩ := h.at hj
  exact h1

/-- What ListOf hands back. -/
def ListEnd (l : List Stl.It) (w : World) (e : Ending) (w' : World) : Prop := ∃ g c, e = .returned (.slice (some ⟨g, 0, none⟩) l.length c) ∧ IRow w w' w.heap.size (.slice (some ⟨g, 0, none⟩) l.length c) l ∧ Below w.heap.size w w' ∧ 0 < l.length ∧ l.length ≤ 100000000

set_option maxHeartbeats 4000000 in
set_option maxRecDepth 100000 in
theorem ListOf_any (n : Stl.Nd) (vs : List Value) (most deep : Nat) (hm : most ≤ 1000) (hd : deep ≤ 1000) (w : World) (hn : NodeAt w n vs) :
    Calls Tryz.prog 16 #[.agg vs.toArray, .int .i64 most, .int .i64 deep] w (ListEnd (Stl.listOf n most deep) w) := by
  have HN := Lib.hid hn
  have HL := Lib.hid (LSt.start w n most deep)
  obtain ⟨k, d, e, ks⟩ := n
  obtain ⟨A, c, rfl, _, _⟩ := hn.open
  clear hn
  obtain ⟨n, hnn⟩ : ∃ n : Stl.Nd, n = .mk k d e ks := ⟨_, rfl⟩
  rw [← hnn] at HN HL ⊢
  clear hnn
  obtain ⟨res, hres⟩ : ∃ res, res = Stl.listOf n most deep := ⟨_, rfl⟩
  rw [← hres]
  have HRES := Lib.hid hres
  clear hres
  go_enter Tryz.func16, Tryz.ntmps16
  go_wp2_with fail
  have hb1 := (Below.refl _ w).alloc (Nat.le_refl _) (.cells #[.string ⟨k.toArray⟩, .string ⟨d.toArray⟩, .bool e, .slice A ks.length c] 24)
  have hr1 := irow_start (w.alloc (.cells #[.string ⟨k.toArray⟩, .string ⟨d.toArray⟩, .bool e, .slice A ks.length c] 24)) w.heap.size w ⟨[], 0, n⟩ _ ⟨_, _, _, _, rfl, HN.out⟩ (by simp)
  have HB1 := Lib.hid (hb1.alloc hb1.size (.cells [Value.string ⟨([] : List UInt8).toArray⟩, .int .i64 ((0 : Nat) : Int), .string ⟨k.toArray⟩, .string ⟨d.toArray⟩, .bool e, .slice A ks.length c].toArray 44))
  have HR1 := Lib.hid hr1
  clear hb1 hr1
  go_loopw [7, 8] (fun v a wr => ∃ (i : Nat) (o : List Stl.It), a = .int .i64 i ∧ Hid (LSt w n most deep i o) ∧ Hid (IRow w wr w.heap.size v o) ∧ Hid (Below w.heap.size w wr)) (fun _ a _ => most + 1 - (intOf a).toNat)
  case atStart => exact ⟨0, _, rfl, HL, by simpa using HR1, HB1⟩
  case round =>
    obtain ⟨i, o, rfl, HL2, HR2, HB2⟩ := hrel
    clear HL HR1 HB1
    obtain ⟨g, co, rfl, hg1, hg2, hco⟩ := HR2.out.form HL2.out.pos
    have hle := HL2.out.le
    have hlen := HL2.out.len
    have hlen2 : i * (most + 1) ≤ 1001 * 1001 := Nat.mul_le_mul (by omega) (by omega)
    have hcm : co ≤ 9223372036854775807 := by
      obtain ⟨xs, h1, _⟩ := HR2.out
      rcases h1.2 with ⟨h1, _⟩ | ⟨_, _, _, h1, _, _, _, h2, _⟩
      · cases h1
      · injection h1 with _ _ h1
        subst h1
        exact h2
    by_cases hio : i < o.length
    case neg =>
      have i1 : ¬ (i : Int) < (o.length : Int) := by omega
      have i2 : decide ((i : Int) < (o.length : Int)) = false := by simpa using hio
      have HE := Lib.hid (HRES.out.trans (HL2.out.done (.inl hio)))
      clear hio
      go_wp2
      go_ret
      refine ⟨g, co, by rw [HE.out]; rfl, by rw [HE.out]; exact HR2.out, HB2.out, by rw [HE.out]; exact HL2.out.pos, by rw [HE.out]; omega⟩
    have i1 : (i : Int) < (o.length : Int) := by omega
    by_cases him : i ≤ most
    case neg =>
      have i2 : ¬ (i : Int) ≤ (most : Int) := by omega
      have HE := Lib.hid (HRES.out.trans (HL2.out.done (.inr him)))
      clear him
      go_wp2
      go_ret
      refine ⟨g, co, by rw [HE.out]; rfl, by rw [HE.out]; exact HR2.out, HB2.out, by rw [HE.out]; exact HL2.out.pos, by rw [HE.out]; omega⟩
    have i2 : (i : Int) ≤ (most : Int) := by omega
    have i3 : (0 : Int) ≤ (i : Int) := by omega
    obtain ⟨v0, v1, v2, v3, c0, c1, c2, c3, c4, c5, hxn⟩ := HR2.out.at hio
    have hpx := HL2.out.paths _ (List.getElem_mem hio)
    have HSK := Lib.hid (fun h => HL2.out.skip hio him h)
    have HST := Lib.hid (fun h1 h2 => HL2.out.step hio him h1 h2)
    have HTK := Lib.hid (List.take_succ_eq_append_getElem hio)
    generalize o[i] = x at c0 c1 hxn hpx HSK HST HTK
    obtain ⟨px, dx, nx⟩ := x
    simp only at c0 c1 hxn hpx
    have HXN := Lib.hid hxn
    obtain ⟨kx, dd, ex, kx2⟩ := nx
    obtain ⟨Ax, cx, ex', ⟨hx1, hx2, hx3, hx4⟩, hxk⟩ := hxn.open
    simp only [List.cons.injEq, and_true] at ex'
    obtain ⟨rfl, rfl, rfl, rfl⟩ := ex'
    have HXK := Lib.hid hxk
    have hdx : dx ≤ 1001 := by omega
    clear hxk hxn
    by_cases hdd : deep < dx
    · have i4 : (deep : Int) < (dx : Int) := by omega
      have HS2 := Lib.hid (HSK.out hdd)
      clear hdd
      go_wp2
      go_roundw
      case rel => exact ⟨i + 1, o, by go_num, HS2, Lib.hid (HR2.out.later ((Below.refl _ _).alloc (Nat.le_refl _) _)), Lib.hid (HB2.out.alloc HB2.out.size _)⟩
      case measure => simp [intOf]; omega
    · have i4 : ¬ (deep : Int) < (dx : Int) := by omega
      have HS2 := Lib.hid (fun h2 => HST.out hdd h2)
      clear hdd
      have i5 : (i : Int) + 1 ≤ (co : Int) := by omega
      have i6 : (0 : Int) ≤ (i : Int) + 1 := by omega
      obtain ⟨xs, hown, hxs⟩ := HR2.out
      have HOW := Lib.hid (hown.alloc (.cells #[.string ⟨px.toArray⟩, .int .i64 dx, .string ⟨kx.toArray⟩, .string ⟨dd.toArray⟩, .bool ex, .slice Ax kx2.length cx] 44))
      have HXS := Lib.hid hxs
      have HXL := Lib.hid (ItemsCells.length o xs hxs)
      obtain ⟨i0, hi, hz0, hz1, hz2⟩ := infoItem
      have Hi := Lib.hid hi
      have Hz0 := Lib.hid hz0
      have Hz1 := Lib.hid hz1
      have Hz2 := Lib.hid hz2
      clear hown hxs hi hz0 hz1 hz2
      go_upto_region 9 with (at_builtin; refine Stl.wpList_app _ rfl (.tmp 34) (.tmp 38) 41 rfl (wr.heap.size + 1) 44 i0 zeroItem 6 88 Tryz.underlying41 Hi.out Hz0.out Hz1.out Hz2.out rfl (by decide) (.slice none 0 0) 0 [] rfl (World.ownsRow_nil _ _ _ _) (some ⟨g, 0, none⟩) (i + 1) co (xs.take ((i + 1) * 6)) rfl (by rw [List.length_take, HXL.out]; omega) (fun h => by cases h) (fun ad had j u hu => by cases had; exact World.ownsRow.cells HOW.out (g := g) rfl j u (by rw [List.getElem?_take] at hu; split at hu; exact hu; cases hu)) (fun u hu => itemsCells_one o xs HXS.out u (List.mem_of_mem_take hu)) (by unfold maxLen; omega) (by omega) (by simp) ?_; intro A1 c1' w1 hown1 hg1 _)
      have HO1 := Lib.hid hown1
      have HG1 := Lib.hid hg1
      clear hown1 hg1 c0 c1 c2 c3 c4 c5
      obtain ⟨wo, rfl⟩ : ∃ wo : World, wo = wr := ⟨_, rfl⟩
      have HBX := Lib.hid (heap_alloc_new wo (.cells #[.string ⟨px.toArray⟩, .int .i64 dx, .string ⟨kx.toArray⟩, .string ⟨dd.toArray⟩, .bool ex, .slice Ax kx2.length cx] 44))
      have HBW := Lib.hid (HB2.out.alloc HB2.out.size (.cells #[.string ⟨px.toArray⟩, .int .i64 dx, .string ⟨kx.toArray⟩, .string ⟨dd.toArray⟩, .bool ex, .slice Ax kx2.length cx] 44))
      have hbs : (wo.alloc (.cells #[.string ⟨px.toArray⟩, .int .i64 dx, .string ⟨kx.toArray⟩, .string ⟨dd.toArray⟩, .bool ex, .slice Ax kx2.length cx] 44)).heap.size = wo.heap.size + 1 := by simp
      generalize wo.alloc (.cells #[.string ⟨px.toArray⟩, .int .i64 dx, .string ⟨kx.toArray⟩, .string ⟨dd.toArray⟩, .bool ex, .slice Ax kx2.length cx] 44) = wx at *
      have HBS := Lib.hid hbs
      clear hbs
      have HB3 := Lib.hid (show Below (wo.heap.size + 1) wx w1 from ⟨HG1.out.os, HG1.out.tape, HG1.out.output, HG1.out.size, fun k hk => HG1.out.block k (by rw [HBS.out]; exact hk) (by simp [Value.ownBlock])⟩)
      have HL1 : Hid (IRow w w1 (wo.heap.size + 1) (.slice A1 (i + 1) c1') (o.take (i + 1) ++ (Stl.kidItems most ⟨px, dx, .mk kx dd ex kx2⟩).take 0)) := Lib.hid (by
        have ht : (o.take (i + 1) ++ (Stl.kidItems most ⟨px, dx, .mk kx dd ex kx2⟩).take 0).length = i + 1 := by simp; omega
        refine ⟨xs.take ((i + 1) * 6), ?_, ?_⟩
        · rw [ht]
          simpa using HO1.out
        · rw [List.take_zero, List.append_nil, Nat.mul_comm]
          exact (ItemsCells.part (i + 1) o xs HXS.out).1)
      have HKL := Lib.hid (kidItems_length most ⟨px, dx, .mk kx dd ex kx2⟩)
      have HKA := Lib.hid (fun q h h2 => kidItems_at most ⟨px, dx, .mk kx dd ex kx2⟩ q h h2)
      have HTL := Lib.hid (show (o.take (i + 1)).length = i + 1 by simp; omega)
      generalize Stl.kidItems most ⟨px, dx, .mk kx dd ex kx2⟩ = kl at *
      go_wp2_with fail
      go_loopw [10, 11] (fun lv a wi => ∃ q : Nat, q ≤ kl.length ∧ a = .int .i64 q ∧ Hid (IRow w wi (wo.heap.size + 1) lv (o.take (i + 1) ++ kl.take q)) ∧ Hid (Below (wo.heap.size + 1) wx wi)) (fun _ a _ => kl.length - (intOf a).toNat)
      case atStart => exact ⟨0, Nat.zero_le _, rfl, HL1, HB3⟩
      case round =>
        obtain ⟨q, hq, rfl, HL4, HB4⟩ := hrel
        have hkl := HKL.out
        simp only [Stl.Nd.kids] at hkl
        have HX4 := Lib.hid ((HB4.out.block _ (by omega)).trans HBX.out)
        have s5 := cell_of_row wr wo.heap.size 5 _ _ _ HX4.out
        by_cases hqk : q < kl.length
        · have i7 : (q : Int) < (kx2.length : Int) := by omega
          have i8 : (q : Int) ≤ (most : Int) := by omega
          have i9 : (0 : Int) ≤ (q : Int) := by omega
          have hqk2 : q < kx2.length := by omega
          have s0 := cell_of_row wr wo.heap.size 0 _ _ _ HX4.out
          have s1 := cell_of_row wr wo.heap.size 1 _ _ _ HX4.out
          obtain ⟨b, off, rfl, hbl, ⟨k0, hl⟩, v0, v1, v2, v3, k1, k2, k3, k4, hkid⟩ := HXK.out.at hqk2
          have HB5 := Lib.hid (HBW.out.trans (HB4.out.mono (by have := HB2.out.size; omega)))
          have go : ∀ (o : Nat) (v : Value), w.cell? ⟨b, o, none⟩ = some v → wr.cell? ⟨b, o, none⟩ = some v := fun o v hv => (HB5.out.cell (p := ⟨b, o, none⟩) hbl).trans hv
          replace k0 := go _ _ k0
          replace k1 := go _ _ k1
          replace k2 := go _ _ k2
          replace k3 := go _ _ k3
          replace k4 := go _ _ k4
          have HKQ := Lib.hid (HKA.out q hqk (by simpa [Stl.Nd.kids] using hqk2))
          have HTQ := Lib.hid (List.take_succ_eq_append_getElem hqk)
          simp only [Stl.Nd.kids] at HKQ
          generalize kx2[q] = kd at HKQ hkid k0 hl
          generalize kl[q] = kq at HKQ HTQ
          obtain ⟨nm, nq⟩ := kd
          simp only at HKQ hkid k0 hl
          have HKI := Lib.hid hkid
          obtain ⟨kk, dk, ek, ksk⟩ := nq
          obtain ⟨Ak, ck, e', _, _⟩ := hkid.open
          simp only [List.cons.injEq, and_true] at e'
          obtain ⟨rfl, rfl, rfl, rfl⟩ := e'
          have hp1 := hpx.1
          have hp2 : i * 140737488355329 ≤ 1000 * 140737488355329 := Nat.mul_le_mul_right _ (by omega)
          have t1 : ¬ 9223372036854775807 < px.length + 1 := by omega
          have t2 : ¬ 9223372036854775807 < px.length + 1 + nm.length := by omega
          have t3 : ByteArray.mk px.toArray ++ ByteArray.mk #[47] = ByteArray.mk (px ++ [47]).toArray := ByteArray.mk_append_mk px [47]
          have t4 : ByteArray.mk (px ++ [47]).toArray ++ ByteArray.mk nm.toArray = ByteArray.mk (px ++ [47] ++ nm).toArray := ByteArray.mk_append_mk (px ++ [47]) nm
          obtain ⟨ys, hyo, hyc⟩ := HL4.out
          have hyl : (o.take (i + 1) ++ kl.take q).length = i + 1 + q := by rw [List.length_append, HTL.out, List.length_take]; omega
          rw [hyl] at hyo
          have HYO := Lib.hid hyo
          have HYC := Lib.hid hyc
          have HYL := Lib.hid hyl
          obtain ⟨Al, cl, rfl⟩ := Stl.owns_slice _ hyo
          clear go hkid hl hyo hyc hyl hp1 hp2
          have farX : some wo.heap.size ≠ (Value.slice Al (i + 1 + q) cl).ownBlock := fun e => by
            have := (HYO.out.lt _ e.symm).1
            omega
          have farK : some b ≠ (Value.slice Al (i + 1 + q) cl).ownBlock := fun e => by
            have := (HYO.out.lt _ e.symm).1
            have := HB2.out.size
            omega
          have FX := Lib.hid farX
          have FK := Lib.hid farK
          clear farX farK
          have q9 : IntKind.i64.wrap ((dx : Int) + 1) = (dx : Int) + 1 := IntWalk.i64_in _ (by omega)
          have hbw : b < wr.heap.size := Nat.lt_of_lt_of_le hbl HB5.out.size
          have hBw : wo.heap.size < wr.heap.size := lt_of_block HX4.out
          go_wp2_with fail
          go_region_held3 (fun w' => w'.cell? ⟨wo.heap.size, 0, none⟩ = some (.string ⟨px.toArray⟩) ∧ w'.cell? ⟨wo.heap.size, 1, none⟩ = some (.int .i64 dx) ∧ w'.cell? ⟨wo.heap.size, 5, none⟩ = some (.slice (some ⟨b, off, none⟩) kx2.length cx) ∧
              w'.cell? ⟨b, off + q * 5, none⟩ = some (.string ⟨nm.toArray⟩) ∧ w'.cell? ⟨b, off + q * 5 + 1, none⟩ = some (.string ⟨kk.toArray⟩) ∧ w'.cell? ⟨b, off + q * 5 + 2, none⟩ = some (.string ⟨dk.toArray⟩) ∧ w'.cell? ⟨b, off + q * 5 + 3, none⟩ = some (.bool ek) ∧ w'.cell? ⟨b, off + q * 5 + 4, none⟩ = some (.slice Ak ksk.length ck))
            (first
              | go_keep
              | (go_split_ands
                 refine ⟨?_, ?_, ?_, ?_, ?_, ?_, ?_, ?_⟩
                 all_goals (rw [hgrow.cell_far _ (by simp; omega) (by first | exact FX.out | exact FK.out)]; assumption)))
            (first
              | (refine Stl.step_app _ (by rfl) _ _ 41 (by rfl) (wo.heap.size + 1) 44 i0 zeroItem 6 88 Tryz.underlying41 Hi.out Hz0.out Hz1.out Hz2.out rfl (by decide) (.slice Al (i + 1 + q) cl) (i + 1 + q) ys (by rfl) ((HYO.out.alloc _).drew) (some ⟨wr.heap.size, 0, none⟩) 1 1 [.string ⟨(px ++ 47 :: nm).toArray⟩, .int .i64 ((dx : Int) + 1), .string ⟨kk.toArray⟩, .string ⟨dk.toArray⟩, .bool ek, .slice Ak ksk.length ck] (by rfl) (by rfl) (fun h => by cases h) (fun ad had => by cases had; exact World.news_of_block (cs := #[.string ⟨(px ++ 47 :: nm).toArray⟩, .int .i64 ((dx : Int) + 1), .string ⟨kk.toArray⟩, .string ⟨dk.toArray⟩, .bool ek, .slice Ak ksk.length ck]) (t := 44) (fr := (0, 0)) (heap_alloc_new wr _)) (by simp [Value.oneCell']) (by unfold maxLen; omega) (by omega) (by simp; omega) ?_; intro A2 c2' w2 hown2 hgrow hat2))
          have HO2 := Lib.hid hown2
          have HG2 := Lib.hid hgrow
          clear hown2 hgrow hat2 q9 t1 t2 t3 t4 k0 k1 k2 k3 k4 s0 s1 s5
          go_wp2
          go_roundw
          case rel =>
            refine ⟨q + 1, hqk, by go_num, Lib.hid ⟨ys ++ [.string ⟨(px ++ 47 :: nm).toArray⟩, .int .i64 ((dx : Int) + 1), .string ⟨kk.toArray⟩, .string ⟨dk.toArray⟩, .bool ek, .slice Ak ksk.length ck], ?_, ?_⟩, Lib.hid ?_⟩
            · have e1 : (o.take (i + 1) ++ kl.take (q + 1)).length = i + 1 + q + 1 := by rw [List.length_append, HTL.out, List.length_take]; omega
              rw [e1]
              exact HO2.out
            · rw [HTQ.out, ← List.append_assoc]
              refine ItemsCells.append _ _ _ _ HYC.out ?_
              rw [HKQ.out]
              exact ⟨_, [], by simp, ⟨_, _, _, _, rfl, HKI.out⟩, rfl⟩
            · refine (((HB4.out.alloc (by omega) _).drew).grown HG2.out (by simp; omega) (fun k hk => (HYO.out.lt k hk).1))
          case measure => simp [intOf]; omega
        · have hqe : q = kl.length := by omega
          have HQE := Lib.hid hqe
          have hc1 : (q < kx2.length ∧ ¬ q ≤ most) ∨ ¬ q < kx2.length := by omega
          have HOR := Lib.hid (ownsRow_low HOW.out HB4.out (fun k hk => by simp [Value.ownBlock] at hk; omega))
          have HB5 := Lib.hid (HBW.out.trans (HB4.out.mono (by have := HB2.out.size; omega)))
          have i9 : (0 : Int) ≤ (q : Int) := by omega
          have i10 : (i : Int) + 1 ≤ (o.length : Int) := by omega
          have i11 : (o.length : Int) ≤ (co : Int) := by omega
          obtain ⟨ys, hyo, hyc⟩ := HL4.out
          have hkt : kl.take q = kl := List.take_of_length_le (by omega)
          rw [hkt] at hyo hyc
          clear hkt
          have hyl : (o.take (i + 1) ++ kl).length = i + 1 + q := by rw [List.length_append, HTL.out, hqe]
          rw [hyl] at hyo
          have HYO := Lib.hid hyo
          have HYC := Lib.hid hyc
          obtain ⟨Al, cl, rfl⟩ := Stl.owns_slice _ hyo
          clear hqe hyo hyc hyl
          by_cases hce : co = i + 1
          · have hoe : o.length = i + 1 := by omega
            have HOE := Lib.hid hoe
            subst hce
            rcases hc1 with ⟨h1, h2⟩ | h1
            · have i7 : (q : Int) < (kx2.length : Int) := by omega
              have i8 : ¬ (q : Int) ≤ (most : Int) := by omega
              go_upto_region 13 with fail
              go_wp2_with (at_builtin; go_loud (refine Stl.wpList_app _ rfl (.tmp 78) (.tmp 82) 41 rfl (wo.heap.size + 1) 44 i0 zeroItem 6 88 Tryz.underlying41 Hi.out Hz0.out Hz1.out Hz2.out rfl (by decide) (.slice Al (i + 1 + q) cl) (i + 1 + q) ys rfl HYO.out (some ⟨g, 0, none⟩) 0 0 [] rfl rfl (fun h => by cases h) (fun ad had j u hu => by simp at hu) (fun u hu => by cases hu) (by unfold maxLen; omega) (by omega) (by have := HB4.out.size; have := HBS.out; omega) ?_); intro A3 c3' w3 hown3 hg3 _)
              have HO3 := Lib.hid hown3
              have HG3 := Lib.hid hg3
              clear hown3 hg3
              go_wp2
              go_roundw
              case rel =>
                refine ⟨i + 1, _, by go_num, Lib.hid (HS2.out (kids_names HXK.out)), Lib.hid ⟨ys ++ [], ?_, ?_⟩, Lib.hid (HB5.out.grown HG3.out HB5.out.size (fun k hk => by have := (HYO.out.lt k hk).1; have := HB2.out.size; omega))⟩
                · rw [List.length_append, List.length_append, HTL.out, List.length_drop, ← HQE.out, show i + 1 + q + (o.length - (i + 1)) = i + 1 + q + 0 by omega]
                  exact ownsRow_base HO3.out (by have := HB2.out.size; omega)
                · refine ItemsCells.append _ _ _ _ HYC.out ?_
                  have hdn : o.drop (i + 1) = [] := List.drop_of_length_le (by omega)
                  rw [hdn]
                  rfl
              case measure => simp [intOf]; omega
            · have i7 : ¬ (q : Int) < (kx2.length : Int) := by omega
              go_upto_region 13 with fail
              go_wp2_with (at_builtin; go_loud (refine Stl.wpList_app _ rfl (.tmp 78) (.tmp 82) 41 rfl (wo.heap.size + 1) 44 i0 zeroItem 6 88 Tryz.underlying41 Hi.out Hz0.out Hz1.out Hz2.out rfl (by decide) (.slice Al (i + 1 + q) cl) (i + 1 + q) ys rfl HYO.out (some ⟨g, 0, none⟩) 0 0 [] rfl rfl (fun h => by cases h) (fun ad had j u hu => by simp at hu) (fun u hu => by cases hu) (by unfold maxLen; omega) (by omega) (by have := HB4.out.size; have := HBS.out; omega) ?_); intro A3 c3' w3 hown3 hg3 _)
              have HO3 := Lib.hid hown3
              have HG3 := Lib.hid hg3
              clear hown3 hg3
              go_wp2
              go_roundw
              case rel =>
                refine ⟨i + 1, _, by go_num, Lib.hid (HS2.out (kids_names HXK.out)), Lib.hid ⟨ys ++ [], ?_, ?_⟩, Lib.hid (HB5.out.grown HG3.out HB5.out.size (fun k hk => by have := (HYO.out.lt k hk).1; have := HB2.out.size; omega))⟩
                · rw [List.length_append, List.length_append, HTL.out, List.length_drop, ← HQE.out, show i + 1 + q + (o.length - (i + 1)) = i + 1 + q + 0 by omega]
                  exact ownsRow_base HO3.out (by have := HB2.out.size; omega)
                · refine ItemsCells.append _ _ _ _ HYC.out ?_
                  have hdn : o.drop (i + 1) = [] := List.drop_of_length_le (by omega)
                  rw [hdn]
                  rfl
              case measure => simp [intOf]; omega
          · have hce2 : ¬ (co : Int) = (i : Int) + 1 := by omega
            rcases hc1 with ⟨h1, h2⟩ | h1
            · have i7 : (q : Int) < (kx2.length : Int) := by omega
              have i8 : ¬ (q : Int) ≤ (most : Int) := by omega
              go_upto_region 13 with fail
              go_wp2_with (at_builtin; go_loud (refine Stl.wpList_app _ rfl (.tmp 78) (.tmp 82) 41 rfl (wo.heap.size + 1) 44 i0 zeroItem 6 88 Tryz.underlying41 Hi.out Hz0.out Hz1.out Hz2.out rfl (by decide) (.slice Al (i + 1 + q) cl) (i + 1 + q) ys rfl HYO.out (some ⟨g, (i + 1) * 6, none⟩) (o.length - (i + 1)) (co - (i + 1)) (xs.drop ((i + 1) * 6)) rfl (by rw [List.length_drop, HXL.out]; omega) (fun h => by cases h) (fun ad had j u hu => by cases had; rw [List.getElem?_drop] at hu; exact flat_add' (flat_add (World.ownsRow.cells HOR.out (g := g) rfl _ u hu))) (fun u hu => itemsCells_one o xs HXS.out u (List.mem_of_mem_drop hu)) (by unfold maxLen; omega) (by omega) (by have := HB4.out.size; have := HBS.out; omega) ?_); intro A3 c3' w3 hown3 hg3 _)
              have HO3 := Lib.hid hown3
              have HG3 := Lib.hid hg3
              clear hown3 hg3
              go_wp2
              go_roundw
              case rel =>
                refine ⟨i + 1, _, by go_num, Lib.hid (HS2.out (kids_names HXK.out)), Lib.hid ⟨ys ++ xs.drop ((i + 1) * 6), ?_, ?_⟩, Lib.hid (HB5.out.grown HG3.out HB5.out.size (fun k hk => by have := (HYO.out.lt k hk).1; have := HB2.out.size; omega))⟩
                · rw [List.length_append, List.length_append, HTL.out, List.length_drop, ← HQE.out]
                  exact ownsRow_base HO3.out (by have := HB2.out.size; omega)
                · refine ItemsCells.append _ _ _ _ ?_ ?_
                  · exact HYC.out
                  · rw [Nat.mul_comm]
                    exact (ItemsCells.part (i + 1) o xs HXS.out).2
              case measure => simp [intOf]; omega
            · have i7 : ¬ (q : Int) < (kx2.length : Int) := by omega
              go_upto_region 13 with fail
              go_wp2_with (at_builtin; go_loud (refine Stl.wpList_app _ rfl (.tmp 78) (.tmp 82) 41 rfl (wo.heap.size + 1) 44 i0 zeroItem 6 88 Tryz.underlying41 Hi.out Hz0.out Hz1.out Hz2.out rfl (by decide) (.slice Al (i + 1 + q) cl) (i + 1 + q) ys rfl HYO.out (some ⟨g, (i + 1) * 6, none⟩) (o.length - (i + 1)) (co - (i + 1)) (xs.drop ((i + 1) * 6)) rfl (by rw [List.length_drop, HXL.out]; omega) (fun h => by cases h) (fun ad had j u hu => by cases had; rw [List.getElem?_drop] at hu; exact flat_add' (flat_add (World.ownsRow.cells HOR.out (g := g) rfl _ u hu))) (fun u hu => itemsCells_one o xs HXS.out u (List.mem_of_mem_drop hu)) (by unfold maxLen; omega) (by omega) (by have := HB4.out.size; have := HBS.out; omega) ?_); intro A3 c3' w3 hown3 hg3 _)
              have HO3 := Lib.hid hown3
              have HG3 := Lib.hid hg3
              clear hown3 hg3
              go_wp2
              go_roundw
              case rel =>
                refine ⟨i + 1, _, by go_num, Lib.hid (HS2.out (kids_names HXK.out)), Lib.hid ⟨ys ++ xs.drop ((i + 1) * 6), ?_, ?_⟩, Lib.hid (HB5.out.grown HG3.out HB5.out.size (fun k hk => by have := (HYO.out.lt k hk).1; have := HB2.out.size; omega))⟩
                · rw [List.length_append, List.length_append, HTL.out, List.length_drop, ← HQE.out]
                  exact ownsRow_base HO3.out (by have := HB2.out.size; omega)
                · refine ItemsCells.append _ _ _ _ ?_ ?_
                  · exact HYC.out
                  · rw [Nat.mul_comm]
                    exact (ItemsCells.part (i + 1) o xs HXS.out).2
              case measure => simp [intOf]; omega
#print axioms ListOf_any
end Go.Proofs.YtgmdifmokcnbpaaGreatDoor
