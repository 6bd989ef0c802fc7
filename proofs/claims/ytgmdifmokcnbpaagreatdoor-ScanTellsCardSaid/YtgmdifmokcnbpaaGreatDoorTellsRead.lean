/- What the arguments of the law ScanTells are, as the row reads them: a tree, a slice of texts; and the thirteen errors, laid. -/
import Derived.Test.YtgmdifmokcnbpaaGreatDoorTellsLaw
import Derived.Test.YtgmdifmokcnbpaaGreatDoorRows
import Derived.OpenShut
import Derived.Deep.Slices
import Derived.Deep.Strs
import Derived.Stop.LaidErr
import Derived.LaidSub
namespace Go.Proofs.YtgmdifmokcnbpaaGreatDoor
open Go.ChangeShapes Go.ChangeMaps Go.WideShapes Go.ChangeAt Go.RowKit

/-! ### weights -/
def Fit (L : List Nat) : Prop := ∀ x ∈ L, x ≤ reachBytes
theorem Fit.left {a b : List Nat} (h : Fit (a ++ b)) : Fit a := fun x hx => h x (List.mem_append_left _ hx)
theorem Fit.right {a b : List Nat} (h : Fit (a ++ b)) : Fit b := fun x hx => h x (List.mem_append_right _ hx)
theorem Fit.all {H : Type} {P : Program} {e : TypeId} : ∀ {l : List (DataW H)}, Fit (DataW.weightsAll P e l) → ∀ d ∈ l, Fit (d.weights P e)
  | [], _, _, hd => by cases hd
  | a :: r, h, d, hd => by
    unfold DataW.weightsAll at h
    rcases List.mem_cons.1 hd with rfl | hd
    · exact h.left
    · exact Fit.all h.right d hd

section
variable {H : Type} {enc : TypeId × Value → H} {W : World}
noncomputable abbrev trodN (enc : TypeId × Value → H) (W : World) := DataW.trod enc Tryz.prog W 0 (fun _ => true) true

theorem addr_plain {a : Addr} {n : Nat} {cs : List Value} (h : W.cells? 0 a (n + 1) = some cs) : a = ⟨a.block, a.off, none⟩ ∧ a.block < W.heap.size := by
  obtain ⟨_, hlen, hcell⟩ := World.cells?_some h
  have g0 := hcell 0 (Nat.succ_pos _)
  obtain ⟨c0, hc0⟩ : ∃ c0, cs[0]? = some c0 := by
    cases cs with
    | nil => simp at hlen
    | cons c _ => exact ⟨c, rfl⟩
  rw [hc0] at g0
  refine ⟨?_, World.cells?_block h (Nat.succ_pos _)⟩
  obtain ⟨b, off, spot⟩ := a
  have hspot : spot = none := by simpa [Addr.add] using World.cell?_spot g0
  subst hspot
  rfl

/-- Kids, one by one. -/
theorem kids_mk (b off m : Nat) (each : ∀ i, i < m → ∃ (name : List UInt8) (x : Stl.Nd), (W.cell? ⟨b, off + i * 5, none⟩ = some (.string ⟨name.toArray⟩) ∧ name.length ≤ 140737488355328) ∧
      ∃ v0 v1 v2 v3, W.cell? ⟨b, off + i * 5 + 1, none⟩ = some v0 ∧ W.cell? ⟨b, off + i * 5 + 2, none⟩ = some v1 ∧ W.cell? ⟨b, off + i * 5 + 3, none⟩ = some v2 ∧ W.cell? ⟨b, off + i * 5 + 4, none⟩ = some v3 ∧ NodeAt W x [v0, v1, v2, v3]) :
    ∀ (n i0 : Nat), i0 + n = m → ∃ ks : List (List UInt8 × Stl.Nd), ks.length = n ∧ KidsAt W b (off + i0 * 5) ks
  | 0, _, _ => ⟨[], rfl, by unfold KidsAt; trivial⟩
  | n + 1, i0, h => by
    obtain ⟨ks, hl, hk⟩ := kids_mk b off m each n (i0 + 1) (by omega)
    obtain ⟨name, x, h1, h2⟩ := each i0 (by omega)
    refine ⟨(name, x) :: ks, by simp [hl], ?_⟩
    unfold KidsAt
    refine ⟨h1, h2, ?_⟩
    rw [show off + i0 * 5 + 5 = off + (i0 + 1) * 5 by omega]
    exact hk

theorem bytesKid : Tryz.prog.bytesOf 46 = 80 := by kernel_rfl
theorem bytesStr : Tryz.prog.bytesOf 9 = 16 := by kernel_rfl
theorem cellsNode : Tryz.prog.cellsOf 24 = 4 := by kernel_rfl
theorem cellsKid : Tryz.prog.cellsOf 46 = 5 := by kernel_rfl
theorem cellsStr : Tryz.prog.cellsOf 9 = 1 := by kernel_rfl
theorem cellsBool : Tryz.prog.cellsOf 4 = 1 := by kernel_rfl
theorem cellsKids : Tryz.prog.cellsOf 22 = 1 := by kernel_rfl

theorem str_nice (s : ByteArray) : Value.string s = Value.string ⟨s.data.toList.toArray⟩ := by simp

set_option maxRecDepth 100000 in
/-- A tree that is read is one. -/
theorem node_of_trod : ∀ (fuel : Nat) (cs : List Value) (d : DataW H) (ps : List MemPlace), trodN enc W fuel 24 cs = some (d, ps) → Fit (d.weights Tryz.prog 24) → ∃ n, NodeAt W n cs := by
  intro fuel
  induction fuel using Nat.strongRecOn with
  | _ fuel ih => ?_
  intro cs d ps h hfit
  obtain ⟨xs, n, rfl, hx, hl, hlen, hf⟩ := DataW.trod_struct Tryz.underlying24 h
  rw [cellsNode] at hl
  match cs, hl with
  | [c0, c1, c2, c3], _ => ?_
  match xs, hlen with
  | [y0, y1, y2, y3], _ => ?_
  simp only [Prod.mk.injEq] at hx
  obtain ⟨rfl, rfl⟩ := hx
  have h0 := hf 0 { name := "Kind", type := 9, offset := 0, embedded := false, tag := "", pkgPath := "", byteOffset := 0 } rfl
  have h1 := hf 1 { name := "Data", type := 9, offset := 1, embedded := false, tag := "", pkgPath := "", byteOffset := 16 } rfl
  have h2 := hf 2 { name := "Exec", type := 4, offset := 2, embedded := false, tag := "", pkgPath := "", byteOffset := 32 } rfl
  have h3 := hf 3 { name := "Kids", type := 22, offset := 3, embedded := false, tag := "", pkgPath := "", byteOffset := 40 } rfl
  simp only [cellsStr, cellsBool, cellsKids, List.drop_succ_cons, List.drop_zero, List.take_succ_cons, List.take_zero, List.getElem?_cons_zero, List.getElem?_cons_succ] at h0 h1 h2 h3
  obtain ⟨s0, e0, x0, z0⟩ := DataW.trod_string Tryz.underlying9 h0
  obtain ⟨s1, e1, x1, z1⟩ := DataW.trod_string Tryz.underlying9 h1
  obtain ⟨b2, e2, x2⟩ := DataW.trod_bool Tryz.underlying4 h2
  subst x0 x1 x2
  simp only [List.cons.injEq, and_true] at e0 e1 e2
  subst e0 e1 e2
  simp only [List.map_cons, List.map_nil, DataW.weights, Tryz.underlying24, DataW.weightsEach, List.nil_append, List.append_nil, List.singleton_append] at hfit
  have f0 : s0.data.toList.length ≤ reachBytes := hfit _ (List.mem_cons_self ..)
  have f1 : s1.data.toList.length ≤ reachBytes := hfit _ (List.mem_cons_of_mem _ (List.mem_cons_self ..))
  have f3 : Fit (y3.1.weights Tryz.prog 22) := fun x hx => hfit x (List.mem_cons_of_mem _ (List.mem_cons_of_mem _ hx))
  clear hfit hf h0 h1 h2 h
  have big : reachBytes ≤ 140737488355328 := by decide
  rw [str_nice s0, str_nice s1]
  rcases DataW.trod_slice Tryz.underlying22 h3 with ⟨e3, x3⟩ | ⟨a, len, cap, elems, rest, n2, en, e3, x3, _, hl3, hm3, hel, hat, hsp, _⟩
  · simp only [List.cons.injEq, and_true] at e3
    subst e3
    exact ⟨.mk s0.data.toList s1.data.toList b2 [], by unfold NodeAt; exact ⟨none, 0, rfl, ⟨by simp, by simp, Nat.le_trans f0 big, Nat.le_trans f1 big⟩, fun h => absurd rfl h⟩⟩
  · simp only [List.cons.injEq, and_true] at e3
    subst e3 x3 en
    have hrest := (hsp rfl).1
    simp only [DataW.weights, Tryz.underlying22, List.length_map, bytesKid] at f3
    have fw : (elems.length + rest.length) * 80 ≤ reachBytes := f3 _ (List.mem_cons_self ..)
    have fk := Fit.all (l := elems.map (·.1)) (fun x hx => f3 x (List.mem_cons_of_mem _ (List.mem_append_left _ hx)))
    have hcap : cap * 80 ≤ 140737488351232 := by rw [hel, hrest] at fw; rw [show len + (cap - len) = cap by omega] at fw; exact fw
    by_cases hz : len = 0
    · subst hz
      exact ⟨.mk s0.data.toList s1.data.toList b2 [], by unfold NodeAt; exact ⟨some a, cap, rfl, ⟨by simp, by simp, Nat.le_trans f0 big, Nat.le_trans f1 big⟩, fun h => absurd rfl h⟩⟩
    · have first := hat 0 (by omega)
      rw [cellsKid, List.getElem?_eq_getElem (by omega)] at first
      obtain ⟨cs0, hcs0, _⟩ := Option.bind_eq_some_iff.1 first
      have ha : a.add (0 * 5) = a := by simp [Addr.add]
      rw [ha] at hcs0
      obtain ⟨hpl, hblt⟩ := addr_plain (n := 4) hcs0
      obtain ⟨b, off, sp⟩ := a
      simp only [Addr.mk.injEq, true_and] at hpl
      subst hpl
      have each : ∀ i, i < len → ∃ (name : List UInt8) (x : Stl.Nd), (W.cell? ⟨b, off + i * 5, none⟩ = some (.string ⟨name.toArray⟩) ∧ name.length ≤ 140737488355328) ∧
          ∃ v0 v1 v2 v3, W.cell? ⟨b, off + i * 5 + 1, none⟩ = some v0 ∧ W.cell? ⟨b, off + i * 5 + 2, none⟩ = some v1 ∧ W.cell? ⟨b, off + i * 5 + 3, none⟩ = some v2 ∧ W.cell? ⟨b, off + i * 5 + 4, none⟩ = some v3 ∧ NodeAt W x [v0, v1, v2, v3] := by
        intro i hi
        have hthis := hat i hi
        rw [cellsKid, List.getElem?_eq_getElem (by omega)] at hthis
        obtain ⟨csi, hcsi, htr⟩ := Option.bind_eq_some_iff.1 hthis
        rw [add_plain] at hcsi
        obtain ⟨_, hli, hci⟩ := World.cells?_some hcsi
        match csi, hli with
        | [k0, k1, k2, k3, k4], _ => ?_
        have g0 := hci 0 (by omega)
        have g1 := hci 1 (by omega)
        have g2 := hci 2 (by omega)
        have g3 := hci 3 (by omega)
        have g4 := hci 4 (by omega)
        simp only [add_plain, Nat.add_zero, List.getElem?_cons_zero, List.getElem?_cons_succ] at g0 g1 g2 g3 g4
        have hfi := fk _ (List.mem_map.2 ⟨elems[i], List.getElem_mem (by omega), rfl⟩)
        generalize elems[i] = ei at htr hfi
        obtain ⟨di, pi⟩ := ei
        obtain ⟨ws, n3, rfl, hw, _, hwl, hwf⟩ := DataW.trod_struct Tryz.underlying46 htr
        match ws, hwl with
        | [w0, w1], _ => ?_
        simp only [Prod.mk.injEq] at hw
        obtain ⟨rfl, rfl⟩ := hw
        have t0 := hwf 0 { name := "Name", type := 9, offset := 0, embedded := false, tag := "", pkgPath := "", byteOffset := 0 } rfl
        have t1 := hwf 1 { name := "Node", type := 24, offset := 1, embedded := false, tag := "", pkgPath := "", byteOffset := 16 } rfl
        simp only [cellsStr, cellsNode, List.drop_succ_cons, List.drop_zero, List.take_succ_cons, List.take_zero, List.getElem?_cons_zero, List.getElem?_cons_succ] at t0 t1
        obtain ⟨sk, ek, xk, zk⟩ := DataW.trod_string Tryz.underlying9 t0
        subst xk
        simp only [List.cons.injEq, and_true] at ek
        subst ek
        simp only [List.map_cons, List.map_nil, DataW.weights, Tryz.underlying46, DataW.weightsEach, List.append_nil, List.singleton_append] at hfi
        have fs : sk.data.toList.length ≤ reachBytes := hfi _ (List.mem_cons_self ..)
        have fn : Fit (w1.1.weights Tryz.prog 24) := fun x hx => hfi x (List.mem_cons_of_mem _ hx)
        obtain ⟨x, hx⟩ := ih n3 (by omega) [k1, k2, k3, k4] w1.1 w1.2 t1 fn
        exact ⟨sk.data.toList, x, ⟨by rw [← str_nice]; exact g0, Nat.le_trans fs big⟩, k1, k2, k3, k4, g1, g2, g3, g4, hx⟩
      obtain ⟨ks, hkl, hk⟩ := kids_mk b off len each len 0 (by omega)
      refine ⟨.mk s0.data.toList s1.data.toList b2 ks, ?_⟩
      unfold NodeAt
      refine ⟨some ⟨b, off, none⟩, cap, by rw [hkl], ⟨by rw [hkl]; exact hl3, by rw [hkl]; omega, Nat.le_trans f0 big, Nat.le_trans f1 big⟩, fun _ => ⟨b, off, rfl, hblt, ?_⟩⟩
      simpa using hk

/-- A slice of texts that is read is one. -/
theorem named_of_trod {fuel : Nat} {cs : List Value} {d : DataW H} {ps : List MemPlace} (h : trodN enc W fuel 25 cs = some (d, ps)) (hfit : Fit (d.weights Tryz.prog 25)) :
    ∃ (A : Option Addr) (c : Nat) (l : List (List UInt8)), cs = [.slice A l.length c] ∧ Named W A c l := by
  rcases Deep.open_strs Tryz.underlying25 Tryz.underlying9 cellsStr h with ⟨rfl, _⟩ | ⟨a, len, cap, m, Sx, rfl, _, hl, _, hm, hx, hcell⟩
  · exact ⟨none, 0, [], rfl, ⟨none, 0, rfl, fun h => absurd rfl h⟩, fun _ => ⟨rfl, rfl⟩, by omega, Nat.le_refl _⟩
  · obtain rfl : m = cap := by simpa using hm
    simp only [Prod.mk.injEq] at hx
    obtain ⟨rfl, rfl⟩ := hx
    simp only [DataW.weights, Tryz.underlying25, List.length_map, List.length_range, bytesStr] at hfit
    have fw : (len + (m - len)) * 16 ≤ reachBytes := hfit _ (List.mem_cons_self ..)
    have hcap : m * 16 ≤ 140737488351232 := by rw [show len + (m - len) = m by omega] at fw; exact fw
    refine ⟨some a, m, (List.range len).map fun i => (Sx i).data.toList, by simp, ⟨some a, m, by simp, fun hn => ?_⟩, (fun h => by cases h), by omega, by simpa using hl⟩
    have hpos : 0 < len := by
      rcases Nat.eq_zero_or_pos len with h | h
      · subst h; exact absurd rfl hn
      · exact h
    have h0 := (hcell 0 (by omega)).1
    rw [show a.add 0 = a by simp [Addr.add]] at h0
    have hs := World.cell?_spot h0
    obtain ⟨b, off, sp⟩ := a
    simp only at hs
    subst hs
    refine ⟨b, off, rfl, ?_, fun j x hj => ?_⟩
    · rcases Nat.lt_or_ge b W.heap.size with h' | h'
      · exact h'
      · simp [World.cell?, Array.getElem?_eq_none h'] at h0
    · have hjl : j < len := by
        rcases Nat.lt_or_ge j len with h' | h'
        · exact h'
        · rw [List.getElem?_eq_none (by simpa using h')] at hj; cases hj
      rw [List.getElem?_map, List.getElem?_range hjl] at hj
      simp only [Option.map_some, Option.some.injEq] at hj
      subst hj
      have := (hcell j (by omega)).1
      rw [add_plain] at this
      rw [this, str_nice]
end
#print axioms node_of_trod
#print axioms named_of_trod
end Go.Proofs.YtgmdifmokcnbpaaGreatDoor
