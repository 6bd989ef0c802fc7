/- The thirteen errors and errors.errorType, qs the row of ScanTells lays them. -/
import Derived.Test.YtgmdifmokcnbpaaGreatDoorTellsRead
namespace Go.Proofs.YtgmdifmokcnbpaaGreatDoor
open Go.ChangeShapes Go.ChangeMaps Go.WideShapes Go.ChangeAt Go.RowKit
namespace Tells

theorem cellsE : Tryz.prog.cellsOf 194 = 1 := by kernel_rfl
theorem star : "*" ++ "errors.errorString" = "*errors.errorString" := by decide
theorem rowE (u : TypeId) (h : Tryz.prog.typeName? 3 u = some "*errors.errorString") : u = 176 :=
  typeName_ptr_named (nm := "errors.errorString") (by rw [star]; kernel_rfl) (by kernel_rfl) (by decide) u (by rw [star]; exact h)

theorem errAt_of_var {W : World} {n : String} {g : Nat} {p : Addr} (hg : Tryz.prog.globalNamed n = some g) (h : W.var? Tryz.prog n = some #[.iface 176 (.pointer (some p))]) : errAt W g p := by
  have hc := World.var?_cell hg h 0
  refine ⟨by simpa using hc, ?_⟩
  rcases Nat.lt_or_ge g W.heap.size with h' | h'
  · exact h'
  · simp [World.cell?, Array.getElem?_eq_none h'] at hc

/-- A sentinel, qs it is laid. -/
def sentinel (x : String × Nat × List UInt8) : String × DataW Unit := (x.1, .iface "*errors.errorString" (.ptr (.agg [.lit (.string x.2.2)])))

set_option maxRecDepth 100000 in
/-- Sentinels that lie one behind the other on the list: each has a place of its own. -/
theorem sentinels {W : World} : ∀ (l : List (String × Nat × List UInt8)) (r : List (String × DataW Unit)) (ps : List MemPlace), DataW.LaidVars Tryz.prog W (l.map sentinel ++ r) ps → ps.Nodup →
    (∀ b off, MemPlace.cell b off ∈ ps → (∃ c t, W.heap[b]? = some (.cells c t (0, 0))) ∧ ∀ u v, W.cell? ⟨b, off, none⟩ = some (.iface u v) → Value.okWide Tryz.prog W .any 0 u v) →
    (∀ x ∈ l, Tryz.prog.globalNamed x.1 = some x.2.1 ∧ (Tryz.prog.globals[x.2.1]?).map (·.type) = some 34) →
    ∃ qs : List Addr, qs.length = l.length ∧ (∀ (j : Nat) x a, l[j]? = some x → qs[j]? = some a → errAt W x.2.1 a) ∧ (∀ a ∈ qs, MemPlace.cell a.block a.off ∈ ps) ∧ (∀ a ∈ qs, ∃ cs ts, W.heap[a.block]? = some (.cells cs ts (0, 0))) ∧ qs.Pairwise (· ≠ ·)
  | [], _, _, _, _, _, _ => ⟨[], rfl, by simp, by simp, by simp, List.Pairwise.nil⟩
  | x :: l, r, ps, h, hnd, hrows, hgs => by
    obtain ⟨g0, t0, cs0, f0, p0, q0, hg0, ht0, hv0, hd0, hq, e0⟩ := h
    obtain ⟨hg, ht⟩ := hgs x (List.mem_cons_self ..)
    obtain rfl := Option.some.inj (hg.symm.trans hg0)
    obtain rfl := Option.some.inj (ht.symm.trans ht0)
    subst e0
    obtain ⟨qs, h1, h2, h3, h4, h5⟩ := sentinels l r q0 hq (List.Nodup.sublist (List.sublist_append_right _ _) hnd) (fun b off hm => hrows b off (List.mem_append_right _ hm)) (fun y hy => hgs y (List.mem_cons_of_mem _ hy))
    obtain ⟨l0⟩ := cs0
    have ok0 : ∀ u v, l0 = [.iface u v] → Value.okWide Tryz.prog W .any 0 u v := fun u v e => by
      subst e
      exact (hrows x.2.1 0 (by simp [MemPlace.row])).2 u v (by simpa using World.var?_cell hg0 hv0 0)
    obtain ⟨a0, s0, rfl, hc0, hs0, hz0, rfl⟩ := errorString_of_trod Tryz.underlying34 rowE Tryz.underlying176 Tryz.underlying194 rfl rfl Tryz.underlying9 cellsE cellsStr hd0 ok0
    have hb0 := (hrows a0.block a0.off (by simp [MemPlace.row])).1
    refine ⟨a0 :: qs, by simp [h1], ?_, ?_, ?_, ?_⟩
    · intro j y a hj ha
      cases j with
      | zero =>
        simp only [List.getElem?_cons_zero, Option.some.injEq] at hj ha
        subst hj ha
        exact errAt_of_var hg0 hv0
      | succ j => exact h2 j y a (by simpa using hj) (by simpa using ha)
    · intro a ha
      rcases List.mem_cons.1 ha with rfl | ha
      · exact List.mem_append_left _ (List.mem_append_right _ (by simp [MemPlace.row]))
      · exact List.mem_append_right _ (h3 a ha)
    · intro a ha
      rcases List.mem_cons.1 ha with rfl | ha
      · exact hb0
      · exact h4 a ha
    · refine List.pairwise_cons.2 ⟨fun a ha e => ?_, h5⟩
      subst e
      have := (List.nodup_append.1 hnd).2.2 (MemPlace.cell a0.block a0.off) (List.mem_append_right _ (by simp [MemPlace.row])) _ (h3 _ ha)
      exact this rfl

/-- The thirteen, in the order in which the row lists them. -/
def thirteen : List (String × Nat × List UInt8) := [
  ("stillroom/api.ErrText", 2, [115, 116, 105, 108, 108, 114, 111, 111, 109, 58, 32, 116, 101, 120, 116]),
  ("stillroom/api.ErrBound", 1, [115, 116, 105, 108, 108, 114, 111, 111, 109, 58, 32, 98, 111, 117, 110, 100]),
  ("stillroom/api.ErrShape", 3, [115, 116, 105, 108, 108, 114, 111, 111, 109, 58, 32, 115, 104, 97, 112, 101]),
  ("stillroom/api.ErrKind", 4, [115, 116, 105, 108, 108, 114, 111, 111, 109, 58, 32, 107, 105, 110, 100]),
  ("stillroom/api.ErrName", 0, [115, 116, 105, 108, 108, 114, 111, 111, 109, 58, 32, 110, 97, 109, 101]),
  ("stillroom/api.ErrNone", 5, [115, 116, 105, 108, 108, 114, 111, 111, 109, 58, 32, 110, 111, 110, 101]),
  ("stillroom/api.ErrExist", 6, [115, 116, 105, 108, 108, 114, 111, 111, 109, 58, 32, 101, 120, 105, 115, 116]),
  ("stillroom/api.ErrFull", 7, [115, 116, 105, 108, 108, 114, 111, 111, 109, 58, 32, 102, 117, 108, 108]),
  ("stillroom/api.ErrDeep", 8, [115, 116, 105, 108, 108, 114, 111, 111, 109, 58, 32, 100, 101, 101, 112]),
  ("stillroom/api.ErrOrder", 9, [115, 116, 105, 108, 108, 114, 111, 111, 109, 58, 32, 111, 114, 100, 101, 114]),
  ("stillroom/api.ErrSum", 10, [115, 116, 105, 108, 108, 114, 111, 111, 109, 58, 32, 115, 117, 109]),
  ("stillroom/api.ErrInUse", 11, [115, 116, 105, 108, 108, 114, 111, 111, 109, 58, 32, 105, 110, 32, 117, 115, 101]),
  ("stillroom/api.ErrOff", 12, [115, 116, 105, 108, 108, 114, 111, 111, 109, 58, 32, 111, 102, 102])]

theorem thirteen_named : ∀ x ∈ thirteen, Tryz.prog.globalNamed x.1 = some x.2.1 ∧ (Tryz.prog.globals[x.2.1]?).map (·.type) = some 34 := by
  have h : (thirteen.all fun x => Tryz.prog.globalNamed x.1 == some x.2.1 && ((Tryz.prog.globals[x.2.1]?).map (·.type) == some 34)) = true := by kernel_rfl
  intro x hx
  have := List.all_eq_true.1 h x hx
  simpa using this

theorem thirteen_at : ∀ j, j < 13 → (thirteen[j]?).map (·.2.1) = some (errG (j + 1)) := by decide

theorem laid_data : Rows.scanTellsRow.laid.filter (fun x => x.2.handleName?.isNone) = ("unicode/utf8.acceptRanges", Rows.laid_unicode_utf8_acceptRanges) :: (thirteen.map sentinel ++ [("unicode/utf8.first", Rows.laid_unicode_utf8_first)]) := by kernel_rfl
theorem laid_handle : Rows.scanTellsRow.laid.filter (fun x => x.2.handleName?.isSome) = [("errors.errorType", Rows.laid_errors_errorType)] := by kernel_rfl

theorem et : Tryz.prog.globalNamed "errors.errorType" = some 13 := by kernel_rfl
theorem rt : (Tryz.prog.cutTypes.find? (·.1 == "internal/reflectlite.rtype")).map (·.2) = some 145 := by kernel_rfl
theorem size : Tryz.prog.types.size = 206 := by kernel_rfl
theorem oneRow : ((List.range 206).filter fun t => Tryz.prog.rowNamed t [101, 114, 114, 111, 114]) = [34] := by kernel_rfl

theorem handle_of_laid {W : World} (h : handlesMet Tryz.prog [("errors.errorType", Rows.laid_errors_errorType)] W) : W.cell? ⟨13, 0, none⟩ = some (.iface 145 (.agg #[.pointer (some ⟨17, 34, none⟩)])) := by
  obtain ⟨name, u, ty, e1, e2, e3, e4, e5⟩ := h _ (List.mem_singleton.2 rfl)
  have en : name = [101, 114, 114, 111, 114] := (Option.some.inj e1).symm
  subst en
  obtain rfl := Option.some.inj (rt.symm.trans e2)
  have hm : ty ∈ (List.range 206).filter fun t => Tryz.prog.rowNamed t [101, 114, 114, 111, 114] := List.mem_filter.2 ⟨List.mem_range.2 (by rw [← size]; exact e3), e4⟩
  rw [oneRow] at hm
  obtain rfl := List.mem_singleton.1 hm
  have hh : typeHandle Tryz.prog 34 = .pointer (some ⟨17, 34, none⟩) := by kernel_rfl
  rw [hh] at e5
  simpa using World.var?_cell et e5 0

theorem errs {W : World} (hL : laidMetH Tryz.prog Rows.scanTellsRow.laid W) : ∃ p, Errs W p := by
  obtain ⟨hd, hh⟩ := laidMetH_iff.1 hL
  rw [laid_data] at hd
  rw [laid_handle] at hh
  obtain ⟨ps, hv, hnd, hrows⟩ := laidMet.tail hd
  obtain ⟨qs, h1, h2, _, h4, h5⟩ := sentinels thirteen _ ps hv hnd hrows thirteen_named
  have hc := handle_of_laid hh
  have hget : ∀ c, 1 ≤ c → c ≤ 13 → qs[c - 1]? = some (qs.getD (c - 1) default) := fun c _ hc => by
    have : c - 1 < qs.length := by rw [h1]; exact Nat.lt_of_lt_of_le (by omega : c - 1 < 13) (by decide)
    simp [List.getD, List.getElem?_eq_getElem this]
  refine ⟨fun c => qs.getD (c - 1) default, fun c h1' h2' => ?_, fun c h1' h2' => h4 _ (List.mem_of_getElem? (hget c h1' h2')), fun c d c1 cd d1 e => ?_, hc, ?_⟩
  · have e := thirteen_at (c - 1) (by omega)
    rw [show c - 1 + 1 = c by omega] at e
    obtain ⟨x, hx, hg⟩ := Option.map_eq_some_iff.1 e
    rw [← hg]
    exact h2 (c - 1) x _ hx (hget c h1' h2')
  · have hc := hget c c1 (by omega)
    have hdd := hget d (by omega) d1
    have l1 : c - 1 < qs.length := (List.getElem?_eq_some_iff.1 hc).1
    have l2 : d - 1 < qs.length := (List.getElem?_eq_some_iff.1 hdd).1
    have := List.pairwise_iff_getElem.1 h5 (c - 1) (d - 1) l1 l2 (by omega)
    apply this
    rw [List.getElem?_eq_getElem l1] at hc
    rw [List.getElem?_eq_getElem l2] at hdd
    rw [Option.some.inj hc, Option.some.inj hdd]
    exact e
  · rcases Nat.lt_or_ge 13 W.heap.size with h' | h'
    · exact h'
    · simp [World.cell?, Array.getElem?_eq_none h'] at hc
#print axioms errs
end Tells
end Go.Proofs.YtgmdifmokcnbpaaGreatDoor
