/- The plain law of sorting and compacting: a sorted list, each run cut to one, is the rising list of its texts. -/
import Derived.Test.YtgmdifmokcnbpaaGreatDoorTurnsPure
import Derived.Lib.SlicesCompact
import Derived.Sort.KeysCollected
namespace Stl
open Go Go.Lib

theorem compact_upto (zs : List Bytes) (hz : zs.Pairwise (· ≤ ·)) : ∀ m, m ≤ zs.length →
    Rise (compactUpTo zs.toArray m) ∧ (∀ y, y ∈ compactUpTo zs.toArray m ↔ ∃ j, j < m ∧ zs.toArray[j]! = y) ∧ (∀ y ∈ compactUpTo zs.toArray m, y ≤ zs.toArray[m - 1]!)
  | 0, _ => ⟨List.Pairwise.nil, fun y => by simp [compactUpTo], fun y hy => by simp [compactUpTo] at hy⟩
  | m + 1, hm => by
    obtain ⟨h1, h2, h3⟩ := compact_upto zs hz m (by omega)
    have hle : 0 < m → zs.toArray[m - 1]! ≤ zs.toArray[m]! := fun h0 => by
      have := List.pairwise_iff_getElem.1 hz (m - 1) m (by omega) (by omega) (by omega)
      simpa [getElem!_pos, show m - 1 < zs.length by omega, show m < zs.length by omega] using this
    rw [compactUpTo_succ]
    by_cases hk : keeps zs.toArray m = true
    · rw [if_pos hk]
      have hlt : ∀ y ∈ compactUpTo zs.toArray m, y < zs.toArray[m]! := fun y hy => by
        have hy2 := h3 y hy
        have h0 : 0 < m := by
          obtain ⟨j, hj, _⟩ := (h2 y).1 hy
          omega
        have hne : zs.toArray[m]! ≠ zs.toArray[m - 1]! := by
          intro e
          rw [keeps_neg h0 e] at hk
          cases hk
        have hl := hle h0
        rcases blt_tri zs.toArray[m - 1]! zs.toArray[m]! with h | h | h
        · exact List.lt_of_le_of_lt hy2 h
        · exact absurd h.symm hne
        · exact absurd h (List.not_lt.2 hl)
      refine ⟨List.pairwise_append.2 ⟨h1, by simp, fun a ha b hb => ?_⟩, fun y => ?_, fun y hy => ?_⟩
      · rw [List.mem_singleton] at hb
        subst hb
        exact hlt a ha
      · rw [List.mem_append, List.mem_singleton, h2]
        constructor
        · rintro (⟨j, hj, e⟩ | rfl)
          · exact ⟨j, by omega, e⟩
          · exact ⟨m, by omega, rfl⟩
        · rintro ⟨j, hj, e⟩
          rcases Nat.lt_or_ge j m with h | h
          · exact .inl ⟨j, h, e⟩
          · obtain rfl : j = m := by omega
            exact .inr e.symm
      · rw [Nat.add_sub_cancel]
        rcases List.mem_append.1 hy with h | h
        · exact List.le_of_lt (hlt y h)
        · rw [List.mem_singleton] at h
          subst h
          exact List.le_refl _
    · rw [if_neg hk, List.append_nil]
      have h0 : 0 < m := by
        rcases Nat.eq_zero_or_pos m with h | h
        · subst h
          exact absurd (keeps_lt_one zs.toArray 0 (by omega)) hk
        · exact h
      have he : zs.toArray[m]! = zs.toArray[m - 1]! := by
        by_cases e : zs.toArray[m]! = zs.toArray[m - 1]!
        · exact e
        · exact absurd (keeps_pos e) hk
      refine ⟨h1, fun y => ?_, fun y hy => ?_⟩
      · rw [h2]
        constructor
        · rintro ⟨j, hj, e⟩
          exact ⟨j, by omega, e⟩
        · rintro ⟨j, hj, e⟩
          rcases Nat.lt_or_ge j m with h | h
          · exact ⟨j, h, e⟩
          · obtain rfl : j = m := by omega
            exact ⟨j - 1, by omega, by rw [← he]; exact e⟩
      · rw [Nat.add_sub_cancel, he]
        exact h3 y hy

/-- slices.Sort, then slices.Compact. -/
theorem sort_compact (xs : List Bytes) : compact (xs.mergeSort leB) = insAll xs [] := by
  have tr : ∀ a b c : List UInt8, leB a b = true → leB b c = true → leB a c = true := fun a b c h1 h2 => by simp only [leB, decide_eq_true_eq] at *; exact List.le_trans h1 h2
  have to : ∀ a b : List UInt8, (leB a b || leB b a) = true := fun a b => by simp only [leB, Bool.or_eq_true, decide_eq_true_eq]; exact List.le_total a b
  have hs : (xs.mergeSort leB).Pairwise (· ≤ ·) := (List.pairwise_mergeSort tr to xs).imp (fun h => by simpa using h)
  obtain ⟨h1, h2, _⟩ := compact_upto _ hs _ (Nat.le_refl _)
  refine insAll_eq h1 fun y => ?_
  show y ∈ compactUpTo _ _ ↔ _
  rw [h2, ← (List.mergeSort_perm xs leB).mem_iff, List.mem_iff_getElem]
  generalize xs.mergeSort leB = zs
  have hg : ∀ (j : Nat) (hj : j < zs.length), zs.toArray[j]! = zs[j] := fun j hj => by simp [hj]
  constructor
  · rintro ⟨j, hj, e⟩
    exact ⟨j, hj, by rw [← hg j hj]; exact e⟩
  · rintro ⟨j, hj, e⟩
    exact ⟨j, hj, by rw [hg j hj]; exact e⟩
#print axioms sort_compact
end Stl
