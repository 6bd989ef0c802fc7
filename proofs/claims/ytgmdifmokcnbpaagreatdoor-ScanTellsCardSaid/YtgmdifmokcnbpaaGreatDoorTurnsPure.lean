/- The plain law of ScanTurns: what a turned text mentions, and that a turn back gives the text again. -/
import Derived.Test.YtgmdifmokcnbpaaGreatDoorRisePure
namespace Stl

theorem found_mem (x : List UInt8) (ns : List (List UInt8)) (y : List UInt8) : y ∈ found x ns ↔ y ∈ ments x ∧ isName y = true ∧ y ∈ ns := by
  unfold found
  rw [mem_insAll]
  simp

theorem found_one (x f : List UInt8) (hf : isName f = true) : 0 < (found x [f]).length ↔ f ∈ ments x := by
  rw [List.length_pos_iff_exists_mem]
  constructor
  · rintro ⟨y, hy⟩
    obtain ⟨h1, _, h3⟩ := (found_mem _ _ _).1 hy
    rw [List.mem_singleton] at h3
    subst h3
    exact h1
  · intro h
    exact ⟨f, (found_mem _ _ _).2 ⟨h, hf, by simp⟩⟩

theorem turns_gone (s f t : List UInt8) (ht : isName t = true) (hne : f ≠ t) : f ∉ ments (turnL f t 0 s) := by
  rw [ments_turn f t (name_letters ht) _ s (Nat.le_refl _)]
  intro h
  obtain ⟨y, _, hy⟩ := List.mem_map.1 h
  split at hy
  · exact hne hy.symm
  · rename_i h1
    exact h1 (by simp [hy])

theorem turns_come (s f t : List UInt8) (ht : isName t = true) (hm : f ∈ ments s) : t ∈ ments (turnL f t 0 s) := by
  rw [ments_turn f t (name_letters ht) _ s (Nat.le_refl _)]
  exact List.mem_map.2 ⟨f, hm, by simp⟩

theorem turns_back (s f t : List UInt8) (hf : isName f = true) (ht : isName t = true) (h : t ∉ ments s ∨ f = t) : turnL t f 0 (turnL f t 0 s) = s := by
  by_cases he : f = t
  · subst he
    rw [turn_self _ _ s (Nat.le_refl _), turn_self _ _ s (Nat.le_refl _)]
  · exact turn_back f t he (name_letters hf) (name_letters ht) _ s (Nat.le_refl _) (h.resolve_right he)

theorem turns_more (s m : List UInt8) (ns : List (List UInt8)) (y : List UInt8) (h : y ∈ found s ns) : y ∈ found (s ++ 32 :: m) ns := by
  obtain ⟨h1, h2⟩ := (found_mem _ _ _).1 h
  refine (found_mem _ _ _).2 ⟨?_, h2⟩
  rw [ments_more s (32 :: m) (by rfl)]
  exact List.mem_append_left _ h1

theorem found_length (x : List UInt8) (ns : List (List UInt8)) : (found x ns).length ≤ x.length := by
  have h1 := insAll_length ((ments x).filter fun w => isName w && ns.contains w) []
  have h2 := List.length_filter_le (fun w => isName w && ns.contains w) (ments x)
  have h3 := mentsAt_length 0 x
  have h4 : (ments x).length = (mentsAt 0 x).length := by rw [← mentsAt_words 0 x, List.length_map]
  rw [List.length_nil, Nat.zero_add] at h1
  exact Nat.le_trans h1 (Nat.le_trans h2 (by omega))

#print axioms turns_back
end Stl
