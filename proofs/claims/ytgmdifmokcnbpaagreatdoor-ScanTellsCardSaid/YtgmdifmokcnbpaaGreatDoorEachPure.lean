/- The plain law of a tree that is well: each of its nodes is well, its paths are short, and there are two hundred at most. No program in sight. -/
import Derived.Test.YtgmdifmokcnbpaaGreatDoorModelPure
set_option linter.unusedVariables false
namespace Stl

theorem ite0 {c : Prop} [Decidable c] {a b : Nat} (ha : a ≠ 0) (h : (if c then a else b) = 0) : ¬ c ∧ b = 0 := by
  split at h
  · exact absurd h ha
  · exact ⟨by assumption, h⟩

theorem own_zero {k d : Bytes} {e : Bool} {nms : List Bytes} (h : ownErrP k d e nms = 0) : d.length ≤ 2000 ∧ nms.all isName = true ∧ risesB nms = true := by
  unfold ownErrP at h
  obtain ⟨_, h⟩ := ite0 (by decide) h
  obtain ⟨_, h⟩ := ite0 (by decide) h
  obtain ⟨h1, h⟩ := ite0 (by decide) h
  obtain ⟨_, h⟩ := ite0 (by decide) h
  obtain ⟨h2, h⟩ := ite0 (by decide) h
  obtain ⟨h3, _⟩ := ite0 (by decide) h
  exact ⟨by omega, by simpa using h2, by simpa using h3⟩

theorem own_names {k d : Bytes} {e : Bool} {ks : List (Bytes × Nd)} (h : ownErr (.mk k d e ks) = 0) : ∀ p ∈ ks, isName p.1 = true := fun p hp =>
  List.all_eq_true.1 (own_zero h).2.1 p.1 (List.mem_map.2 ⟨p, hp, rfl⟩)

theorem own_data {n : Nd} (h : ownErr n = 0) : n.data.length ≤ 2000 := (own_zero h).1

theorem isName_short {s : Bytes} (h : isName s = true) : s.length ≤ 12 := by
  unfold isName at h
  simp only [Bool.and_eq_true, decide_eq_true_eq] at h
  omega

mutual
theorem chk_flat : ∀ (n : Nd) (path : Bytes) (deep c : Nat), (chk ownErr n deep c).1 = 0 → path.length ≤ 13 * deep →
    (chk ownErr n deep c).2 = c + (flat n path deep).length ∧ ∀ x ∈ flat n path deep, ownErr x.n = 0 ∧ x.path.length ≤ 104
  | .mk k d e ks, path, deep, c, h, hp => by
    rw [chk] at h ⊢
    split at h
    · cases h
    · rename_i h1
      rw [if_neg h1]
      split at h
      · cases h
      · rename_i h2
        rw [if_neg h2]
        split at h
        · rename_i h3
          rw [if_pos h3]
          obtain ⟨k1, k2⟩ := chkL_flat ks path (deep + 1) (c + 1) h (by omega) (own_names h3)
          simp only [flat, List.length_cons, List.mem_cons]
          refine ⟨by omega, ?_⟩
          rintro x (rfl | hx)
          · exact ⟨h3, by simp only; omega⟩
          · exact k2 x hx
        · rename_i h3
          exact absurd h h3
theorem chkL_flat : ∀ (l : List (Bytes × Nd)) (path : Bytes) (deep c : Nat), (chkL ownErr l deep c).1 = 0 → path.length + 13 ≤ 13 * deep → (∀ p ∈ l, isName p.1 = true) →
    (chkL ownErr l deep c).2 = c + (flatL l path deep).length ∧ ∀ x ∈ flatL l path deep, ownErr x.n = 0 ∧ x.path.length ≤ 104
  | [], path, deep, c, _, _, _ => by simp [chkL, flatL]
  | (nm, x) :: r, path, deep, c, h, hp, hn => by
    rw [chkL] at h ⊢
    split at h
    · rename_i h1
      rw [if_pos h1]
      have hnm := isName_short (hn (nm, x) (by simp))
      simp only at hnm
      obtain ⟨k1, k2⟩ := chk_flat x (path ++ 47 :: nm) deep c h1 (by simp; omega)
      obtain ⟨k3, k4⟩ := chkL_flat r path deep _ h hp (fun p hp => hn p (by simp [hp]))
      simp only [flatL, List.length_append, List.mem_append]
      refine ⟨by omega, ?_⟩
      rintro y (hy | hy)
      · exact k2 y hy
      · exact k4 y hy
    · rename_i h1
      exact absurd h h1
end

theorem items_well {n : Nd} (h : treeErr n = 0) : (flat n [] 0).length ≤ 200 ∧ ∀ x ∈ flat n [] 0, ownErr x.n = 0 ∧ x.path.length ≤ 104 := by
  obtain ⟨k1, k2⟩ := chk_flat n [] 0 0 h (by simp)
  have := chk_two_le ownErr n 0 0 h
  exact ⟨by omega, k2⟩

theorem flatL_append : ∀ (a b : List (Bytes × Nd)) (path : Bytes) (deep : Nat), flatL (a ++ b) path deep = flatL a path deep ++ flatL b path deep
  | [], b, path, deep => rfl
  | (nm, x) :: r, b, path, deep => by simp [flatL, flatL_append r b path deep]

theorem flat_head (n : Nd) (path : Bytes) (deep : Nat) : (⟨path, deep, n⟩ : It) ∈ flat n path deep := by
  cases n
  simp [flat]
#print axioms items_well
end Stl
