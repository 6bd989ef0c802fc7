/- The plain law of trees (chapter 1): the check of a tree, node by node, and the list of its nodes; the two ways of going over it come to one. No program in sight. -/
set_option linter.unusedSimpArgs false
set_option linter.unusedVariables false
namespace Stl

/-- A tree, as plain data. -/
inductive Nd where
  | mk (kind data : List UInt8) (exec : Bool) (kids : List (List UInt8 × Nd))

def Nd.kind : Nd → List UInt8 | .mk k _ _ _ => k
def Nd.data : Nd → List UInt8 | .mk _ d _ _ => d
def Nd.exec : Nd → Bool | .mk _ _ e _ => e
def Nd.kids : Nd → List (List UInt8 × Nd) | .mk _ _ _ ks => ks
theorem Nd.eta (n : Nd) : n = .mk n.kind n.data n.exec n.kids := by cases n; rfl

/-- A node with its path, and how deep it lies. -/
structure It where
  path : List UInt8
  deep : Nat
  n : Nd

section
variable (own : Nd → Nat)

mutual
/-- The check of a node, c nodes having been met: an error's number, and how many have been met then. -/
def chk : Nd → Nat → Nat → Nat × Nat
  | .mk k d e ks, deep, c => if 8 < deep then (9, c + 1) else if 200 < c + 1 then (8, c + 1) else if own (.mk k d e ks) = 0 then chkL ks (deep + 1) (c + 1) else (own (.mk k d e ks), c + 1)
def chkL : List (List UInt8 × Nd) → Nat → Nat → Nat × Nat
  | [], _, c => (0, c)
  | (_, x) :: r, deep, c => if (chk x deep c).1 = 0 then chkL r deep (chk x deep c).2 else chk x deep c
end

/-- .. of nodes that wait. -/
def chkI : List It → Nat → Nat
  | [], _ => 0
  | x :: r, c => if (chk own x.n x.deep c).1 = 0 then chkI r (chk own x.n x.deep c).2 else (chk own x.n x.deep c).1

/-- A list of nodes, one by one: the number of the first that is not well. -/
def scanErr : Nat → List It → Nat
  | _, [] => 0
  | i, x :: r => if 8 < x.deep then 9 else if 200 ≤ i then 8 else if own x.n = 0 then scanErr (i + 1) r else own x.n

/-- A node's kids, so many and one at most. -/
def kidItems (most : Nat) (x : It) : List It := (x.n.kids.take (most + 1)).map fun p => ⟨x.path ++ 47 :: p.1, x.deep + 1, p.2⟩

/-- So many nodes of those that wait are opened: a node ahead of its kids. -/
def pre (most deep : Nat) : Nat → List It → List It
  | 0, l => l
  | _, [] => []
  | f + 1, x :: r => x :: pre most deep f (if deep < x.deep then r else kidItems most x ++ r)

mutual
theorem chk_more : ∀ (n : Nd) (deep c : Nat), c < (chk own n deep c).2
  | .mk k d e ks, deep, c => by
    have h := chkL_more ks (deep + 1) (c + 1)
    unfold chk
    split
    · simp
    · split
      · simp
      · split
        · have := h.1; omega
        · simp
theorem chkL_more : ∀ (l : List (List UInt8 × Nd)) (deep c : Nat), c ≤ (chkL own l deep c).2 ∧ ((chkL own l deep c).1 = 0 → c + l.length ≤ (chkL own l deep c).2)
  | [], _, c => by simp [chkL]
  | (_, x) :: r, deep, c => by
    have h1 := chk_more x deep c
    have h2 := chkL_more r deep (chk own x deep c).2
    unfold chkL
    split
    · refine ⟨by omega, fun h => ?_⟩
      have := h2.2 h
      simp only [List.length_cons]
      omega
    · rename_i hne
      exact ⟨by omega, fun h => absurd h hne⟩
end

theorem chk_full (n : Nd) (deep c : Nat) (h : 200 ≤ c) : (chk own n deep c).1 ≠ 0 := by
  cases n
  unfold chk
  split
  · simp
  · rw [if_pos (by omega)]; simp

theorem chk_le (n : Nd) (deep c : Nat) (h : (chk own n deep c).1 = 0) : c < 200 := by
  rcases Nat.lt_or_ge c 200 with h2 | h2
  · exact h2
  · exact absurd h (chk_full own n deep c h2)

theorem chkL_le : ∀ (l : List (List UInt8 × Nd)) (deep c : Nat), c ≤ 200 → (chkL own l deep c).1 = 0 → (chkL own l deep c).2 ≤ 200
  | [], _, c, hc, _ => by simpa [chkL] using hc
  | (_, x) :: r, deep, c, hc, h => by
    unfold chkL at h ⊢
    by_cases h1 : (chk own x deep c).1 = 0
    · rw [if_pos h1] at h ⊢
      refine chkL_le r deep _ ?_ h
      rcases Nat.lt_or_ge 200 (chk own x deep c).2 with h2 | h2
      · exfalso
        -- the node's own count ends at 200 at most
        cases x with
        | mk k d e ks =>
          unfold chk at h1 h2
          split at h1
          · simp at h1
          · rename_i hd
            rw [if_neg hd] at h2
            split at h1
            · simp at h1
            · rename_i hd2
              rw [if_neg hd2] at h2
              split at h1
              · rename_i hd3
                rw [if_pos hd3] at h2
                have := chkL_le ks (deep + 1) (c + 1) (by omega) h1
                omega
              · rename_i hd3
                exact hd3 h1
      · exact h2
    · rw [if_neg h1] at h
      exact absurd h h1

theorem chk_two_le (x : Nd) (deep c : Nat) (h1 : (chk own x deep c).1 = 0) : (chk own x deep c).2 ≤ 200 := by
  have hc := chk_le own x deep c h1
  have h := chkL_le own [([], x)] deep c (by omega)
  simp only [chkL] at h
  rw [if_pos h1] at h
  exact h rfl

/-- Kids beyond those that there may be are not asked. -/
theorem chkL_take : ∀ (m : Nat) (l : List (List UInt8 × Nd)) (deep c : Nat), 200 ≤ m + c → (chkL own (l.take (m + 1)) deep c).1 = (chkL own l deep c).1
  | _, [], _, _, _ => by simp
  | 0, (_, x) :: r, deep, c, h => by
    simp only [Nat.zero_add, List.take_succ_cons, List.take_zero, chkL]
    have := chk_full own x deep c (by omega)
    rw [if_neg this, if_neg this]
  | m + 1, (_, x) :: r, deep, c, h => by
    simp only [List.take_succ_cons, chkL]
    have h1 := chk_more own x deep c
    by_cases h2 : (chk own x deep c).1 = 0
    · rw [if_pos h2, if_pos h2]
      exact chkL_take m r deep _ (by omega)
    · rw [if_neg h2, if_neg h2]

theorem chkI_append : ∀ (a b : List It) (c c' : Nat), (∀ d, c ≤ d → True) → chkI own (a ++ b) c = (if chkI own a c = 0 then chkI own (a ++ b) c else chkI own a c)
  | [], b, c, _, _ => by simp [chkI]
  | x :: r, b, c, c', _ => by
    simp only [List.cons_append, chkI]
    by_cases h : (chk own x.n x.deep c).1 = 0
    · rw [if_pos h, if_pos h]
      exact chkI_append r b _ 0 (fun _ _ => trivial)
    · rw [if_neg h, if_neg h, if_neg h]

/-- A node's kids, then those that wait: as the kids' own check goes. -/
theorem chkI_kids (l : List (List UInt8 × Nd)) (g : List UInt8 × Nd → It) (deep : Nat) (hg : ∀ p, (g p).n = p.2 ∧ (g p).deep = deep) : ∀ (r : List It) (c : Nat),
    chkI own (l.map g ++ r) c = if (chkL own l deep c).1 = 0 then chkI own r (chkL own l deep c).2 else (chkL own l deep c).1 := by
  induction l with
  | nil => intro r c; simp [chkL]
  | cons p l ih =>
    intro r c
    obtain ⟨nm, x⟩ := p
    obtain ⟨h1, h2⟩ := hg (nm, x)
    simp only [List.map_cons, List.cons_append, chkI, chkL, h1, h2]
    by_cases h : (chk own x deep c).1 = 0
    · rw [if_pos h, ih]
      simp only [if_pos h]
    · rw [if_neg h]
      simp only [if_neg h]

theorem chkI_cons (x : It) (r : List It) (c : Nat) (hd : ¬ 8 < x.deep) (hc : ¬ 200 ≤ c) (ho : own x.n = 0) :
    chkI own (x :: r) c = chkI own ((x.n.kids.map fun p => (⟨x.path ++ 47 :: p.1, x.deep + 1, p.2⟩ : It)) ++ r) (c + 1) := by
  rw [chkI_kids own x.n.kids _ (x.deep + 1) (fun p => ⟨rfl, rfl⟩)]
  rw [chkI]
  have e : chk own x.n x.deep c = chkL own x.n.kids (x.deep + 1) (c + 1) := by
    obtain ⟨p, d, n⟩ := x
    cases n
    simp only at hd ho
    rw [chk, if_neg hd, if_neg (by omega), if_pos ho]
    rfl
  rw [e]

/-- THE TWO CHECKS ARE ONE: the list of a tree's nodes, one by one; and the tree, kid by kid. -/
theorem scan_pre : ∀ (f i : Nat) (todo : List It), 201 ≤ f + i → scanErr own i (pre 200 8 f todo) = chkI own todo i
  | 0, i, [], h => by simp [pre, scanErr, chkI]
  | 0, i, x :: r, h => by
    have hx := chk_full own x.n x.deep i (by omega)
    simp only [pre, scanErr, chkI, if_neg hx]
    obtain ⟨p, d, n⟩ := x
    cases n
    simp only [chk]
    by_cases hd : 8 < d
    · simp [hd]
    · rw [if_neg hd, if_neg hd, if_pos (by omega), if_pos (by omega)]
  | f + 1, i, [], h => by simp [pre, scanErr, chkI]
  | f + 1, i, x :: r, h => by
    rw [pre, scanErr]
    by_cases hd : 8 < x.deep
    · rw [if_pos hd, chkI]
      have e : chk own x.n x.deep i = (9, i + 1) := by
        obtain ⟨p, d, n⟩ := x
        cases n
        rw [chk, if_pos hd]
      rw [e]
      simp
    · rw [if_neg hd]
      by_cases hi : 200 ≤ i
      · rw [if_pos hi, chkI]
        have e : chk own x.n x.deep i = (8, i + 1) := by
          obtain ⟨p, d, n⟩ := x
          cases n
          simp only at hd
          rw [chk, if_neg hd, if_pos (by omega)]
        rw [e]
        simp
      · rw [if_neg hi]
        by_cases ho : own x.n = 0
        · rw [if_pos ho, if_neg hd, scan_pre f (i + 1) _ (by omega), chkI_cons own x r i hd hi ho]
          unfold kidItems
          rw [chkI_kids own _ _ (x.deep + 1) (fun p => ⟨rfl, rfl⟩), chkI_kids own _ _ (x.deep + 1) (fun p => ⟨rfl, rfl⟩), chkL_take own 200 _ _ _ (by omega)]
          by_cases hz : (chkL own x.n.kids (x.deep + 1) (i + 1)).1 = 0
          · rw [if_pos hz, if_pos hz]
            have hl := (chkL_more own x.n.kids (x.deep + 1) (i + 1)).2 hz
            have hu := chkL_le own x.n.kids (x.deep + 1) (i + 1) (by omega) hz
            rw [List.take_of_length_le (by omega)]
          · rw [if_neg hz, if_neg hz]
        · rw [if_neg ho, chkI]
          have e : chk own x.n x.deep i = (own x.n, i + 1) := by
            obtain ⟨p, d, n⟩ := x
            cases n
            simp only at hd ho
            rw [chk, if_neg hd, if_neg (by omega), if_neg ho]
          rw [e]
          simp [ho]

mutual
/-- All nodes of a tree, a dir ahead of its kids, kid by kid. -/
def flat : Nd → List UInt8 → Nat → List It
  | .mk k d e ks, path, deep => ⟨path, deep, .mk k d e ks⟩ :: flatL ks path (deep + 1)
def flatL : List (List UInt8 × Nd) → List UInt8 → Nat → List It
  | [], _, _ => []
  | (nm, x) :: r, path, deep => flat x (path ++ 47 :: nm) deep ++ flatL r path deep
end

theorem flatL_eq : ∀ (l : List (List UInt8 × Nd)) (path : List UInt8) (deep : Nat), flatL l path deep = (l.map fun p => (⟨path ++ 47 :: p.1, deep, p.2⟩ : It)).flatMap fun x => flat x.n x.path x.deep
  | [], _, _ => rfl
  | (nm, x) :: r, path, deep => by simp [flatL, flatL_eq r path deep]

theorem flat_eq (x : It) : flat x.n x.path x.deep = x :: (x.n.kids.map fun p => (⟨x.path ++ 47 :: p.1, x.deep + 1, p.2⟩ : It)).flatMap fun x => flat x.n x.path x.deep := by
  obtain ⟨p, d, n⟩ := x
  cases n
  simp [flat, flatL_eq, Nd.kids]

/-- Where nothing is wrong the list has every node. -/
theorem pre_flat : ∀ (f i : Nat) (todo : List It), 201 ≤ f + i → chkI own todo i = 0 → pre 200 8 f todo = todo.flatMap fun x => flat x.n x.path x.deep
  | 0, i, [], h, _ => by simp [pre]
  | 0, i, x :: r, h, h0 => by
    have hx := chk_full own x.n x.deep i (by omega)
    rw [chkI, if_neg hx] at h0
    exact absurd h0 hx
  | f + 1, i, [], h, _ => by simp [pre]
  | f + 1, i, x :: r, h, h0 => by
    have hz : (chk own x.n x.deep i).1 = 0 := by
      rw [chkI] at h0
      by_cases hz : (chk own x.n x.deep i).1 = 0
      · exact hz
      · rw [if_neg hz] at h0; exact h0
    have hi := chk_le own _ _ _ hz
    have hd : ¬ 8 < x.deep := by
      intro hd
      obtain ⟨p, d, n⟩ := x
      cases n
      rw [chk, if_pos hd] at hz
      cases hz
    have ho : own x.n = 0 := by
      obtain ⟨p, d, n⟩ := x
      cases n
      simp only at hd hz ⊢
      rw [chk, if_neg hd, if_neg (by omega)] at hz
      split at hz
      · assumption
      · exact hz
    have hz2 : (chkL own x.n.kids (x.deep + 1) (i + 1)).1 = 0 := by
      obtain ⟨p, d, n⟩ := x
      cases n
      simp only at hd hz ho ⊢
      rw [chk, if_neg hd, if_neg (by omega), if_pos ho] at hz
      exact hz
    have hl := (chkL_more own x.n.kids (x.deep + 1) (i + 1)).2 hz2
    have hu := chkL_le own x.n.kids (x.deep + 1) (i + 1) (by omega) hz2
    rw [chkI_cons own x r i hd (by omega) ho] at h0
    rw [pre, if_neg hd]
    have ek : kidItems 200 x = x.n.kids.map fun p => (⟨x.path ++ 47 :: p.1, x.deep + 1, p.2⟩ : It) := by
      unfold kidItems
      rw [List.take_of_length_le (by omega)]
    rw [ek, pre_flat f (i + 1) _ (by omega) h0]
    rw [List.flatMap_cons, flat_eq x, List.flatMap_append]
    simp

/-- The list of a tree's nodes, so many and one of them opened, those down to a depth. -/
def listOf (n : Nd) (most deep : Nat) : List It := pre most deep (most + 1) [⟨[], 0, n⟩]

theorem pre_length : ∀ (most deep f : Nat) (l : List It), l.length ≤ (pre most deep f l).length
  | _, _, 0, l => by simp [pre]
  | _, _, f + 1, [] => by simp [pre]
  | most, deep, f + 1, x :: r => by
    rw [pre]
    split
    · have := pre_length most deep f r
      simp only [List.length_cons]; omega
    · have := pre_length most deep f (kidItems most x ++ r)
      simp only [List.length_cons, List.length_append] at this ⊢; omega

/-- Where the list is short and nothing lies too deep, it has every node. -/
theorem pre_small (most deep : Nat) : ∀ (f : Nat) (todo : List It), (pre most deep f todo).length < f → (pre most deep f todo).length ≤ most → (∀ x ∈ pre most deep f todo, x.deep ≤ deep) →
    pre most deep f todo = todo.flatMap fun x => flat x.n x.path x.deep
  | 0, todo, h, _, _ => by simp at h
  | f + 1, [], _, _, _ => by simp [pre]
  | f + 1, x :: r, h, hm, hd => by
    rw [pre] at h hm hd ⊢
    have hx : ¬ deep < x.deep := by
      have := hd x (by simp)
      omega
    rw [if_neg hx] at h hm hd ⊢
    simp only [List.length_cons] at h hm
    have ih := pre_small most deep f (kidItems most x ++ r) (by omega) (by omega) (fun y hy => hd y (by simp [hy]))
    have hl := pre_length most deep f (kidItems most x ++ r)
    have ek : kidItems most x = x.n.kids.map fun p => (⟨x.path ++ 47 :: p.1, x.deep + 1, p.2⟩ : It) := by
      have hk : (kidItems most x).length = min (most + 1) x.n.kids.length := by simp [kidItems]
      rw [List.length_append, hk] at hl
      unfold kidItems
      rw [List.take_of_length_le (by omega)]
    rw [ih, ek, List.flatMap_cons, flat_eq x, List.flatMap_append]
    simp

theorem listOf_small (n : Nd) (most deep : Nat) (h : (listOf n most deep).length ≤ most) (hd : ∀ x ∈ listOf n most deep, x.deep ≤ deep) : listOf n most deep = flat n [] 0 := by
  unfold listOf at h hd ⊢
  rw [pre_small most deep _ _ (by omega) h hd]
  simp

theorem treeError_eq (n : Nd) : scanErr own 0 (listOf n 200 8) = (chk own n 0 0).1 := by
  unfold listOf
  rw [scan_pre own _ _ _ (by omega)]
  simp only [chkI]
  split
  · rename_i h; exact h.symm
  · rfl

theorem listOf_flat (n : Nd) (h : (chk own n 0 0).1 = 0) : listOf n 200 8 = flat n [] 0 := by
  unfold listOf
  rw [pre_flat own _ 0 _ (by omega) (by rw [chkI, if_pos h, chkI])]
  simp
end
#print axioms treeError_eq
#print axioms listOf_flat
end Stl
