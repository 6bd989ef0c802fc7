/- How a list of items (a node with its path and depth) lies in memory. -/
import Derived.Test.YtgmdifmokcnbpaaGreatDoorNodes
namespace Go.Proofs.YtgmdifmokcnbpaaGreatDoor
open Go.RowKit Go.Maps Go.Sort Go.Shelf

/-- Six cells that read as an item. -/
def ItemCells (w : World) (x : Stl.It) (vs : List Value) : Prop :=
  ∃ v0 v1 v2 v3, vs = [.string ⟨x.path.toArray⟩, .int .i64 x.deep, v0, v1, v2, v3] ∧ NodeAt w x.n [v0, v1, v2, v3]

theorem ItemCells.later {w w' : World} {x : Stl.It} {vs : List Value} (h : ItemCells w x vs) (hb : Below w.heap.size w w') : ItemCells w' x vs := by
  obtain ⟨v0, v1, v2, v3, rfl, h⟩ := h
  exact ⟨v0, v1, v2, v3, rfl, h.later hb⟩

/-- Cells, six each, that read as these items. -/
def ItemsCells (w : World) : List Stl.It → List Value → Prop
  | [], vs => vs = []
  | x :: r, vs => ∃ a b, vs = a ++ b ∧ ItemCells w x a ∧ ItemsCells w r b

theorem ItemsCells.later {w w' : World} (hb : Below w.heap.size w w') : ∀ (l : List Stl.It) (vs : List Value), ItemsCells w l vs → ItemsCells w' l vs
  | [], _, h => h
  | _ :: r, _, ⟨a, b, e, h1, h2⟩ => ⟨a, b, e, h1.later hb, ItemsCells.later hb r b h2⟩

theorem ItemsCells.append {w : World} : ∀ (l m : List Stl.It) (vs us : List Value), ItemsCells w l vs → ItemsCells w m us → ItemsCells w (l ++ m) (vs ++ us)
  | [], _, _, _, h, h2 => by
    have e : _ = [] := h
    subst e
    exact h2
  | x :: r, m, _, us, ⟨a, b, e, h1, h2⟩, h3 => ⟨a, b ++ us, by rw [e, List.append_assoc], h1, ItemsCells.append r m b us h2 h3⟩

theorem ItemsCells.length {w : World} : ∀ (l : List Stl.It) (vs : List Value), ItemsCells w l vs → vs.length = 6 * l.length
  | [], _, h => by
    have e : _ = [] := h
    subst e
    rfl
  | x :: r, _, ⟨a, b, e, ⟨v0, v1, v2, v3, e2, _⟩, h2⟩ => by
    have := ItemsCells.length r b h2
    rw [e, e2]
    simp [this]
    omega

/-- The first k items' cells, and the others'. -/
theorem ItemsCells.part {w : World} : ∀ (k : Nat) (l : List Stl.It) (vs : List Value), ItemsCells w l vs → ItemsCells w (l.take k) (vs.take (6 * k)) ∧ ItemsCells w (l.drop k) (vs.drop (6 * k))
  | 0, l, vs, h => ⟨by simp [ItemsCells], by simpa using h⟩
  | k + 1, [], vs, h => by
    have e : _ = [] := h
    subst e
    simp [ItemsCells]
  | k + 1, x :: r, _, ⟨a, b, e, h1, h2⟩ => by
    obtain ⟨p1, p2⟩ := ItemsCells.part k r b h2
    have ha : a.length = 6 := by
      obtain ⟨v0, v1, v2, v3, e2, _⟩ := h1
      rw [e2]
      rfl
    subst e
    constructor
    · rw [List.take_succ_cons]
      refine ⟨a, b.take (6 * k), ?_, h1, p1⟩
      rw [List.take_append, List.take_of_length_le (by omega), ha, show 6 * (k + 1) - 6 = 6 * k by omega]
    · rw [List.drop_succ_cons, List.drop_append, show a.drop (6 * (k + 1)) = [] from List.drop_of_length_le (by omega), ha, show 6 * (k + 1) - 6 = 6 * k by omega, List.nil_append]
      exact p2
#print axioms ItemsCells.part
end Go.Proofs.YtgmdifmokcnbpaaGreatDoor
