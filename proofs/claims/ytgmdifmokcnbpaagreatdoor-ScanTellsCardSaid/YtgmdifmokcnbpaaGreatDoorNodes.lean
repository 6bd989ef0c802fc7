/- How a tree lies in memory, and that it stays there. -/
import Derived.Test.YtgmdifmokcnbpaaGreatDoorTreePure
import Derived.Test.YtgmdifmokcnbpaaGreatDoorTexts
namespace Go.Proofs.YtgmdifmokcnbpaaGreatDoor
open Go.RowKit Go.Maps Go.Sort Go.Shelf

/- The four cells of a node read as a tree; the kids lie five cells each, one behind the other. -/
mutual
def NodeAt (w : World) : Stl.Nd → List Value → Prop
  | .mk k d e ks, vs => ∃ A c, vs = [.string ⟨k.toArray⟩, .string ⟨d.toArray⟩, .bool e, .slice A ks.length c] ∧ (ks.length ≤ c ∧ ks.length ≤ 1759218604441 ∧ k.length ≤ 140737488355328 ∧ d.length ≤ 140737488355328) ∧ (ks ≠ [] → ∃ b off, A = some ⟨b, off, none⟩ ∧ b < w.heap.size ∧ KidsAt w b off ks)
def KidsAt (w : World) (b : Nat) : Nat → List (List UInt8 × Stl.Nd) → Prop
  | _, [] => True
  | off, (name, x) :: r => (w.cell? ⟨b, off, none⟩ = some (.string ⟨name.toArray⟩) ∧ name.length ≤ 140737488355328) ∧
      (∃ v0 v1 v2 v3, w.cell? ⟨b, off + 1, none⟩ = some v0 ∧ w.cell? ⟨b, off + 2, none⟩ = some v1 ∧ w.cell? ⟨b, off + 3, none⟩ = some v2 ∧ w.cell? ⟨b, off + 4, none⟩ = some v3 ∧ NodeAt w x [v0, v1, v2, v3]) ∧ KidsAt w b (off + 5) r
end

mutual
theorem NodeAt.later {w w' : World} (hb : Below w.heap.size w w') : ∀ (n : Stl.Nd) (vs : List Value), NodeAt w n vs → NodeAt w' n vs
  | .mk k d e ks, vs, h => by
    unfold NodeAt at h ⊢
    obtain ⟨A, c, h1, h2, h3⟩ := h
    refine ⟨A, c, h1, h2, fun hn => ?_⟩
    obtain ⟨b, off, h4, h5, h6⟩ := h3 hn
    exact ⟨b, off, h4, Nat.lt_of_lt_of_le h5 hb.size, KidsAt.later hb h5 ks off h6⟩
theorem KidsAt.later {w w' : World} (hb : Below w.heap.size w w') {b : Nat} (hlt : b < w.heap.size) : ∀ (ks : List (List UInt8 × Stl.Nd)) (off : Nat), KidsAt w b off ks → KidsAt w' b off ks
  | [], _, _ => by unfold KidsAt; trivial
  | (name, x) :: r, off, h => by
    unfold KidsAt at h ⊢
    obtain ⟨h1, ⟨v0, v1, v2, v3, c0, c1, c2, c3, h2⟩, h3⟩ := h
    have go : ∀ (o : Nat) (v : Value), w.cell? ⟨b, o, none⟩ = some v → w'.cell? ⟨b, o, none⟩ = some v := fun o v hv => (hb.cell (p := ⟨b, o, none⟩) hlt).trans hv
    exact ⟨⟨go _ _ h1.1, h1.2⟩, ⟨v0, v1, v2, v3, go _ _ c0, go _ _ c1, go _ _ c2, go _ _ c3, NodeAt.later hb x _ h2⟩, KidsAt.later hb hlt r (off + 5) h3⟩
end

/-- The j-th kid. -/
theorem KidsAt.at {w : World} {b : Nat} : ∀ (ks : List (List UInt8 × Stl.Nd)) (off j : Nat) (name : List UInt8) (x : Stl.Nd), KidsAt w b off ks → ks[j]? = some (name, x) →
    (w.cell? ⟨b, off + j * 5, none⟩ = some (.string ⟨name.toArray⟩) ∧ name.length ≤ 140737488355328) ∧ ∃ v0 v1 v2 v3, w.cell? ⟨b, off + j * 5 + 1, none⟩ = some v0 ∧ w.cell? ⟨b, off + j * 5 + 2, none⟩ = some v1 ∧ w.cell? ⟨b, off + j * 5 + 3, none⟩ = some v2 ∧ w.cell? ⟨b, off + j * 5 + 4, none⟩ = some v3 ∧ NodeAt w x [v0, v1, v2, v3]
  | [], _, _, _, _, _, h => by simp at h
  | (name0, x0) :: r, off, 0, name, x, h, hj => by
    unfold KidsAt at h
    simp only [List.getElem?_cons_zero, Option.some.injEq, Prod.mk.injEq] at hj
    obtain ⟨rfl, rfl⟩ := hj
    exact ⟨h.1, h.2.1⟩
  | (name0, x0) :: r, off, j + 1, name, x, h, hj => by
    unfold KidsAt at h
    simp only [List.getElem?_cons_succ] at hj
    have := KidsAt.at r (off + 5) j name x h.2.2 hj
    rw [show off + 5 + j * 5 = off + (j + 1) * 5 by omega] at this
    exact this
#print axioms KidsAt.at
end Go.Proofs.YtgmdifmokcnbpaaGreatDoor
