/- A tree in memory whose rows lie in blocks of a kind. -/
import Derived.Test.YtgmdifmokcnbpaaGreatDoorCheck
namespace Go.Proofs.YtgmdifmokcnbpaaGreatDoor
open Go.RowKit

mutual
def NodeP (P : Nat → Prop) (w : World) : Stl.Nd → List Value → Prop
  | .mk k d e ks, vs => ∃ A c, vs = [.string ⟨k.toArray⟩, .string ⟨d.toArray⟩, .bool e, .slice A ks.length c] ∧ (ks.length ≤ c ∧ ks.length ≤ 1759218604441 ∧ k.length ≤ 140737488355328 ∧ d.length ≤ 140737488355328) ∧ (ks ≠ [] → ∃ b off, A = some ⟨b, off, none⟩ ∧ (b < w.heap.size ∧ P b) ∧ KidsP P w b off ks)
def KidsP (P : Nat → Prop) (w : World) (b : Nat) : Nat → List (List UInt8 × Stl.Nd) → Prop
  | _, [] => True
  | off, (name, x) :: r => (w.cell? ⟨b, off, none⟩ = some (.string ⟨name.toArray⟩) ∧ name.length ≤ 140737488355328) ∧
      (∃ v0 v1 v2 v3, w.cell? ⟨b, off + 1, none⟩ = some v0 ∧ w.cell? ⟨b, off + 2, none⟩ = some v1 ∧ w.cell? ⟨b, off + 3, none⟩ = some v2 ∧ w.cell? ⟨b, off + 4, none⟩ = some v3 ∧ NodeP P w x [v0, v1, v2, v3]) ∧ KidsP P w b (off + 5) r
end

mutual
theorem NodeP.at {P : Nat → Prop} {w : World} : ∀ (n : Stl.Nd) (vs : List Value), NodeP P w n vs → NodeAt w n vs
  | .mk k d e ks, vs, h => by
    unfold NodeP at h
    unfold NodeAt
    obtain ⟨A, c, h1, h2, h3⟩ := h
    refine ⟨A, c, h1, h2, fun hn => ?_⟩
    obtain ⟨b, off, h4, h5, h6⟩ := h3 hn
    exact ⟨b, off, h4, h5.1, KidsP.at ks off h6⟩
theorem KidsP.at {P : Nat → Prop} {w : World} {b : Nat} : ∀ (ks : List (List UInt8 × Stl.Nd)) (off : Nat), KidsP P w b off ks → KidsAt w b off ks
  | [], _, _ => by unfold KidsAt; trivial
  | (name, x) :: r, off, h => by
    unfold KidsP at h
    unfold KidsAt
    obtain ⟨h1, ⟨v0, v1, v2, v3, c0, c1, c2, c3, h2⟩, h3⟩ := h
    exact ⟨h1, ⟨v0, v1, v2, v3, c0, c1, c2, c3, NodeP.at x _ h2⟩, KidsP.at r (off + 5) h3⟩
end

mutual
theorem NodeP.go {P Q : Nat → Prop} {w w' : World} (hs : w.heap.size ≤ w'.heap.size) (hb : ∀ b, b < w.heap.size → P b → w'.heap[b]? = w.heap[b]? ∧ Q b) : ∀ (n : Stl.Nd) (vs : List Value), NodeP P w n vs → NodeP Q w' n vs
  | .mk k d e ks, vs, h => by
    unfold NodeP at h ⊢
    obtain ⟨A, c, h1, h2, h3⟩ := h
    refine ⟨A, c, h1, h2, fun hn => ?_⟩
    obtain ⟨b, off, h4, h5, h6⟩ := h3 hn
    exact ⟨b, off, h4, ⟨Nat.lt_of_lt_of_le h5.1 hs, (hb b h5.1 h5.2).2⟩, KidsP.go hs hb (hb b h5.1 h5.2).1 ks off h6⟩
theorem KidsP.go {P Q : Nat → Prop} {w w' : World} (hs : w.heap.size ≤ w'.heap.size) (hb : ∀ b, b < w.heap.size → P b → w'.heap[b]? = w.heap[b]? ∧ Q b) {b : Nat} (he : w'.heap[b]? = w.heap[b]?) : ∀ (ks : List (List UInt8 × Stl.Nd)) (off : Nat), KidsP P w b off ks → KidsP Q w' b off ks
  | [], _, _ => by unfold KidsP; trivial
  | (name, x) :: r, off, h => by
    unfold KidsP at h ⊢
    obtain ⟨h1, ⟨v0, v1, v2, v3, c0, c1, c2, c3, h2⟩, h3⟩ := h
    have go : ∀ (o : Nat) (v : Value), w.cell? ⟨b, o, none⟩ = some v → w'.cell? ⟨b, o, none⟩ = some v := fun o v hv => (World.cell?_of_block (w := w) (a := ⟨b, o, none⟩) he).trans hv
    exact ⟨⟨go _ _ h1.1, h1.2⟩, ⟨v0, v1, v2, v3, go _ _ c0, go _ _ c1, go _ _ c2, go _ _ c3, NodeP.go hs hb x _ h2⟩, KidsP.go hs hb he r (off + 5) h3⟩
end

theorem NodeP.open {P : Nat → Prop} {w : World} {k d : List UInt8} {e : Bool} {ks : List (List UInt8 × Stl.Nd)} {vs : List Value} (h : NodeP P w (.mk k d e ks) vs) :
    ∃ A c, vs = [.string ⟨k.toArray⟩, .string ⟨d.toArray⟩, .bool e, .slice A ks.length c] := by
  unfold NodeP at h
  obtain ⟨A, c, h1, _⟩ := h
  exact ⟨A, c, h1⟩

/-- The cells of kids, five each. -/
def KidsCells (P : Nat → Prop) (w : World) : List (List UInt8 × Stl.Nd) → List Value → Prop
  | [], vs => vs = []
  | (nm, x) :: r, vs => ∃ v0 v1 v2 v3 b, vs = [.string ⟨nm.toArray⟩, v0, v1, v2, v3] ++ b ∧ nm.length ≤ 140737488355328 ∧ NodeP P w x [v0, v1, v2, v3] ∧ KidsCells P w r b

theorem KidsCells.length {P : Nat → Prop} {w : World} : ∀ (ks : List (List UInt8 × Stl.Nd)) (vs : List Value), KidsCells P w ks vs → vs.length = 5 * ks.length
  | [], _, h => by
    have e : _ = [] := h
    subst e
    rfl
  | (nm, x) :: r, vs, h => by
    obtain ⟨v0, v1, v2, v3, b, rfl, _, _, h2⟩ := h
    have := KidsCells.length r b h2
    simp [this]
    omega

theorem KidsCells.append {P : Nat → Prop} {w : World} : ∀ (l m : List (List UInt8 × Stl.Nd)) (vs us : List Value), KidsCells P w l vs → KidsCells P w m us → KidsCells P w (l ++ m) (vs ++ us)
  | [], _, _, _, h, h2 => by
    have e : _ = [] := h
    subst e
    exact h2
  | (nm, x) :: r, m, vs, us, h, h3 => by
    obtain ⟨v0, v1, v2, v3, b, rfl, h1, hn, h2⟩ := h
    exact ⟨v0, v1, v2, v3, b ++ us, by simp, h1, hn, KidsCells.append r m b us h2 h3⟩

theorem KidsCells.go {P Q : Nat → Prop} {w w' : World} (hs : w.heap.size ≤ w'.heap.size) (hb : ∀ b, b < w.heap.size → P b → w'.heap[b]? = w.heap[b]? ∧ Q b) : ∀ (l : List (List UInt8 × Stl.Nd)) (vs : List Value), KidsCells P w l vs → KidsCells Q w' l vs
  | [], _, h => h
  | (nm, x) :: r, vs, h => by
    obtain ⟨v0, v1, v2, v3, b, rfl, h1, hn, h2⟩ := h
    exact ⟨v0, v1, v2, v3, b, rfl, h1, NodeP.go hs hb x _ hn, KidsCells.go hs hb r b h2⟩

theorem kidsP_of_cells {P : Nat → Prop} {w : World} {g : Nat} : ∀ (ks : List (List UInt8 × Stl.Nd)) (vs : List Value) (off : Nat), KidsCells P w ks vs → (∀ j u, vs[j]? = some u → w.cell? ⟨g, off + j, none⟩ = some u) → KidsP P w g off ks
  | [], _, _, _, _ => by unfold KidsP; trivial
  | (nm, x) :: r, vs, off, h, hc => by
    obtain ⟨v0, v1, v2, v3, b, rfl, h1, hn, h2⟩ := h
    unfold KidsP
    refine ⟨⟨by simpa using hc 0 _ rfl, h1⟩, ⟨v0, v1, v2, v3, hc 1 _ rfl, hc 2 _ rfl, hc 3 _ rfl, hc 4 _ rfl, hn⟩, kidsP_of_cells r b (off + 5) h2 fun j u hu => ?_⟩
    have := hc (5 + j) u (by rw [List.getElem?_append_right (by simp)]; simpa using hu)
    rw [Nat.add_assoc]
    exact this
#print axioms kidsP_of_cells
end Go.Proofs.YtgmdifmokcnbpaaGreatDoor
