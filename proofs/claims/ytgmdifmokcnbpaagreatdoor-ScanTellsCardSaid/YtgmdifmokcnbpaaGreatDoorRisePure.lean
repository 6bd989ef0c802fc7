/- The plain law of rising lists of texts: a text more; two rising lists with the same texts are one. No program in sight. -/
import Derived.Test.YtgmdifmokcnbpaaGreatDoorScanPure
set_option linter.unusedSimpArgs false
set_option linter.unusedVariables false
namespace Stl

abbrev Bytes := List UInt8

theorem blt_irrefl (a : Bytes) : ¬ a < a := List.lt_irrefl a
theorem blt_trans {a b c : Bytes} (h : a < b) (k : b < c) : a < c := List.lt_trans h k
theorem blt_tri (a b : Bytes) : a < b ∨ a = b ∨ b < a := by
  rcases Decidable.em (a < b) with h | h
  · exact .inl h
  · rcases Decidable.em (b < a) with h2 | h2
    · exact .inr (.inr h2)
    · exact .inr (.inl (List.le_antisymm (List.not_lt.1 h2) (List.not_lt.1 h)))

/-- Texts that rise, each once. -/
def Rise (l : List Bytes) : Prop := l.Pairwise (· < ·)

/-- A text more, of a rising list. -/
def ins (s : Bytes) : List Bytes → List Bytes
  | [] => [s]
  | x :: r => if x < s then x :: ins s r else if x = s then x :: r else s :: x :: r

theorem mem_ins (s y : Bytes) : ∀ l : List Bytes, y ∈ ins s l ↔ y = s ∨ y ∈ l
  | [] => by simp [ins]
  | x :: r => by
    unfold ins
    split
    · simp only [List.mem_cons, mem_ins s y r]
      constructor
      · rintro (h | h | h) <;> simp [h]
      · rintro (h | h | h) <;> simp [h]
    · split
      · rename_i h; subst h; simp
      · simp

theorem rise_ins (s : Bytes) : ∀ l : List Bytes, Rise l → Rise (ins s l)
  | [], _ => by simp [ins, Rise]
  | x :: r, h => by
    unfold Rise at h
    obtain ⟨h1, h2⟩ := List.pairwise_cons.1 h
    unfold ins
    split
    · rename_i hx
      refine List.pairwise_cons.2 ⟨fun y hy => ?_, rise_ins s r h2⟩
      rcases (mem_ins s y r).1 hy with rfl | hy
      · exact hx
      · exact h1 y hy
    · split
      · exact h
      · rename_i hx hne
        have hs : s < x := by
          rcases blt_tri x s with h3 | h3 | h3
          · exact absurd h3 hx
          · exact absurd h3 hne
          · exact h3
        refine List.pairwise_cons.2 ⟨fun y hy => ?_, h⟩
        rcases List.mem_cons.1 hy with rfl | hy
        · exact hs
        · exact blt_trans hs (h1 y hy)

/-- Two rising lists with the same texts are one. -/
theorem rise_ext : ∀ (a b : List Bytes), Rise a → Rise b → (∀ y, y ∈ a ↔ y ∈ b) → a = b
  | [], [], _, _, _ => rfl
  | [], y :: b, _, _, h => by have := (h y).2 (by simp); cases this
  | x :: a, [], _, _, h => by have := (h x).1 (by simp); cases this
  | x :: a, y :: b, ha, hb, h => by
    obtain ⟨a1, a2⟩ := List.pairwise_cons.1 ha
    obtain ⟨b1, b2⟩ := List.pairwise_cons.1 hb
    have e : x = y := by
      rcases List.mem_cons.1 ((h x).1 (by simp)) with e | hx
      · exact e
      · rcases List.mem_cons.1 ((h y).2 (by simp)) with e | hy
        · exact e.symm
        · exact absurd (blt_trans (a1 y hy) (b1 x hx)) (blt_irrefl x)
    subst e
    have ih : a = b := rise_ext a b a2 b2 (fun z => by
      constructor
      · intro hz
        rcases List.mem_cons.1 ((h z).1 (by simp [hz])) with e | hz2
        · subst e; exact absurd (a1 z hz) (blt_irrefl z)
        · exact hz2
      · intro hz
        rcases List.mem_cons.1 ((h z).2 (by simp [hz])) with e | hz2
        · subst e; exact absurd (b1 z hz) (blt_irrefl z)
        · exact hz2)
    rw [ih]

/-- Texts, one by one, into a rising list. -/
def insAll (l acc : List Bytes) : List Bytes := l.foldl (fun a s => ins s a) acc

theorem mem_insAll (y : Bytes) : ∀ (l acc : List Bytes), y ∈ insAll l acc ↔ y ∈ l ∨ y ∈ acc
  | [], acc => by simp [insAll]
  | s :: r, acc => by
    have h := mem_insAll y r (ins s acc)
    unfold insAll at h ⊢
    rw [List.foldl_cons, h, mem_ins]
    simp only [List.mem_cons]
    constructor
    · rintro (h | h | h) <;> simp [h]
    · rintro ((h | h) | h) <;> simp [h]

theorem rise_insAll : ∀ (l acc : List Bytes), Rise acc → Rise (insAll l acc)
  | [], acc, h => h
  | s :: r, acc, h => rise_insAll r (ins s acc) (rise_ins s acc h)

theorem rise_nil : Rise [] := List.Pairwise.nil

/-- A rising list is what its texts, one by one, come to. -/
theorem insAll_eq {l m : List Bytes} (hm : Rise m) (h : ∀ y, y ∈ m ↔ y ∈ l) : m = insAll l [] :=
  rise_ext _ _ hm (rise_insAll _ _ rise_nil) fun y => by rw [h, mem_insAll]; simp

theorem ins_length (s : Bytes) : ∀ l : List Bytes, (ins s l).length ≤ l.length + 1
  | [] => by simp [ins]
  | x :: r => by
    have := ins_length s r
    unfold ins
    split
    · simp only [List.length_cons]; omega
    · split <;> simp

theorem insAll_length : ∀ (l acc : List Bytes), (insAll l acc).length ≤ acc.length + l.length
  | [], acc => by simp [insAll]
  | s :: r, acc => by
    have h := insAll_length r (ins s acc)
    have := ins_length s acc
    unfold insAll at h ⊢
    simp only [List.foldl_cons, List.length_cons]
    omega

/-- Names that are mentioned in a text. -/
def found (s : Bytes) (names : List Bytes) : List Bytes := insAll ((ments s).filter fun w => isName w && names.contains w) []
#print axioms insAll_eq
end Stl
