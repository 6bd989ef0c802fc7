/- Two walks: what tree.Name and scan.word compute. No condition but that a text is no longer than Go's texts are. -/
import Derived.Test.YtgmdifmokcnbpaaGreatDoorScanPure
import Derived.Test.YtgmdifmokcnbpaaGreatDoorShelf
import Derived.WalkKit
import Derived.WalkSpells
import Derived.WalkLawsBesides
import Derived.Lib.Hide
namespace Go.Proofs.YtgmdifmokcnbpaaGreatDoor
open Go.RowKit

/-- The letters of a name, in the program's order. -/
def letters : List UInt8 := [97, 98, 99, 100, 101, 102, 103, 104, 105, 106, 107, 108, 109, 110, 111, 112, 113, 114, 115, 116, 117, 118, 119, 120, 121, 122, 48, 49, 50, 51, 52, 53, 54, 55, 56, 57, 46, 45]

theorem letters_contains (c : UInt8) : letters.contains c = Stl.isLetter c := by
  have h : ∀ n : Nat, n < 256 → letters.contains (UInt8.ofNat n) = Stl.isLetter (UInt8.ofNat n) := by decide +kernel
  have := h c.toNat (UInt8.toNat_lt c)
  simpa using this

theorem trimLeft_letters (l : List UInt8) : Lib.trimLeftS l letters = l.drop (Stl.word l).length := by
  unfold Lib.trimLeftS
  induction l with
  | nil => rfl
  | cons c r ih =>
    rw [List.dropWhile_cons, letters_contains]
    cases hc : Stl.isLetter c
    · simp [Stl.word, hc]
    · have : Stl.word (c :: r) = c :: Stl.word r := by simp [Stl.word, hc]
      rw [this]
      simpa using ih

theorem dropWhile_nil {p : UInt8 → Bool} : ∀ l : List UInt8, l.dropWhile p = [] ↔ l.all p = true
  | [] => by simp
  | c :: r => by
    rw [List.dropWhile_cons]
    cases hc : p c
    · simp [hc]
    · simp [hc, dropWhile_nil r]

theorem trim_letters (l : List UInt8) : Lib.trimS l letters = [] ↔ l.all Stl.isLetter = true := by
  unfold Lib.trimS Lib.trimLeftS Lib.trimRightS
  have e : (fun c => letters.contains c) = Stl.isLetter := funext letters_contains
  rw [e, dropWhile_nil, List.all_eq_true, List.all_eq_true]
  constructor
  · intro h
    have hr : (l.reverse.dropWhile Stl.isLetter) = [] := by
      cases hd : l.reverse.dropWhile Stl.isLetter with
      | nil => rfl
      | cons x t =>
        have h1 := h x (by simp [hd])
        have h2 := List.head?_dropWhile_not Stl.isLetter l.reverse
        rw [hd] at h2
        simp [h1] at h2
    have := (dropWhile_nil _).1 hr
    rw [List.all_eq_true] at this
    intro x hx
    exact this x (by simpa using hx)
  · intro h x hx
    have h1 : x ∈ l.reverse.dropWhile Stl.isLetter := by simpa using hx
    exact h x (by simpa using (List.dropWhile_sublist _).mem h1)

theorem info57 : (Tryz.prog.info? 95).map (fun i => (i.zero, i.size)) = some (some (.agg (Array.replicate 256 (.bool false))), 256) := by kernel_rfl

theorem letters_ascii : ∀ (j : Nat) b, (⟨letters.toArray⟩ : ByteArray).data.toList[j]? = some b → b.toNat < 128 := ascii_of_all (by decide)

/-- strings.Trim by the letters of a name. -/
theorem Trim_any (l : List UInt8) (w : World) (hl : l.length ≤ 9223372036854775807) :
    Calls Tryz.prog 40 #[.string ⟨l.toArray⟩, .string ⟨letters.toArray⟩] w fun e w' => e = .returned (.string ⟨(Lib.trimS l letters).toArray⟩) ∧ Below w.heap.size w w' :=
  Any.strings_Trim_laid Tryz.lays160 info57 ⟨l.toArray⟩ ⟨letters.toArray⟩ w (by show l.toArray.size ≤ _; simpa using hl) (by decide) letters_ascii

/-- strings.TrimLeft by the letters of a name. -/
theorem TrimLeft_any (l : List UInt8) (w : World) :
    Calls Tryz.prog 55 #[.string ⟨l.toArray⟩, .string ⟨letters.toArray⟩] w fun e w' => e = .returned (.string ⟨(l.drop (Stl.word l).length).toArray⟩) ∧ Below w.heap.size w w' := by
  have h := Any.strings_TrimLeft_laid Tryz.lays161 info57 ⟨l.toArray⟩ ⟨letters.toArray⟩ w (by decide) letters_ascii
  simp only [trimLeft_letters] at h
  exact h

theorem extract_take (l : List UInt8) (k : Nat) : (⟨l.toArray⟩ : ByteArray).extract 0 k = ⟨(l.take k).toArray⟩ := by
  apply ByteArray.ext
  simp [ByteArray.extract, ByteArray.copySlice]

theorem extract_drop (l : List UInt8) (k : Nat) : (⟨l.toArray⟩ : ByteArray).extract k l.length = ⟨(l.drop k).toArray⟩ := by
  apply ByteArray.ext
  simp [ByteArray.extract, ByteArray.copySlice]
  rw [List.take_of_length_le (by simp)]

theorem extract_part (l : List UInt8) (i k : Nat) : (⟨l.toArray⟩ : ByteArray).extract i k = ⟨((l.take k).drop i).toArray⟩ := by
  apply ByteArray.ext
  simp [ByteArray.extract, ByteArray.copySlice, List.extract_eq_take_drop, List.drop_take]

set_option maxHeartbeats 400000 in
/-- scan.word: as long as bytes are of a name. -/
theorem word_any (l : List UInt8) (w : World) (hl : l.length ≤ 9223372036854775807) :
    Calls Tryz.prog 39 #[.string ⟨l.toArray⟩] w fun e w' => e = .returned (.string ⟨(Stl.word l).toArray⟩) ∧ Below w.heap.size w w' := by
  have hw := Stl.word_length_le l
  go_enter Tryz.func39, Tryz.ntmps39
  go_wp2_with (go_at_call 55; refine (TrimLeft_any _ _).mono ?_; rintro e w' ⟨rfl, hb⟩)
  go_ret
  refine ⟨?_, hb⟩
  rw [extract_take, show l.length - (l.length - (Stl.word l).length) = (Stl.word l).length by omega, Stl.word_take]
  rfl

theorem isName_nil : Stl.isName [] = false := by decide

set_option maxHeartbeats 1000000 in
/-- tree.Name: is a text one? -/
theorem Name_any (l : List UInt8) (w : World) (hl : l.length ≤ 9223372036854775807) :
    Calls Tryz.prog 19 #[.string ⟨l.toArray⟩] w fun e w' => e = .returned (.bool (Stl.isName l)) ∧ Below w.heap.size w w' := by
  go_enter Tryz.func19, Tryz.ntmps19
  go_wp2_with (go_at_call 40; refine (Trim_any _ _ (by assumption)).mono ?_; rintro e w' ⟨rfl, hb⟩)
  all_goals go_ret
  all_goals refine ⟨?_, by first | exact Below.refl _ _ | assumption⟩
  · rename_i h1
    subst h1
    rfl
  · rename_i h1 h2 h3 h4
    subst h4
    rfl
  · rename_i h1 h2 h3 h4
    have h5 : (l.all Stl.isLetter) = true := (trim_letters l).1 (by assumption)
    have h6 : 1 ≤ l.length := by
      cases l
      · exact absurd rfl (by assumption)
      · simp
    have h7 : l.length ≤ 12 := by omega
    have h8 : l.isEmpty = false := by cases l <;> simp_all
    have e : (!l.isEmpty && !l == [46] && !l == [46, 46]) = Stl.isName l := by
      simp [Stl.isName, h5, h6, h7, h8, bne]
    rw [← e]
    rfl
  · rename_i h1 h2 h3
    have h5 : (l.all Stl.isLetter) = false := by
      cases h : l.all Stl.isLetter
      · rfl
      · exact absurd ((trim_letters l).2 h) (by assumption)
    have e : Stl.isName l = false := by simp only [Stl.isName, h5, Bool.and_false, Bool.false_and]
    rw [e]
    rfl
  · have h6 : ¬ l.length ≤ 12 := by omega
    have e : Stl.isName l = false := by simp only [Stl.isName, decide_eq_false h6, Bool.and_false, Bool.false_and]
    rw [e]
    rfl
#print axioms Name_any
end Go.Proofs.YtgmdifmokcnbpaaGreatDoor
