/- The plain law of names in texts (chapter 12): what a text mentions, what turning a name does to it. No program in sight. -/
set_option linter.unusedSimpArgs false
namespace Stl

/-- Letters of a name. -/
def isLetter (c : UInt8) : Bool := (97 ≤ c && c ≤ 122) || (48 ≤ c && c ≤ 57) || c == 46 || c == 45

/-- The word at a text's beginning. -/
def word (s : List UInt8) : List UInt8 := s.takeWhile isLetter

/-- Is a text a name? -/
def isName (s : List UInt8) : Bool := decide (1 ≤ s.length) && decide (s.length ≤ 12) && s.all isLetter && s != [46] && s != [46, 46]

/-- The words behind each mark of a text. -/
def ments : List UInt8 → List (List UInt8)
  | [] => []
  | c :: r => if c == 35 then word r :: ments r else ments r

/-- A text with each mention of f turned into one of t; the first k bytes are left out. -/
def turnL (f t : List UInt8) : Nat → List UInt8 → List UInt8
  | _, [] => []
  | k + 1, _ :: r => turnL f t k r
  | 0, c :: r => if c == 35 then (if word r == f then c :: (t ++ turnL f t f.length r) else c :: turnL f t 0 r) else c :: turnL f t 0 r

theorem turnL_drop (f t : List UInt8) : ∀ (k : Nat) (s : List UInt8), turnL f t k s = turnL f t 0 (s.drop k)
  | 0, s => by simp
  | k + 1, [] => by simp [turnL]
  | k + 1, _ :: r => by simp [turnL, turnL_drop f t k r]

theorem isLetter_mark : isLetter 35 = false := by decide

theorem name_letters {s : List UInt8} (h : isName s = true) : s.all isLetter = true := by
  simp [isName] at h
  simpa using h.1.1.2
theorem name_pos {s : List UInt8} (h : isName s = true) : 1 ≤ s.length := by
  simp [isName] at h
  have := h.1.1.1.1
  omega
theorem name_le {s : List UInt8} (h : isName s = true) : s.length ≤ 12 := by
  simp [isName] at h
  have := h.1.1.1.2
  omega

theorem word_all (s : List UInt8) : (word s).all isLetter = true := by
  induction s with
  | nil => rfl
  | cons c r ih =>
    unfold word at ih ⊢
    cases hc : isLetter c
    · simp [List.takeWhile_cons, hc]
    · simp only [List.takeWhile_cons, hc, if_true, List.all_cons, Bool.true_and]
      exact ih

/-- A word of letters ahead of a text that begins with no letter is its word. -/
theorem word_append {a b : List UInt8} (ha : a.all isLetter = true) (hb : word b = []) : word (a ++ b) = a := by
  induction a with
  | nil => simpa using hb
  | cons c r ih =>
    simp only [List.all_cons, Bool.and_eq_true] at ha
    unfold word at ih ⊢
    simp only [List.cons_append, List.takeWhile_cons, ha.1, if_true]
    rw [ih ha.2]

theorem word_drop (s : List UInt8) : word (s.drop (word s).length) = [] := by
  induction s with
  | nil => rfl
  | cons c r ih =>
    cases hc : isLetter c
    · simp [word, List.takeWhile_cons, hc]
    · have : word (c :: r) = c :: word r := by simp [word, List.takeWhile_cons, hc]
      rw [this]
      simpa using ih

theorem word_take (s : List UInt8) : s.take (word s).length = word s := by
  induction s with
  | nil => rfl
  | cons c r ih =>
    cases hc : isLetter c
    · simp [word, List.takeWhile_cons, hc]
    · have : word (c :: r) = c :: word r := by simp [word, List.takeWhile_cons, hc]
      rw [this]
      simpa using ih

theorem word_length_le (s : List UInt8) : (word s).length ≤ s.length := by
  have := congrArg List.length (word_take s)
  simp at this
  omega

theorem word_turn (f t : List UInt8) : ∀ s : List UInt8, word (turnL f t 0 s) = word s
  | [] => by simp [turnL]
  | c :: r => by
    unfold turnL
    cases hc : (c == 35)
    · simp only [Bool.false_eq_true, if_false]
      cases hl : isLetter c
      · simp [word, List.takeWhile_cons, hl]
      · have h1 := word_turn f t r
        unfold word at h1 ⊢
        simp [List.takeWhile_cons, hl, h1]
    · have e : c = 35 := by simpa using hc
      subst e
      simp only [if_true]
      split <;> simp [word, List.takeWhile_cons, isLetter_mark]

/-- Where no mark stands among a text's first bytes, the mentions are those of what is behind them. -/
theorem ments_letters {a : List UInt8} (ha : a.all isLetter = true) (b : List UInt8) : ments (a ++ b) = ments b := by
  induction a with
  | nil => rfl
  | cons c r ih =>
    simp only [List.all_cons, Bool.and_eq_true] at ha
    have hc : (c == 35) = false := by
      cases h : (c == 35)
      · rfl
      · have e : c = 35 := by simpa using h
        rw [e, isLetter_mark] at ha
        cases ha.1
    simp only [List.cons_append, ments, hc, Bool.false_eq_true, if_false]
    exact ih ha.2

theorem ments_drop_word (s : List UInt8) : ments (s.drop (word s).length) = ments s := by
  have h := ments_letters (word_all s) (s.drop (word s).length)
  have e : word s ++ s.drop (word s).length = s := by
    conv => lhs; lhs; rw [← word_take s]
    exact List.take_append_drop _ _
  rw [e] at h
  exact h.symm

/-- What a turned text mentions: what it mentioned, the name turned. -/
theorem ments_turn (f t : List UInt8) (ht : t.all isLetter = true) : ∀ (n : Nat) (s : List UInt8), s.length ≤ n → ments (turnL f t 0 s) = (ments s).map fun w => if w == f then t else w
  | _, [], _ => by simp [turnL, ments]
  | 0, _ :: _, h => by simp at h
  | n + 1, c :: r, h => by
    have hr : r.length ≤ n := by simpa using h
    cases hc : (c == 35)
    · have e1 : turnL f t 0 (c :: r) = c :: turnL f t 0 r := by simp [turnL, hc]
      rw [e1]
      simp only [ments, hc, Bool.false_eq_true, if_false]
      exact ments_turn f t ht n r hr
    · cases hw : (word r == f)
      · have e1 : turnL f t 0 (c :: r) = c :: turnL f t 0 r := by simp [turnL, hc, hw]
        rw [e1]
        simp only [ments, hc, if_true, List.map_cons, word_turn, hw, Bool.false_eq_true, if_false]
        rw [ments_turn f t ht n r hr]
      · have ef : word r = f := by simpa using hw
        have e1 : turnL f t 0 (c :: r) = c :: (t ++ turnL f t f.length r) := by simp [turnL, hc, hw]
        rw [e1, turnL_drop]
        simp only [ments, hc, if_true, List.map_cons, hw]
        have hd : word (r.drop f.length) = [] := by rw [← ef]; exact word_drop r
        rw [word_append ht (by rw [word_turn]; exact hd), ments_letters ht,
          ments_turn f t ht n (r.drop f.length) (by simp; omega)]
        rw [← ef, ments_drop_word]

/-- A name turned into itself leaves the text. -/
theorem turn_self (f : List UInt8) : ∀ (n : Nat) (s : List UInt8), s.length ≤ n → turnL f f 0 s = s
  | _, [], _ => by simp [turnL]
  | 0, _ :: _, h => by simp at h
  | n + 1, c :: r, h => by
    have hr : r.length ≤ n := by simpa using h
    cases hc : (c == 35)
    · simp [turnL, hc, turn_self f n r hr]
    · cases hw : (word r == f)
      · simp [turnL, hc, hw, turn_self f n r hr]
      · have ef : word r = f := by simpa using hw
        have e1 : turnL f f 0 (c :: r) = c :: (f ++ turnL f f f.length r) := by simp [turnL, hc, hw]
        rw [e1, turnL_drop, turn_self f n (r.drop f.length) (by simp; omega)]
        conv => lhs; rhs; lhs; rw [← ef, ← word_take r]
        rw [← ef, List.take_append_drop]

/-- Where a name is not mentioned, turning it leaves the text. -/
theorem turn_none (f t : List UInt8) : ∀ s : List UInt8, f ∉ ments s → turnL f t 0 s = s
  | [], _ => by simp [turnL]
  | c :: r, h => by
    cases hc : (c == 35)
    · simp only [ments, hc, Bool.false_eq_true, if_false] at h
      simp [turnL, hc, turn_none f t r h]
    · simp only [ments, hc, if_true, List.mem_cons, not_or] at h
      have hw : (word r == f) = false := by
        cases h2 : (word r == f)
        · rfl
        · exact absurd (by simpa using h2) (Ne.symm h.1)
      simp [turnL, hc, hw, turn_none f t r h.2]

theorem turnL_letters (f t : List UInt8) {a : List UInt8} (ha : a.all isLetter = true) (b : List UInt8) : turnL f t 0 (a ++ b) = a ++ turnL f t 0 b := by
  induction a with
  | nil => rfl
  | cons c r ih =>
    simp only [List.all_cons, Bool.and_eq_true] at ha
    have hc : (c == 35) = false := by
      cases h : (c == 35)
      · rfl
      · have e : c = 35 := by simpa using h
        rw [e, isLetter_mark] at ha
        cases ha.1
    simp only [List.cons_append, turnL, hc, Bool.false_eq_true, if_false]
    rw [ih ha.2]

/-- Turned back, a text is as it was, if the new name was not mentioned. -/
theorem turn_back (f t : List UInt8) (hft : f ≠ t) (hf : f.all isLetter = true) (ht : t.all isLetter = true) : ∀ (n : Nat) (s : List UInt8), s.length ≤ n → t ∉ ments s → turnL t f 0 (turnL f t 0 s) = s
  | _, [], _, _ => by simp [turnL]
  | 0, _ :: _, h, _ => by simp at h
  | n + 1, c :: r, h, hm => by
    have hr : r.length ≤ n := by simpa using h
    cases hc : (c == 35)
    · simp only [ments, hc, Bool.false_eq_true, if_false] at hm
      have e1 : turnL f t 0 (c :: r) = c :: turnL f t 0 r := by simp [turnL, hc]
      rw [e1]
      simp only [turnL, hc, Bool.false_eq_true, if_false]
      rw [turn_back f t hft hf ht n r hr hm]
    · simp only [ments, hc, if_true, List.mem_cons, not_or] at hm
      cases hw : (word r == f)
      · have e1 : turnL f t 0 (c :: r) = c :: turnL f t 0 r := by simp [turnL, hc, hw]
        have hwt : (word (turnL f t 0 r) == t) = false := by
          rw [word_turn]
          cases h2 : (word r == t)
          · rfl
          · exact absurd (by simpa using h2) (Ne.symm hm.1)
        rw [e1]
        simp only [turnL, hc, if_true, hwt, Bool.false_eq_true, if_false]
        rw [turn_back f t hft hf ht n r hr hm.2]
      · have ef : word r = f := by simpa using hw
        have hd : word (r.drop f.length) = [] := by rw [← ef]; exact word_drop r
        have e1 : turnL f t 0 (c :: r) = c :: (t ++ turnL f t 0 (r.drop f.length)) := by
          rw [← turnL_drop]; simp [turnL, hc, hw]
        have hwt : (word (t ++ turnL f t 0 (r.drop f.length)) == t) = true := by
          rw [word_append ht (by rw [word_turn]; exact hd)]; simp
        rw [e1]
        simp only [turnL, hc, if_true, hwt]
        rw [turnL_drop, List.drop_left,
          turn_back f t hft hf ht n (r.drop f.length) (by simp; omega) (by rw [← ef, ments_drop_word]; exact hm.2)]
        conv => lhs; rhs; lhs; rw [← ef, ← word_take r]
        rw [← ef, List.take_append_drop]

theorem turn_length (f t : List UInt8) (ht : t.length ≤ 12) : ∀ (k : Nat) (s : List UInt8), (turnL f t k s).length ≤ 13 * s.length
  | _, [] => by simp [turnL]
  | k + 1, _ :: r => by
    have := turn_length f t ht k r
    simp only [turnL, List.length_cons]
    omega
  | 0, c :: r => by
    have h0 := turn_length f t ht 0 r
    have h1 := turn_length f t ht f.length r
    unfold turnL
    split
    · split
      · simp only [List.length_cons, List.length_append]; omega
      · simp only [List.length_cons]; omega
    · simp only [List.length_cons]; omega

theorem word_more (a b : List UInt8) (hb : word b = []) : word (a ++ b) = word a := by
  induction a with
  | nil => rw [List.nil_append, hb]; rfl
  | cons c r ih =>
    cases hc : isLetter c
    · simp [word, List.takeWhile_cons, hc]
    · unfold word at ih ⊢
      simp only [List.cons_append, List.takeWhile_cons, hc, if_true]
      rw [ih]

/-- A text that goes on with a byte that no name has mentions no fewer. -/
theorem ments_more (a b : List UInt8) (hb : word b = []) : ments (a ++ b) = ments a ++ ments b := by
  induction a with
  | nil => rfl
  | cons c r ih =>
    simp only [List.cons_append, ments]
    rw [word_more r b hb, ih]
    split <;> rfl

/-- The mentions with their places: k bytes lie ahead. -/
def mentsAt : Nat → List UInt8 → List (Nat × List UInt8)
  | _, [] => []
  | k, c :: r => if c == 35 then (k + 1, word r) :: mentsAt (k + 1) r else mentsAt (k + 1) r

theorem mentsAt_words : ∀ (k : Nat) (s : List UInt8), (mentsAt k s).map (·.2) = ments s
  | _, [] => rfl
  | k, c :: r => by
    unfold mentsAt ments
    split <;> simp [mentsAt_words (k + 1) r]

/-- What is done at a mention by whoever turns: what has been written, and how far. -/
def turnStep (s f t : List UInt8) (a : List UInt8 × Nat) (m : Nat × List UInt8) : List UInt8 × Nat :=
  if m.2 = f then (a.1 ++ (s.take m.1).drop a.2 ++ t, m.1 + f.length) else a

def turnFold (s f t : List UInt8) (l : List (Nat × List UInt8)) (a : List UInt8 × Nat) : List UInt8 × Nat := l.foldl (turnStep s f t) a

theorem turnFold_eq (f t : List UInt8) : ∀ (r p out : List UInt8) (done : Nat), (p.length ≤ done → (r.take (done - p.length)).all isLetter = true ∧ done ≤ (p ++ r).length) →
    (turnFold (p ++ r) f t (mentsAt p.length r) (out, done)).1 ++ (p ++ r).drop (turnFold (p ++ r) f t (mentsAt p.length r) (out, done)).2 =
      if done ≤ p.length then out ++ p.drop done ++ turnL f t 0 r else out ++ turnL f t (done - p.length) r
  | [], p, out, done, h => by
    simp only [turnFold, mentsAt, List.foldl_nil, List.append_nil, turnL]
    split
    · rfl
    · rename_i hd
      have := (h (by omega)).2
      simp at this
      omega
  | c :: r, p, out, done, h => by
    have e1 : p ++ c :: r = (p ++ [c]) ++ r := by simp
    have l1 : (p ++ [c]).length = p.length + 1 := by simp
    have ih := turnFold_eq f t r (p ++ [c])
    rw [← e1, l1] at ih
    cases hc : (c == 35)
    · have em : mentsAt p.length (c :: r) = mentsAt (p.length + 1) r := by simp [mentsAt, hc]
      rw [em]
      by_cases hd : done ≤ p.length
      · rw [ih out done (fun h2 => by omega), if_pos (by omega), if_pos hd, List.drop_append_of_le_length (by omega)]
        simp [turnL, hc]
      · have h1 := h (by omega)
        obtain ⟨m, hm⟩ : ∃ m, done - p.length = m + 1 := ⟨done - p.length - 1, by omega⟩
        rw [if_neg hd, hm]
        rw [hm] at h1
        simp only [List.take_succ_cons, List.all_cons, Bool.and_eq_true] at h1
        have em2 : done - (p.length + 1) = m := by omega
        rw [ih out done (fun h2 => ⟨by rw [em2]; exact h1.1.2, h1.2⟩), em2]
        by_cases hd2 : done ≤ p.length + 1
        · have : m = 0 := by omega
          subst this
          have e4 : done = p.length + 1 := by omega
          rw [if_pos hd2]
          have : (p ++ [c]).drop done = [] := List.drop_eq_nil_of_le (by simp; omega)
          simp [this, turnL]
        · rw [if_neg hd2]
          simp [turnL]
    · have ec : c = 35 := by simpa using hc
      have hd : done ≤ p.length := by
        rcases Nat.lt_or_ge p.length done with h2 | h2
        · exfalso
          have h1 := (h (by omega)).1
          obtain ⟨m, hm⟩ : ∃ m, done - p.length = m + 1 := ⟨done - p.length - 1, by omega⟩
          rw [hm] at h1
          simp only [List.take_succ_cons, List.all_cons, Bool.and_eq_true] at h1
          rw [ec, isLetter_mark] at h1
          cases h1.1
        · exact h2
      rw [if_pos hd]
      have em : mentsAt p.length (c :: r) = (p.length + 1, word r) :: mentsAt (p.length + 1) r := by simp [mentsAt, hc]
      rw [em]
      by_cases hw : word r = f
      · have et : (p ++ c :: r).take (p.length + 1) = p ++ [c] := by rw [e1, ← l1]; exact List.take_left
        have es : turnFold (p ++ c :: r) f t ((p.length + 1, word r) :: mentsAt (p.length + 1) r) (out, done) =
            turnFold (p ++ c :: r) f t (mentsAt (p.length + 1) r) (out ++ (p ++ [c]).drop done ++ t, p.length + 1 + f.length) := by
          simp only [turnFold, List.foldl_cons, turnStep, hw, if_true, et]
        have hl : f.length ≤ r.length := by rw [← hw]; exact word_length_le r
        rw [es, ih _ _ (fun _ => ⟨by
            have e5 : p.length + 1 + f.length - (p.length + 1) = f.length := by omega
            rw [e5, ← hw, word_take]; exact word_all r, by simp; omega⟩)]
        have e6 : turnL f t 0 (c :: r) = c :: (t ++ turnL f t f.length r) := by simp [turnL, hc, hw]
        rw [e6, List.drop_append_of_le_length (by omega)]
        by_cases hf : f.length = 0
        · rw [if_pos (by omega), hf]
          have : (p ++ [c]).drop (p.length + 1) = [] := List.drop_eq_nil_of_le (by simp)
          simp [this]
        · rw [if_neg (by omega)]
          have e7 : p.length + 1 + f.length - (p.length + 1) = f.length := by omega
          rw [e7]
          simp
      · have es : turnFold (p ++ c :: r) f t ((p.length + 1, word r) :: mentsAt (p.length + 1) r) (out, done) =
            turnFold (p ++ c :: r) f t (mentsAt (p.length + 1) r) (out, done) := by
          simp only [turnFold, List.foldl_cons, turnStep, hw, if_false]
        rw [es, ih out done (fun h2 => by omega), if_pos (by omega), List.drop_append_of_le_length (by omega)]
        have e6 : turnL f t 0 (c :: r) = c :: turnL f t 0 r := by simp [turnL, hc, hw]
        rw [e6]
        simp

/-- THE TURNED TEXT, AS IT IS WRITTEN MENTION BY MENTION. -/
theorem turn_fold (f t s : List UInt8) : (turnFold s f t (mentsAt 0 s) ([], 0)).1 ++ s.drop (turnFold s f t (mentsAt 0 s) ([], 0)).2 = turnL f t 0 s := by
  have h := turnFold_eq f t s [] [] 0 (fun _ => ⟨by simp, by simp⟩)
  simpa using h

theorem mentsAt_letters {a : List UInt8} (ha : a.all isLetter = true) (b : List UInt8) : ∀ k, mentsAt k (a ++ b) = mentsAt (k + a.length) b := by
  induction a with
  | nil => intro k; rfl
  | cons c r ih =>
    intro k
    simp only [List.all_cons, Bool.and_eq_true] at ha
    have hc : (c == 35) = false := by
      cases h : (c == 35)
      · rfl
      · have e : c = 35 := by simpa using h
        rw [e, isLetter_mark] at ha
        cases ha.1
    have e1 : mentsAt k (c :: (r ++ b)) = mentsAt (k + 1) (r ++ b) := by simp [mentsAt, hc]
    rw [List.cons_append, e1, ih ha.2, List.length_cons]
    congr 1
    omega

/-- Mentions stand apart. -/
theorem mentsAt_apart : ∀ (k : Nat) (s : List UInt8), (mentsAt k s).Pairwise (fun a b => a.1 + a.2.length < b.1) ∧ ∀ m ∈ mentsAt k s, k < m.1 ∧ m.1 + m.2.length ≤ k + s.length
  | k, [] => by simp [mentsAt]
  | k, c :: r => by
    obtain ⟨h1, h2⟩ := mentsAt_apart (k + 1) r
    cases hc : (c == 35)
    · have e : mentsAt k (c :: r) = mentsAt (k + 1) r := by simp [mentsAt, hc]
      rw [e]
      refine ⟨h1, fun m hm => ?_⟩
      have := h2 m hm
      simp only [List.length_cons]
      omega
    · have e : mentsAt k (c :: r) = (k + 1, word r) :: mentsAt (k + 1) r := by simp [mentsAt, hc]
      rw [e]
      refine ⟨List.pairwise_cons.2 ⟨fun m hm => ?_, h1⟩, fun m hm => ?_⟩
      · have e2 : word r ++ r.drop (word r).length = r := by
          conv => lhs; lhs; rw [← word_take r]
          exact List.take_append_drop _ _
        have e3 := mentsAt_letters (word_all r) (r.drop (word r).length) (k + 1)
        rw [e2] at e3
        rw [e3] at hm
        exact ((mentsAt_apart (k + 1 + (word r).length) (r.drop (word r).length)).2 m hm).1
      · rcases List.mem_cons.1 hm with rfl | hm
        · have := word_length_le r
          simp only [List.length_cons]
          omega
        · have := h2 m hm
          simp only [List.length_cons]
          omega
termination_by _ s => s.length
decreasing_by
  all_goals simp
  all_goals omega

/-- What has been written behind some mentions, and how far. -/
theorem turnFold_le (s f t : List UInt8) : ∀ (l : List (Nat × List UInt8)) (a : List UInt8 × Nat) (n : Nat), a.1.length ≤ a.2 + t.length * n → a.2 ≤ s.length → (∀ m ∈ l, a.2 ≤ m.1 ∧ m.1 + m.2.length ≤ s.length) → l.Pairwise (fun a b => a.1 + a.2.length < b.1) →
    (turnFold s f t l a).1.length ≤ (turnFold s f t l a).2 + t.length * (n + l.length) ∧ (turnFold s f t l a).2 ≤ s.length ∧ ((turnFold s f t l a).2 = a.2 ∨ ∃ m ∈ l, (turnFold s f t l a).2 = m.1 + m.2.length)
  | [], a, n, h, h1, _, _ => ⟨by simpa [turnFold] using h, h1, .inl rfl⟩
  | m :: r, a, n, h, h1, h2, h3 => by
    obtain ⟨p1, p2⟩ := List.pairwise_cons.1 h3
    have e : turnFold s f t (m :: r) a = turnFold s f t r (turnStep s f t a m) := rfl
    rw [e]
    have hm := h2 m (by simp)
    by_cases hf : m.2 = f
    · have es : turnStep s f t a m = (a.1 ++ (s.take m.1).drop a.2 ++ t, m.1 + f.length) := by simp [turnStep, hf]
      have ih := turnFold_le s f t r (turnStep s f t a m) (n + 1) (by
        rw [es]
        simp only [List.length_append, List.length_drop, List.length_take, Nat.mul_add, Nat.mul_one]
        omega) (by rw [es]; rw [← hf]; exact hm.2) (fun q hq => by
        rw [es]
        have := p1 q hq
        have := h2 q (by simp [hq])
        rw [← hf]
        exact ⟨by simp only; omega, this.2⟩) p2
      obtain ⟨i1, i2, i3⟩ := ih
      refine ⟨by rw [show n + (m :: r).length = n + 1 + r.length by simp; omega]; exact i1, i2, .inr ?_⟩
      rcases i3 with i3 | ⟨q, hq, i3⟩
      · exact ⟨m, by simp, by rw [i3, es, hf]⟩
      · exact ⟨q, by simp [hq], i3⟩
    · have es : turnStep s f t a m = a := by simp [turnStep, hf]
      rw [es]
      obtain ⟨i1, i2, i3⟩ := turnFold_le s f t r a n h h1 (fun q hq => h2 q (by simp [hq])) p2
      refine ⟨Nat.le_trans i1 (Nat.add_le_add_left (Nat.mul_le_mul_left _ (by simp)) _), i2, ?_⟩
      rcases i3 with i3 | ⟨q, hq, i3⟩
      · exact .inl i3
      · exact .inr ⟨q, by simp [hq], i3⟩

theorem mentsAt_length : ∀ (k : Nat) (s : List UInt8), (mentsAt k s).length ≤ s.length
  | _, [] => by simp [mentsAt]
  | k, c :: r => by
    have := mentsAt_length (k + 1) r
    unfold mentsAt
    split <;> simp only [List.length_cons] <;> omega

/-- In the middle of a text: where the next mention stands, what has been written is behind. -/
theorem turn_mid {s f t : List UInt8} {pre rest : List (Nat × List UInt8)} {m : Nat × List UInt8} (h : pre ++ m :: rest = mentsAt 0 s) :
    (turnFold s f t pre ([], 0)).2 ≤ m.1 ∧ m.1 ≤ s.length ∧ (turnFold s f t pre ([], 0)).1.length ≤ s.length + t.length * s.length := by
  obtain ⟨a1, a2⟩ := mentsAt_apart 0 s
  have hl := mentsAt_length 0 s
  rw [← h] at a1 a2 hl
  obtain ⟨b1, b2, b3⟩ := List.pairwise_append.1 a1
  obtain ⟨c1, c2, c3⟩ := turnFold_le s f t pre ([], 0) 0 (by simp) (by simp) (fun q hq => ⟨by simp, by have := a2 q (by simp [hq]); omega⟩) b1
  have hm := a2 m (by simp)
  refine ⟨?_, by omega, ?_⟩
  · rcases c3 with c3 | ⟨q, hq, c3⟩
    · rw [c3]; simp
    · rw [c3]
      have := b3 q hq m (by simp)
      omega
  · have : t.length * (0 + pre.length) ≤ t.length * s.length := Nat.mul_le_mul_left _ (by simp at hl; omega)
    omega

theorem turn_end (s f t : List UInt8) : (turnFold s f t (mentsAt 0 s) ([], 0)).2 ≤ s.length ∧ (turnFold s f t (mentsAt 0 s) ([], 0)).1.length ≤ s.length + t.length * s.length := by
  obtain ⟨a1, a2⟩ := mentsAt_apart 0 s
  have hl := mentsAt_length 0 s
  obtain ⟨c1, c2, c3⟩ := turnFold_le s f t (mentsAt 0 s) ([], 0) 0 (by simp) (by simp) (fun q hq => ⟨by simp, by have := a2 q hq; omega⟩) a1
  refine ⟨c2, ?_⟩
  have : t.length * (0 + (mentsAt 0 s).length) ≤ t.length * s.length := Nat.mul_le_mul_left _ (by omega)
  omega

#print axioms turn_back
#print axioms ments_turn
end Stl
