/- The walk of scan.Turn, and of what it does at each mention. -/
import Derived.Test.YtgmdifmokcnbpaaGreatDoorMentions
import Derived.Test.YtgmdifmokcnbpaaGreatDoorBuild
import Derived.StillTailTactics
import Derived.Handy
import Derived.Deep.QuietTactic
import Derived.BigQuiet
namespace Go.Proofs.YtgmdifmokcnbpaaGreatDoor
open Go.RowKit

theorem Below.toGrown {w w' : World} (h : Below w.heap.size w w') (row : Option Nat) : w.grownBy w' row := ⟨h.os, h.tape, h.output, h.size, fun i hi _ => h.block i hi⟩

theorem builderAt_below {T e : TypeId} {B b : Nat} {p : Value} {bs : List Value} {w w' : World} (h : Lib.BuilderAt T e B b p bs w) (hb : Below w.heap.size w w') : Lib.BuilderAt T e B b p bs w' := by
  have hlt := h.lt
  obtain ⟨h1, v, h2, h3, h4⟩ := h
  exact ⟨h1, v, (hb.block b hlt).trans h2, h3.kept (Below.toGrown hb (some b)) (Or.inr h4), h4⟩

theorem isBuilder_below {T e : TypeId} {B b : Nat} {bs : List Value} {w w' : World} (h : Lib.IsBuilder T e B b bs w) (hb : Below w.heap.size w w') : Lib.IsBuilder T e B b bs w' :=
  h.imp (builderAt_below · hb) (builderAt_below · hb)

theorem builderAt_setCell {T e : TypeId} {B b : Nat} {p : Value} {bs : List Value} {w : World} (h : Lib.BuilderAt T e B b p bs w) {a : Addr} (h1 : b ≠ a.block) (h2 : ∀ cs fr, w.heap[a.block]? ≠ some (.cells cs e fr)) (u : Value) : Lib.BuilderAt T e B b p bs (w.setCell a u) := by
  obtain ⟨k1, v, k2, k3, k4⟩ := h
  refine ⟨k1, v, (Below.heap_setCell _ _ _ _ h1).trans k2, ownsRow_setCell_other k3 ?_ u, k4⟩
  intro e'
  rcases k3.2 with ⟨hv, _⟩ | ⟨g, cap, cur, hv, _, hg, _⟩
  · rw [hv] at e'; simp [Value.ownBlock] at e'
  · rw [hv] at e'
    have : g = a.block := by simpa [Value.ownBlock] using e'
    subst this
    exact h2 _ _ hg

/-- What lies in memory while a text is turned: the text, the two names (blocks B, B + 1, B + 1 + 1), what has been written (block O), how far (O + 1). -/
structure TSt (B O : Nat) (w0 : World) (l f t : List UInt8) (a : List UInt8 × Nat) (W : World) : Prop where
  lt : B + 1 + 1 < O
  s : W.heap[B]? = some (.cells #[.string ⟨l.toArray⟩] 9 (0, 0))
  f : W.heap[B + 1]? = some (.cells #[.string ⟨f.toArray⟩] 9 (0, 0))
  t : W.heap[B + 1 + 1]? = some (.cells #[.string ⟨t.toArray⟩] 9 (0, 0))
  out : Lib.IsBuilder 68 5 O O (Lib.byteCells a.1) W
  done : W.heap[O + 1]? = some (.cells #[.int .i64 a.2] 3 (0, 0))
  below : Below O w0 W

theorem TSt.later {B O : Nat} {w0 : World} {l f t : List UInt8} {a : List UInt8 × Nat} {W W' : World} (h : TSt B O w0 l f t a W) (hb : Below W.heap.size W W') : TSt B O w0 l f t a W' := by
  have k0 := lt_of_block h.s
  have k1 := lt_of_block h.f
  have k2 := lt_of_block h.t
  have k4 := lt_of_block h.done
  exact ⟨h.lt, (hb.block _ k0).trans h.s, (hb.block _ k1).trans h.f, (hb.block _ k2).trans h.t, isBuilder_below h.out hb, (hb.block _ k4).trans h.done, h.below.trans (hb.mono (by omega))⟩

theorem byteCells_str (l : List UInt8) : Lib.strCells ⟨l.toArray⟩ = Lib.byteCells l := by simp [Lib.strCells, Lib.byteCells]
theorem byteCells_append (a b : List UInt8) : Lib.byteCells a ++ Lib.byteCells b = Lib.byteCells (a ++ b) := by simp [Lib.byteCells]

/-- '+' of two texts. -/
theorem run_add_lists {P : Program} (T : TypeId) (x y : List UInt8) (h : x.length + y.length ≤ 9223372036854775807) (w : World) : (binOp .add T (.string ⟨x.toArray⟩) (.string ⟨y.toArray⟩)).run P w = .ok (.string ⟨(x ++ y).toArray⟩) w := by
  have := run_string_add_sum (P := P) w ⟨x.toArray⟩ ⟨y.toArray⟩ (by show x.toArray.size + y.toArray.size ≤ _; simpa using h)
  rw [ByteArray.mk_append_mk] at this
  simp [binOp, this]

set_option maxHeartbeats 1000000 in
set_option maxRecDepth 100000 in
theorem turn1_any {B O : Nat} {w0 : World} {l f t : List UInt8} {a : List UInt8 × Nat} {W : World} (hT : TSt B O w0 l f t a W) (at_ : Nat) (x : List UInt8) (h1 : a.2 ≤ at_) (h2 : at_ + x.length ≤ l.length) 
    (h3 : a.1.length + l.length + t.length ≤ 140737488355328) :
    Calls Tryz.prog 33 #[.int .i64 at_, .string ⟨x.toArray⟩, .pointer (some ⟨B + 1, 0, none⟩), .pointer (some ⟨O, 0, none⟩), .pointer (some ⟨B, 0, none⟩), .pointer (some ⟨O + 1, 0, none⟩), .pointer (some ⟨B + 1 + 1, 0, none⟩)] W
      fun e W' => e = .returned (.tuple #[]) ∧ TSt B O w0 l f t (Stl.turnStep l f t a (at_, x)) W' := by
  have cs := cell_of_one hT.s
  have cf := cell_of_one hT.f
  have ct := cell_of_one hT.t
  have cd := cell_of_one hT.done
  by_cases hx : x = f
  · subst hx
    have hp := extract_part l a.2 at_
    have i1 : (a.2 : Int) ≤ (at_ : Int) := by omega
    have i2 : (at_ : Int) ≤ (l.length : Int) := by omega
    have i3 : at_ ≤ l.length := by omega
    have e : Stl.turnStep l x t a (at_, x) = (a.1 ++ (l.take at_).drop a.2 ++ t, at_ + x.length) := by simp [Stl.turnStep]
    rw [e]
    have HT := Lib.hid hT
    clear hT e
    have hp3 : ((l.take at_).drop a.2).length ≤ l.length := by simp; omega
    have hadd := run_add_lists (P := Tryz.prog) 9 ((l.take at_).drop a.2) t (by omega)
    generalize (l.take at_).drop a.2 = p at hp hadd hp3 ⊢
    clear hadd
    have hs : ¬ 9223372036854775807 < p.length + t.length := by omega
    have hjn := ByteArray.mk_append_mk p t
    go_enter Tryz.func33, Tryz.ntmps33
    go_wp2_with fail
    go_still_tail 6, (by kernel_rfl)
    change wpList _ _ _ _ _ W.drew
    have HT2 : Hid (TSt B O w0 l x t a W.drew) := HT.out.later ((Below.refl _ _).drew)
    clear HT cs ct cd cf hp hs hjn
    generalize W.drew = W2 at HT2 ⊢
    have hlen : (Lib.byteCells a.1).length + (⟨(p ++ t).toArray⟩ : ByteArray).size ≤ 140737488355328 := by
      show _ + ((p ++ t).toArray).size ≤ _
      simp only [Lib.byteCells_length, List.size_toArray, List.length_append]
      omega
    have hBw : O ≤ W2.heap.size := by have := lt_of_block HT2.out.done; omega
    have hlt := HT2.out.lt
    go_wp2_with (go_at_call 34; go_must (refine (WriteString_any O O _ ⟨(p ++ t).toArray⟩ _ HT2.out.out hlen hBw).mono ?_))
    rintro e w3 ⟨rfl, hb3, hbl3, hk3⟩
    have cd3 : w3.heap[O + 1]? = some (.cells #[.int .i64 a.2] 3 (0, 0)) := hk3 _ _ HT2.out.done (by omega) (fun cs fr e => by injection e with _ e; revert e; decide)
    have c1 := cell_of_one cd3
    have f1 := free_of_one cd3
    have HB3 := Lib.hid hb3
    have HK3 := Lib.hid hk3
    have HL3 := Lib.hid hbl3
    have HC3 := Lib.hid cd3
    clear hb3 hk3 hbl3 cd3 hlen
    go_wp2
    go_end0
    refine ⟨rfl, ⟨hlt, ?_, ?_, ?_, ?_, ?_, ?_⟩⟩
    · rw [Below.heap_setCell _ _ _ _ (by show (_ : Nat) ≠ O + 1; omega)]
      exact HK3.out _ _ HT2.out.s (by omega) (fun cs fr e => by injection e with _ e; revert e; decide)
    · rw [Below.heap_setCell _ _ _ _ (by show (_ : Nat) ≠ O + 1; omega)]
      exact HK3.out _ _ HT2.out.f (by omega) (fun cs fr e => by injection e with _ e; revert e; decide)
    · rw [Below.heap_setCell _ _ _ _ (by show (_ : Nat) ≠ O + 1; omega)]
      exact HK3.out _ _ HT2.out.t (by omega) (fun cs fr e => by injection e with _ e; revert e; decide)
    · right
      have h5 := HB3.out
      rw [byteCells_str, byteCells_append] at h5
      refine builderAt_setCell ?_ (by simp) (fun cs fr e => by
        rw [HC3.out] at e
        injection e with e
        injection e with _ e
        revert e
        decide) _
      rw [show a.1 ++ p ++ t = a.1 ++ (p ++ t) by simp]
      exact h5
    · rw [one_setCell HC3.out]
      simp
    · exact (HT2.out.below.trans HL3.out).setCell (p := ⟨O + 1, 0, none⟩) (by simp) _
  · have hne : (x == f) = false := by simpa using hx
    have e : Stl.turnStep l f t a (at_, x) = a := by simp [Stl.turnStep, hx]
    rw [e]
    have HT := Lib.hid hT
    clear hT e
    go_enter Tryz.func33, Tryz.ntmps33
    go_wp2_with fail
    go_end0
    exact ⟨rfl, HT.out⟩

/-- A package-level error: its cell holds a pointer. -/
def errAt (w : World) (g : Nat) (p : Addr) : Prop := w.cell? ⟨g, 0, none⟩ = some (.iface 176 (.pointer (some p))) ∧ g < w.heap.size

theorem errAt.later {w w' : World} {g : Nat} {p : Addr} (h : errAt w g p) (hb : Below w.heap.size w w') : errAt w' g p :=
  ⟨(hb.cell (p := ⟨g, 0, none⟩) h.2).trans h.1, Nat.lt_of_lt_of_le h.2 hb.size⟩

/-- An error as a value. -/
def errV (p : Addr) : Value := .iface 176 (.pointer (some p))

/-- What scan.Turn hands back. -/
def turnRes (l f t : List UInt8) (pN pB : Addr) : Value :=
  if Stl.isName f = true ∧ Stl.isName t = true then
    (if 2000 < (Stl.turnL f t 0 l).length then .tuple #[.string ⟨#[]⟩, errV pB] else .tuple #[.string ⟨(Stl.turnL f t 0 l).toArray⟩, .nilIface])
  else .tuple #[.string ⟨#[]⟩, errV pN]

theorem below_alloc3 (w : World) (a b c : Obj) : Below w.heap.size w (((w.alloc a).alloc b).alloc c) :=
  (((Below.refl _ w).alloc (Nat.le_refl _) a).alloc (by simp) b).alloc (by simp; omega) c

theorem Below.drewN {B : Nat} {a w : World} (h : Below B a w) : ∀ n, Below B a (w.drewN n)
  | 0 => h
  | n + 1 => (Below.drewN h n).drew

theorem heap_past (w : World) (o : Obj) {k : Nat} {x : Obj} (h : w.heap[k]? = some x) : (w.alloc o).heap[k]? = some x := (Below.heap_alloc w o k (lt_of_block h)).trans h

/-- Three boxes, and what comes behind them. -/
theorem boxes3 (w w1 : World) (a b c : Obj) (hb : Below (((w.alloc a).alloc b).alloc c).heap.size (((w.alloc a).alloc b).alloc c) w1) :
    w1.heap[w.heap.size]? = some a ∧ w1.heap[w.heap.size + 1]? = some b ∧ w1.heap[w.heap.size + 1 + 1]? = some c := by
  have e1 : (w.alloc a).heap[w.heap.size]? = some a := heap_alloc_new w a
  have e2 : ((w.alloc a).alloc b).heap[w.heap.size + 1]? = some b := by have := heap_alloc_new (w.alloc a) b; simpa using this
  have e3 : (((w.alloc a).alloc b).alloc c).heap[w.heap.size + 1 + 1]? = some c := by have := heap_alloc_new ((w.alloc a).alloc b) c; simpa using this
  have f1 := heap_past _ c (heap_past _ b e1)
  have f2 := heap_past _ c e2
  exact ⟨(hb.block _ (lt_of_block f1)).trans f1, (hb.block _ (lt_of_block f2)).trans f2, (hb.block _ (lt_of_block e3)).trans e3⟩

theorem tst_start {w2 : World} {B : Nat} {l f t : List UInt8} (b1 : w2.heap[B]? = some (.cells #[.string ⟨l.toArray⟩] 9 (0, 0))) (b2 : w2.heap[B + 1]? = some (.cells #[.string ⟨f.toArray⟩] 9 (0, 0)))
    (b3 : w2.heap[B + 1 + 1]? = some (.cells #[.string ⟨t.toArray⟩] 9 (0, 0))) :
    TSt B w2.heap.size w2 l f t ([], 0) ((w2.alloc (.cells #[.pointer none, .slice none 0 0] 68)).alloc (.cells #[.int .i64 0] 3)) := by
  refine ⟨lt_of_block b3, heap_past _ _ (heap_past _ _ b1), heap_past _ _ (heap_past _ _ b2), heap_past _ _ (heap_past _ _ b3), .inl ⟨Nat.le_refl _, .slice none 0 0, heap_past _ _ (heap_alloc_new _ _), World.ownsRow_nil _ _ _ _, by simp [Value.ownBlock]⟩, ?_, ?_⟩
  · have := heap_alloc_new (w2.alloc (.cells #[.pointer none, .slice none 0 0] 68)) (.cells #[.int .i64 0] 3)
    simpa using this
  · exact ((Below.refl _ _).alloc (Nat.le_refl _) _).alloc (by simp) _

theorem turnFold_snoc (s f t : List UInt8) (l : List (Nat × List UInt8)) (m : Nat × List UInt8) (a : List UInt8 × Nat) : Stl.turnFold s f t (l ++ [m]) a = Stl.turnStep s f t (Stl.turnFold s f t l a) m := by simp [Stl.turnFold, List.foldl_append]

theorem turn1_enters : ∀ args w, (callFunc 33 args).run Tryz.prog w = .ok (.enter 33 args) w := enters_of Tryz.func33 (by kernel_rfl) rfl

/-- What is done at all mentions. -/
theorem turn_ments {B O : Nat} {w0 : World} {l f t : List UInt8} {W : World} (hT : TSt B O w0 l f t ([], 0) W) (hl : l.length ≤ 4294967280) (ht : t.length ≤ 12) :
    Calls Tryz.prog 17 #[.string ⟨l.toArray⟩, .func (.func 33) #[] #[.pointer (some ⟨B + 1, 0, none⟩), .pointer (some ⟨O, 0, none⟩), .pointer (some ⟨B, 0, none⟩), .pointer (some ⟨O + 1, 0, none⟩), .pointer (some ⟨B + 1 + 1, 0, none⟩)]] W
      fun e W' => e = .returned (.tuple #[]) ∧ TSt B O w0 l f t (Stl.turnFold l f t (Stl.mentsAt 0 l) ([], 0)) W' := by
  refine mentions_any l (by omega) _ _ turn1_enters (fun pre W => TSt B O w0 l f t (Stl.turnFold l f t pre ([], 0)) W) (fun pre W W' h hb => h.later hb) ?_ W hT
  rintro pre at_ W1 h1 hat ⟨rest, hr⟩
  obtain ⟨m1, m2, m3⟩ := Stl.turn_mid (f := f) (t := t) hr
  have hw := Stl.word_length_le (l.drop at_)
  have hm : t.length * l.length ≤ 12 * l.length := Nat.mul_le_mul_right _ ht
  simp only at m1 m2 m3
  simp only [List.length_drop] at hw
  refine (turn1_any h1 at_ (Stl.word (l.drop at_)) m1 (by omega) (by omega)).mono ?_
  rintro e W2 ⟨rfl, h2⟩
  exact ⟨rfl, by rw [turnFold_snoc]; exact h2⟩

theorem Len_any (B b : Nat) (l : List UInt8) (w : World) (h : Lib.IsBuilder 68 5 B b (Lib.byteCells l) w) :
    Calls Tryz.prog 35 #[.pointer (some ⟨b, 0, none⟩)] w fun e w' => e = .returned (.int .i64 l.length) ∧ w' = w := by
  have := Tryz.Builder_Len B b (Lib.byteCells l) w h
  rw [Lib.byteCells_length] at this
  exact this

set_option maxHeartbeats 2000000 in
set_option maxRecDepth 100000 in
theorem Turn_any (l f t : List UInt8) (w : World) (pN pB : Addr) (hN : errAt w 0 pN) (hB : errAt w 1 pB) (hl : l.length ≤ 4294967280) (hf : f.length ≤ 9223372036854775807) (ht : t.length ≤ 9223372036854775807) :
    Calls Tryz.prog 13 #[.string ⟨l.toArray⟩, .string ⟨f.toArray⟩, .string ⟨t.toArray⟩] w fun e w' => e = .returned (turnRes l f t pN pB) ∧ Below w.heap.size w w' := by
  cases hnf : Stl.isName f
  · have HR : Hid (turnRes l f t pN pB = .tuple #[.string ⟨#[]⟩, errV pN]) := Lib.hid (by simp [turnRes, hnf])
    go_enter Tryz.func13, Tryz.ntmps13
    go_wp2_with (go_at_call 19; refine (Name_any _ _ (by assumption)).mono ?_; rintro e w1 ⟨rfl, hb1⟩)
    have hbw : Below w.heap.size w w1 := (below_alloc3 w _ _ _).trans (hb1.mono (by simp; omega))
    have hg := (hN.later hbw).1
    go_quiet (fail)
    go_wp2
    go_ret2
    exact ⟨by rw [HR.out]; rfl, Below.drewN hbw _⟩
  · cases hnt : Stl.isName t
    · have HR : Hid (turnRes l f t pN pB = .tuple #[.string ⟨#[]⟩, errV pN]) := Lib.hid (by simp [turnRes, hnt])
      go_enter Tryz.func13, Tryz.ntmps13
      go_wp2_with fail
      refine (Name_any _ _ hf).mono ?_
      rintro e w1 ⟨rfl, hb1⟩
      obtain ⟨b1, b2, b3⟩ := boxes3 _ _ _ _ _ hb1
      have c3 := cell_of_one b3
      have hbw : Below w.heap.size w w1 := (below_alloc3 w _ _ _).trans (hb1.mono (by simp; omega))
      clear b1 b2 b3 hb1
      go_wp2_with fail
      refine (Name_any _ _ ht).mono ?_
      rintro e w2 ⟨rfl, hb2⟩
      have hbw2 : Below w.heap.size w w2 := hbw.trans (hb2.mono hbw.size)
      have hg := (hN.later hbw2).1
      go_wp2_with fail
      go_quiet (fail)
      go_wp2
      go_ret2
      exact ⟨by rw [HR.out]; rfl, Below.drewN hbw2 _⟩
    · go_enter Tryz.func13, Tryz.ntmps13
      go_wp2_with fail
      refine (Name_any _ _ hf).mono ?_
      rintro e w1 ⟨rfl, hb1⟩
      obtain ⟨b1, b2, b3⟩ := boxes3 _ _ _ _ _ hb1
      have c3 := cell_of_one b3
      have hbw : Below w.heap.size w w1 := (below_alloc3 w _ _ _).trans (hb1.mono (by simp; omega))
      have B1 := Lib.hid b1
      have B2 := Lib.hid b2
      have B3 := Lib.hid b3
      clear b1 b2 b3 hb1
      go_wp2_with fail
      refine (Name_any _ _ ht).mono ?_
      rintro e w2 ⟨rfl, hb2⟩
      have hbw2 : Below w.heap.size w w2 := hbw.trans (hb2.mono hbw.size)
      have c1 : w2.cell? ⟨w.heap.size, 0, none⟩ = some (.string ⟨l.toArray⟩) := cell_of_one ((hb2.block _ (lt_of_block B1.out)).trans B1.out)
      have l0 : w.heap.size < w2.heap.size := by have := lt_of_block B3.out; have := hb2.size; omega
      have H2 := Lib.hid hb2
      have HW2 := Lib.hid hbw2
      clear hb2 hbw2 hbw c3
      go_wp2_with fail
      have b1 := (H2.out.block _ (lt_of_block B1.out)).trans B1.out
      have b2 := (H2.out.block _ (lt_of_block B2.out)).trans B2.out
      have b3 := (H2.out.block _ (lt_of_block B3.out)).trans B3.out
      refine (turn_ments (tst_start b1 b2 b3) hl (Stl.name_le hnt)).mono ?_
      rintro e w3 ⟨rfl, h3⟩
      obtain ⟨e1, e2⟩ := Stl.turn_end l f t
      have e3 := Stl.turn_fold f t l
      have e4 : t.length * l.length ≤ 12 * l.length := Nat.mul_le_mul_right _ (Stl.name_le hnt)
      have HBd := Lib.hid hB
      generalize Stl.turnFold l f t (Stl.mentsAt 0 l) ([], 0) = a at h3 e1 e2 e3
      have H3 := Lib.hid h3
      have E3 := Lib.hid e3
      have k1 := cell_of_one h3.s
      have k2 := cell_of_one h3.done
      have i1 : (a.2 : Int) ≤ (l.length : Int) := by omega
      have hx := extract_drop l a.2
      clear h3 e3 c1 b1 b2 b3 hN hB
      go_wp2_with fail
      refine (WriteString_any w2.heap.size w2.heap.size _ _ _ H3.out.out (by
        show (Lib.byteCells a.1).length + ((l.drop a.2).toArray).size ≤ _
        simp only [Lib.byteCells_length, List.size_toArray, List.length_drop]
        omega) (by have := lt_of_block H3.out.done; omega)).mono ?_
      rintro e w4 ⟨rfl, hb4, hbl4, hk4⟩
      rw [byteCells_str, byteCells_append, E3.out] at hb4
      have hbw4 : Below w.heap.size w w4 := HW2.out.trans ((H3.out.below.trans hbl4).mono (Nat.le_of_lt l0))
      have HB4 := Lib.hid (Or.inr hb4 : Lib.IsBuilder 68 5 w2.heap.size w2.heap.size (Lib.byteCells (Stl.turnL f t 0 l)) w4)
      have HW4 := Lib.hid hbw4
      have hsz4 : w2.heap.size ≤ w4.heap.size := Nat.le_trans (by have := lt_of_block H3.out.done; omega) hbl4.size
      clear hb4 hbl4 hk4 hbw4 H3 k1 k2 hx i1 e1 e2 e4 E3
      have HR := Lib.hid (show turnRes l f t pN pB = (if 2000 < (Stl.turnL f t 0 l).length then .tuple #[.string ⟨#[]⟩, errV pB] else .tuple #[.string ⟨(Stl.turnL f t 0 l).toArray⟩, .nilIface]) by simp [turnRes, hnf, hnt])
      generalize Stl.turnL f t 0 l = r at HB4 HR
      go_wp2_with fail
      refine (Len_any w2.heap.size w2.heap.size r w4 HB4.out).mono ?_
      rintro e w5 ⟨rfl, rfl⟩
      by_cases hr : 2000 < r.length
      · have hg := (HBd.out.later HW4.out).1
        have hr2 : (2000 : Int) < (r.length : Int) := by omega
        go_wp2_with fail
        go_quiet (fail)
        go_wp2
        go_ret2
        exact ⟨by rw [HR.out, if_pos hr]; rfl, Below.drewN HW4.out _⟩
      · have hr2 : (r.length : Int) ≤ 2000 := by omega
        go_wp2_with fail
        refine (Tryz.Builder_String_any w2.heap.size w2.heap.size r _ HB4.out hsz4).mono ?_
        rintro e w6 ⟨rfl, hb6⟩
        go_wp2
        go_ret2
        exact ⟨by rw [HR.out, if_neg hr]; rfl, HW4.out.trans (hb6.mono (Nat.le_of_lt l0))⟩
#print axioms Turn_any
end Go.Proofs.YtgmdifmokcnbpaaGreatDoor
