/- The walk of the law's OwnNode: the same tree in memory of its own. -/
import Derived.Test.YtgmdifmokcnbpaaGreatDoorNodeP
import Derived.Test.YtgmdifmokcnbpaaGreatDoorApp
import Derived.Deep.RegionHeld3
import Derived.Deep.AppendLies
namespace Go.Proofs.YtgmdifmokcnbpaaGreatDoor
open Go.RowKit Go.Maps Go.Sort Go.Shelf

def zeroKid : Value := .agg #[.string ByteArray.empty, .string ByteArray.empty, .string ByteArray.empty, .bool false, .slice none 0 0]

theorem infoKid : ∃ i : TypeInfo, Tryz.prog.info? 46 = some i ∧ i.zero = some zeroKid ∧ i.size = 5 ∧ i.bytes = 80 := by
  have h : (Tryz.prog.info? 46).map (fun i => (i.zero, i.size, i.bytes)) = some (some zeroKid, 5, 80) := by kernel_rfl
  cases hi : Tryz.prog.info? 46 with
  | none => rw [hi] at h; cases h
  | some i =>
    rw [hi] at h
    simp only [Option.map_some, Option.some.injEq, Prod.mk.injEq] at h
    exact ⟨i, rfl, h.1, h.2.1, h.2.2⟩

/-- What OwnNode hands back: the tree, in new blocks. -/
def OwnNodeEnd (n : Stl.Nd) (w : World) (e : Ending) (w' : World) : Prop := ∃ vs, e = .returned (.agg vs.toArray) ∧ NodeP (fun b => w.heap.size ≤ b) w' n vs ∧ Below w.heap.size w w'

theorem kids_bound {w : World} {k d : List UInt8} {e : Bool} {ks : List (List UInt8 × Stl.Nd)} {vs : List Value} (h : NodeAt w (.mk k d e ks) vs) : ks.length ≤ 1759218604441 := by
  obtain ⟨A', c', _, ⟨_, h2, _⟩, _⟩ := h.open2
  exact h2

/-- While the kids are copied: the node's box, the result's box, and what was there ahead. -/
structure OSt (w wr : World) (k d : List UInt8) (e : Bool) (A : Option Addr) (n c : Nat) : Prop where
  box : wr.heap[w.heap.size]? = some (.cells #[.string ⟨k.toArray⟩, .string ⟨d.toArray⟩, .bool e, .slice A n c] 24 (0, 0))
  res : wr.heap[w.heap.size + 1]? = some (.cells #[.string ⟨#[]⟩, .string ⟨#[]⟩, .bool false, .slice none 0 0] 24 (0, 0))
  below : Below w.heap.size w wr

theorem OSt.later {w wr w' : World} {k d : List UInt8} {e : Bool} {A : Option Addr} {n c : Nat} (h : OSt w wr k d e A n c) (hb : Below wr.heap.size wr w') : OSt w w' k d e A n c :=
  ⟨(hb.block _ (lt_of_block h.box)).trans h.box, (hb.block _ (lt_of_block h.res)).trans h.res, h.below.trans (hb.mono h.below.size)⟩

theorem OSt.grown {w wr w' : World} {k d : List UInt8} {e : Bool} {A : Option Addr} {n c : Nat} {r : Option Nat} (h : OSt w wr k d e A n c) (hg : wr.grownBy w' r) (hr : ∀ b, r = some b → w.heap.size + 2 ≤ b) : OSt w w' k d e A n c :=
  ⟨(hg.block _ (lt_of_block h.box) (fun e => by have := hr _ e.symm; omega)).trans h.box, (hg.block _ (lt_of_block h.res) (fun e => by have := hr _ e.symm; omega)).trans h.res, h.below.grown hg h.below.size (fun b hb => by have := hr b hb; omega)⟩

set_option maxHeartbeats 8000000 in
set_option maxRecDepth 100000 in
theorem OwnNode_any : ∀ (m : Nat) (n : Stl.Nd) (vs : List Value) (w : World), Stl.wt n ≤ m → NodeAt w n vs →
    Calls Tryz.prog 11 #[.agg vs.toArray] w (OwnNodeEnd n w) := by
  intro m
  induction m with
  | zero =>
    intro n vs w hm
    cases n
    simp [Stl.wt] at hm
  | succ m ih =>
    intro n vs w hm hn
    have IH := Lib.hid ih
    have HM := Lib.hid hm
    have HN := Lib.hid hn
    obtain ⟨k, d, e, ks⟩ := n
    obtain ⟨A, c, rfl, ⟨hc, hc2, hkl, hdl⟩, hk⟩ := hn.open
    have hcb := kids_bound hn
    have HK := Lib.hid hk
    have HMK := Lib.hid (show Stl.wtL ks ≤ m by simp only [Stl.wt] at hm; omega)
    clear ih hm hn hk
    have HB1 := Lib.hid (((Below.refl _ w).alloc (Nat.le_refl _) (.cells #[.string ⟨k.toArray⟩, .string ⟨d.toArray⟩, .bool e, .slice A ks.length c] 24)).alloc (by simp) (.cells #[.string ⟨#[]⟩, .string ⟨#[]⟩, .bool false, .slice none 0 0] 24))
    have HX1 := Lib.hid (heap_past (w.alloc (.cells #[.string ⟨k.toArray⟩, .string ⟨d.toArray⟩, .bool e, .slice A ks.length c] 24)) (.cells #[.string ⟨#[]⟩, .string ⟨#[]⟩, .bool false, .slice none 0 0] 24) (heap_alloc_new w (.cells #[.string ⟨k.toArray⟩, .string ⟨d.toArray⟩, .bool e, .slice A ks.length c] 24)))
    have HY1 := Lib.hid (heap_alloc_new (w.alloc (.cells #[.string ⟨k.toArray⟩, .string ⟨d.toArray⟩, .bool e, .slice A ks.length c] 24)) (.cells #[.string ⟨#[]⟩, .string ⟨#[]⟩, .bool false, .slice none 0 0] 24))
    rw [show (w.alloc (.cells #[.string ⟨k.toArray⟩, .string ⟨d.toArray⟩, .bool e, .slice A ks.length c] 24)).heap.size = w.heap.size + 1 by simp] at HY1
    obtain ⟨i0, hi, hz0, hz1, hz2⟩ := infoKid
    have Hi := Lib.hid hi
    have Hz0 := Lib.hid hz0
    have Hz1 := Lib.hid hz1
    have Hz2 := Lib.hid hz2
    clear hi hz0 hz1 hz2
    go_enter Tryz.func11, Tryz.ntmps11
    go_upto_region 1 with fail
    generalize (w.alloc (.cells #[.string ⟨k.toArray⟩, .string ⟨d.toArray⟩, .bool e, .slice A ks.length c] 24)).alloc (.cells #[.string ⟨#[]⟩, .string ⟨#[]⟩, .bool false, .slice none 0 0] 24) = w1 at *
    have HO := Lib.hid (OSt.mk HX1.out HY1.out HB1.out)
    go_wp2_with fail
    go_loopw [3, 4] (fun v a wr => ∃ (i : Nat) (xs : List Value), i ≤ ks.length ∧ a = .int .i64 i ∧ Hid (wr.ownsRow (w.heap.size + 2) 46 5 v i xs) ∧ Hid (KidsCells (fun b => w.heap.size + 2 ≤ b ∧ some b ≠ v.ownBlock) wr (ks.take i) xs) ∧ Hid (OSt w wr k d e A ks.length c)) (fun _ a _ => ks.length - (intOf a).toNat)
    case atStart => exact ⟨0, [], Nat.zero_le _, rfl, Lib.hid (World.ownsRow_nil _ _ _ _), Lib.hid rfl, HO⟩
    case round =>
      obtain ⟨i, xs, hi, rfl, HOW, HKC, HO2⟩ := hrel
      have s3 := cell_of_row wr w.heap.size 3 _ _ _ HO2.out.box
      by_cases hil : i < ks.length
      case neg =>
        have i1 : ¬ (i : Int) < (ks.length : Int) := by omega
        have s0 := cell_of_row wr w.heap.size 0 _ _ _ HO2.out.box
        have s1 := cell_of_row wr w.heap.size 1 _ _ _ HO2.out.box
        have s2 := cell_of_row wr w.heap.size 2 _ _ _ HO2.out.box
        have f3 : wr.frozen? ⟨w.heap.size, 3, none⟩ = false := by simp [World.frozen?, HO2.out.box]
        have r0 := cell_of_row wr (w.heap.size + 1) 0 _ _ _ HO2.out.res
        have r1 := cell_of_row wr (w.heap.size + 1) 1 _ _ _ HO2.out.res
        have r2 := cell_of_row wr (w.heap.size + 1) 2 _ _ _ HO2.out.res
        have r3 := cell_of_row wr (w.heap.size + 1) 3 _ _ _ HO2.out.res
        have fr0 : wr.frozen? ⟨w.heap.size + 1, 0, none⟩ = false := by simp [World.frozen?, HO2.out.res]
        have fr1 : wr.frozen? ⟨w.heap.size + 1, 1, none⟩ = false := by simp [World.frozen?, HO2.out.res]
        have fr2 : wr.frozen? ⟨w.heap.size + 1, 2, none⟩ = false := by simp [World.frozen?, HO2.out.res]
        have fr3 : wr.frozen? ⟨w.heap.size + 1, 3, none⟩ = false := by simp [World.frozen?, HO2.out.res]
        obtain ⟨Al, cl, rfl⟩ := Stl.owns_slice _ HOW.out
        have HLT := Lib.hid (show ks.take i = ks from List.take_of_length_le (by omega))
        have hie : i = ks.length := by omega
        have HIE := Lib.hid hie
        clear hie
        go_wp2
        have hfin : (((((wr.setCell ⟨w.heap.size, 3, none⟩ (.slice Al i cl)).setCell ⟨w.heap.size + 1, 0, none⟩ (.string ⟨k.toArray⟩)).setCell ⟨w.heap.size + 1, 1, none⟩ (.string ⟨d.toArray⟩)).setCell ⟨w.heap.size + 1, 2, none⟩ (.bool e)).setCell ⟨w.heap.size + 1, 3, none⟩ (.slice Al i cl)).heap[w.heap.size + 1]? = some (.cells #[.string ⟨k.toArray⟩, .string ⟨d.toArray⟩, .bool e, .slice Al i cl] 24 (0, 0)) := by
          have h0 : (wr.setCell ⟨w.heap.size, 3, none⟩ (.slice Al i cl)).heap[w.heap.size + 1]? = some (.cells #[.string ⟨#[]⟩, .string ⟨#[]⟩, .bool false, .slice none 0 0] 24 (0, 0)) := (Below.heap_setCell _ _ _ _ (by simp)).trans HO2.out.res
          have h1 := heap_setCell_same _ _ 0 _ _ (.string ⟨k.toArray⟩) h0
          have h2 := heap_setCell_same _ _ 1 _ _ (.string ⟨d.toArray⟩) h1
          have h3 := heap_setCell_same _ _ 2 _ _ (.bool e) h2
          exact heap_setCell_same _ _ 3 _ _ (.slice Al i cl) h3
        have hbl : Below w.heap.size wr (((((wr.setCell ⟨w.heap.size, 3, none⟩ (.slice Al i cl)).setCell ⟨w.heap.size + 1, 0, none⟩ (.string ⟨k.toArray⟩)).setCell ⟨w.heap.size + 1, 1, none⟩ (.string ⟨d.toArray⟩)).setCell ⟨w.heap.size + 1, 2, none⟩ (.bool e)).setCell ⟨w.heap.size + 1, 3, none⟩ (.slice Al i cl)) :=
          (((((Below.refl _ wr).setCell (p := ⟨w.heap.size, 3, none⟩) (Nat.le_refl _) _).setCell (p := ⟨w.heap.size + 1, 0, none⟩) (by simp) _).setCell (p := ⟨w.heap.size + 1, 1, none⟩) (by simp) _).setCell (p := ⟨w.heap.size + 1, 2, none⟩) (by simp) _).setCell (p := ⟨w.heap.size + 1, 3, none⟩) (by simp) _
        have hoth : ∀ j, j ≠ w.heap.size → j ≠ w.heap.size + 1 → (((((wr.setCell ⟨w.heap.size, 3, none⟩ (.slice Al i cl)).setCell ⟨w.heap.size + 1, 0, none⟩ (.string ⟨k.toArray⟩)).setCell ⟨w.heap.size + 1, 1, none⟩ (.string ⟨d.toArray⟩)).setCell ⟨w.heap.size + 1, 2, none⟩ (.bool e)).setCell ⟨w.heap.size + 1, 3, none⟩ (.slice Al i cl)).heap[j]? = wr.heap[j]? := fun j h1 h2 => by
          rw [Below.heap_setCell _ _ _ _ h2, Below.heap_setCell _ _ _ _ h2, Below.heap_setCell _ _ _ _ h2, Below.heap_setCell _ _ _ _ h2, Below.heap_setCell _ _ _ _ h1]
        generalize ((((wr.setCell ⟨w.heap.size, 3, none⟩ (.slice Al i cl)).setCell ⟨w.heap.size + 1, 0, none⟩ (.string ⟨k.toArray⟩)).setCell ⟨w.heap.size + 1, 1, none⟩ (.string ⟨d.toArray⟩)).setCell ⟨w.heap.size + 1, 2, none⟩ (.bool e)).setCell ⟨w.heap.size + 1, 3, none⟩ (.slice Al i cl) = wf at *
        have g0 := cell_of_row wf (w.heap.size + 1) 0 _ _ _ hfin
        have g1 := cell_of_row wf (w.heap.size + 1) 1 _ _ _ hfin
        have g2 := cell_of_row wf (w.heap.size + 1) 2 _ _ _ hfin
        have g3 := cell_of_row wf (w.heap.size + 1) 3 _ _ _ hfin
        refine bodyPost_ret (v := .agg #[.string ⟨k.toArray⟩, .string ⟨d.toArray⟩, .bool e, .slice Al i cl]) (by simp [results, Tryz.results11, go_sem, g0, g1, g2, g3]) rfl ⟨[.string ⟨k.toArray⟩, .string ⟨d.toArray⟩, .bool e, .slice Al i cl], rfl, ?_, HO2.out.below.trans hbl⟩
        have hkl2 := HKC.out
        rw [HLT.out] at hkl2
        have hto : ∀ g, (Value.slice Al i cl).ownBlock = some g → wf.heap[g]? = wr.heap[g]? := fun g hg => by
          have := (HOW.out.lt g hg).1
          exact hoth g (by omega) (by omega)
        unfold NodeP
        refine ⟨Al, cl, by rw [HIE.out], ⟨?_, hcb, hkl, hdl⟩, fun hne => ?_⟩
        · rcases HOW.out.2 with ⟨_, h0⟩ | ⟨_, _, _, h1, _, _, h2, _⟩
          · omega
          · injection h1 with _ _ h1
            omega
        · rcases HOW.out.2 with ⟨_, h0⟩ | ⟨g, cap, cur, h1, h2, h3, h4, _⟩
          · exact absurd (List.length_eq_zero_iff.1 (by omega)) hne
          · injection h1 with h1 _ h1'
            subst h1
            have hg := hto g rfl
            refine ⟨g, 0, rfl, ⟨Nat.lt_of_lt_of_le (Array.getElem?_eq_some_iff.1 h3).1 hbl.size, by omega⟩, ?_⟩
            have hkc : KidsCells (fun b => w.heap.size ≤ b) wf ks xs := KidsCells.go hbl.size (fun b hb hq => ⟨hoth b (by have := hq.1; omega) (by have := hq.1; omega), by have := hq.1; omega⟩) _ _ hkl2
            · refine kidsP_of_cells ks xs 0 hkc fun j u hu => ?_
              rw [Nat.zero_add]
              have := World.ownsRow.cells HOW.out (g := g) rfl j u hu
              refine (World.cell?_of_block (w := wr) (a := ⟨g, j, none⟩) hg).trans ?_
              by_cases hj : j = 0
              · subst hj; exact this
              · simpa [Addr.add, hj] using this
      have i1 : (i : Int) < (ks.length : Int) := by omega
      have i2 : (0 : Int) ≤ (i : Int) := by omega
      obtain ⟨b, off, rfl, hbl, ⟨k0, hl⟩, v0, v1, v2, v3, k1, k2, k3, k4, hkid⟩ := HK.out.at hil
      have go : ∀ (o : Nat) (v : Value), w.cell? ⟨b, o, none⟩ = some v → wr.cell? ⟨b, o, none⟩ = some v := fun o v hv => (HO2.out.below.cell (p := ⟨b, o, none⟩) hbl).trans hv
      replace k0 := go _ _ k0
      replace k1 := go _ _ k1
      replace k2 := go _ _ k2
      replace k3 := go _ _ k3
      replace k4 := go _ _ k4
      have HWT := Lib.hid (Nat.le_trans (Stl.wt_mem ks i hil) HMK.out)
      have HT := Lib.hid (show ks.take (i + 1) = ks.take i ++ [ks[i]] from List.take_succ_eq_append_getElem hil)
      generalize ks[i] = kd at HWT HT hkid k0 hl
      obtain ⟨nm, x⟩ := kd
      simp only at hkid k0 hl
      have HKI := Lib.hid (NodeAt.later HO2.out.below _ _ hkid)
      obtain ⟨kx, dx, ex, ksx⟩ := x
      obtain ⟨A', c', e', _, _⟩ := hkid.open
      simp only [List.cons.injEq, and_true] at e'
      obtain ⟨rfl, rfl, rfl, rfl⟩ := e'
      obtain ⟨wo, rfl⟩ : ∃ wo : World, wo = wr := ⟨_, rfl⟩
      have hbw : b < wo.heap.size := Nat.lt_of_lt_of_le hbl HO2.out.below.size
      clear go hkid
      go_wp2_with fail
      refine (IH.out (.mk kx dx ex ksx) _ _ HWT.out HKI.out).mono ?_
      rintro ev w2 ⟨vs', rfl, hnp, hb2⟩
      obtain ⟨A2, c2, rfl⟩ := hnp.open
      have HNP := Lib.hid hnp
      have HB2 := Lib.hid hb2
      have HO3 := Lib.hid (HO2.out.later hb2)
      have t0 := (hb2.cell (p := ⟨b, off + i * 5, none⟩) hbw).trans k0
      have HT0 := Lib.hid t0
      have hT5 := heap_alloc_new w2 (.cells #[.string ⟨kx.toArray⟩, .string ⟨dx.toArray⟩, .bool ex, .slice A2 ksx.length c2] 24)
      have HB3 := Lib.hid ((Below.refl _ w2).alloc (Nat.le_refl _) (.cells #[.string ⟨kx.toArray⟩, .string ⟨dx.toArray⟩, .bool ex, .slice A2 ksx.length c2] 24))
      have HT5 := Lib.hid hT5
      clear hnp hb2 k0 k1 k2 k3 k4 s3 t0 hT5
      go_upto_region 6 with fail
      generalize w2.alloc (.cells #[.string ⟨kx.toArray⟩, .string ⟨dx.toArray⟩, .bool ex, .slice A2 ksx.length c2] 24) = w3 at *
      have HO4 := Lib.hid (HO3.out.later HB3.out)
      have s3 := cell_of_row w3 w.heap.size 3 _ _ _ HO4.out.box
      have k0 := (HB3.out.cell (p := ⟨b, off + i * 5, none⟩) (Nat.lt_of_lt_of_le hbw HB2.out.size)).trans HT0.out
      have q0 := cell_of_row w3 w2.heap.size 0 _ _ _ HT5.out
      have q1 := cell_of_row w3 w2.heap.size 1 _ _ _ HT5.out
      have q2 := cell_of_row w3 w2.heap.size 2 _ _ _ HT5.out
      have q3 := cell_of_row w3 w2.heap.size 3 _ _ _ HT5.out
      obtain ⟨Al, cl, rfl⟩ := Stl.owns_slice _ HOW.out
      have HOW3 := Lib.hid ((HOW.out.kept (Below.toGrown HB2.out none) (by cases Value.ownBlock (Value.slice Al i cl) <;> simp)).kept (Below.toGrown HB3.out none) (by cases Value.ownBlock (Value.slice Al i cl) <;> simp))
      have hT5s : w2.heap.size < w3.heap.size := lt_of_block HT5.out
      have hBs : w.heap.size < w3.heap.size := lt_of_block HO4.out.box
      have hws := HB2.out.size
      have hwo := HO2.out.below.size
      have FX := Lib.hid (show some w.heap.size ≠ (Value.slice Al i cl).ownBlock from fun e => by have := (HOW.out.lt _ e.symm).1; omega)
      have FK := Lib.hid (show some b ≠ (Value.slice Al i cl).ownBlock from fun e => by have := (HOW.out.lt _ e.symm).1; omega)
      have FT := Lib.hid (show some w2.heap.size ≠ (Value.slice Al i cl).ownBlock from fun e => by have := (HOW.out.lt _ e.symm).2; omega)
      have hbw3 : b < w3.heap.size := by omega
      go_region_held3 (fun w' => w'.cell? ⟨w.heap.size, 3, none⟩ = some (.slice (some ⟨b, off, none⟩) ks.length c) ∧ w'.cell? ⟨b, off + i * 5, none⟩ = some (.string ⟨nm.toArray⟩) ∧
          w'.cell? ⟨w2.heap.size, 0, none⟩ = some (.string ⟨kx.toArray⟩) ∧ w'.cell? ⟨w2.heap.size, 1, none⟩ = some (.string ⟨dx.toArray⟩) ∧ w'.cell? ⟨w2.heap.size, 2, none⟩ = some (.bool ex) ∧ w'.cell? ⟨w2.heap.size, 3, none⟩ = some (.slice A2 ksx.length c2))
        (first
          | go_keep
          | (go_split_ands
             refine ⟨?_, ?_, ?_, ?_, ?_, ?_⟩
             all_goals (rw [hgrow.cell_far _ (by simp; omega) (by first | exact FX.out | exact FK.out | exact FT.out)]; assumption)))
        (first
          | (refine Stl.step_app _ (by rfl) _ _ 22 (by rfl) (w.heap.size + 2) 46 i0 zeroKid 5 80 Tryz.underlying22 Hi.out Hz0.out Hz1.out Hz2.out rfl (by decide) (.slice Al i cl) i xs (by rfl) ((HOW3.out.alloc _).drew) (some ⟨w3.heap.size, 0, none⟩) 1 1 [.string ⟨nm.toArray⟩, .string ⟨kx.toArray⟩, .string ⟨dx.toArray⟩, .bool ex, .slice A2 ksx.length c2] (by rfl) (by rfl) (fun h => by cases h) (fun ad had => by cases had; exact World.news_of_block (cs := #[.string ⟨nm.toArray⟩, .string ⟨kx.toArray⟩, .string ⟨dx.toArray⟩, .bool ex, .slice A2 ksx.length c2]) (t := 46) (fr := (0, 0)) (heap_alloc_new w3 _)) (by simp [Value.oneCell']) (by unfold maxLen; omega) (by omega) (by simp; omega) ?_; intro A4 c4' w4 hown4 hgrow hat4))
      have HO5 := Lib.hid hown4
      have HG5 := Lib.hid hgrow
      have HAT := Lib.hid hat4
      clear hown4 hgrow hat4 q0 q1 q2 q3 k0 s3
      go_wp2
      go_roundw
      case rel =>
        have hsz : w3.heap.size ≤ w4.heap.size := by have := HG5.out.size; simp at this; omega
        have hblk : ∀ k, k < w3.heap.size → some k ≠ (Value.slice Al i cl).ownBlock → w4.heap[k]? = w3.heap[k]? := fun k hk hne => by
          rw [HG5.out.block k (by simp; omega) hne]
          show ((w3.alloc _).drew).heap[k]? = _
          exact Below.heap_alloc w3 _ k hk
        have hown : ∀ k, k < w3.heap.size → some k ≠ (Value.slice Al i cl).ownBlock → some k ≠ (Value.slice A4 (i + 1) c4').ownBlock := fun k hk hne e => by
          rcases HAT.out with h | h
          · rw [h] at e; exact hne e
          · rw [h] at e
            simp at e
            omega
        refine ⟨i + 1, _, hil, by go_num, Lib.hid HO5.out, Lib.hid ?_, Lib.hid ?_⟩
        · rw [HT.out]
          refine KidsCells.append _ _ _ _ (KidsCells.go (by omega) ?_ _ _ HKC.out) ⟨_, _, _, _, [], by simp, hl, NodeP.go (by omega) ?_ _ _ HNP.out, rfl⟩
          · intro k hk ⟨h1, h2⟩
            have e2 := HB2.out.block k hk
            have e3 := HB3.out.block k (by omega)
            exact ⟨(hblk k (by omega) h2).trans (e3.trans e2), h1, hown k (by omega) h2⟩
          · intro k hk h1
            have e3 := HB3.out.block k hk
            have h2 : some k ≠ (Value.slice Al i cl).ownBlock := fun e => by have := (HOW.out.lt _ e.symm).2; omega
            have h3 := lt_of_block HO2.out.res
            exact ⟨(hblk k (by omega) h2).trans e3, by omega, hown k (by omega) h2⟩
        · exact (HO4.out.later (((Below.refl _ w3).alloc (Nat.le_refl _) _).drew)).grown HG5.out (fun b hb => (HOW.out.lt b hb).1)
      case measure => simp [intOf]; omega
#print axioms OwnNode_any
end Go.Proofs.YtgmdifmokcnbpaaGreatDoor
