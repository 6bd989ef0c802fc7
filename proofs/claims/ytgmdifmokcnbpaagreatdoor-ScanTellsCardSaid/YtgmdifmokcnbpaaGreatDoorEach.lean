/- The walks of tree.each and tree.Each: what is done at each node is done in order, whatever it is. -/
import Derived.Test.YtgmdifmokcnbpaaGreatDoorCheck
import Derived.Test.YtgmdifmokcnbpaaGreatDoorEachPure
import Derived.WalkLawsBesides
namespace Go.Proofs.YtgmdifmokcnbpaaGreatDoor
open Go.RowKit

/-- Blocks of cells that are no texts, nor hold a slice of texts, are as they were. -/
def NKeep (W W' : World) : Prop := ∀ (k : Nat) (cs : Array Value) (T : TypeId) (fr : Nat × Nat), W.heap[k]? = some (Obj.cells cs T fr) → T ≠ 9 → T ≠ 25 → W'.heap[k]? = some (Obj.cells cs T fr)

theorem NKeep.trans {a b c : World} (h : NKeep a b) (k : NKeep b c) : NKeep a c := fun i cs T fr hi h1 h2 => k i cs T fr (h i cs T fr hi h1 h2) h1 h2
theorem NKeep.of_below {w w' : World} (h : Below w.heap.size w w') : NKeep w w' := fun i cs T fr hi _ _ => (h.block i (lt_of_block hi)).trans hi

/-- Each step's end. -/
def DoEnd (I : List Stl.It → World → Prop) (l : List Stl.It) (W : World) (e : Ending) (W' : World) : Prop := e = .returned (.tuple #[]) ∧ I l W' ∧ NKeep W W'

set_option maxHeartbeats 4000000 in
set_option maxRecDepth 100000 in
theorem each_any (W0 : World) (all : List Stl.It) (hall : ∀ x ∈ all, x.path.length ≤ 1000000) (g : Nat) (caps : Array Value) (hg : ∀ args w, (callFunc g args).run Tryz.prog w = .ok (.enter g args) w)
    (I : List Stl.It → World → Prop) (hst : ∀ pre W W', I pre W → Below W.heap.size W W' → I pre W') (hbel : ∀ pre W, I pre W → Below W0.heap.size W0 W)
    (hdo : ∀ (pre : List Stl.It) (x : Stl.It) (W : World) (vs : List Value), I pre W → NodeAt W0 x.n vs → (∃ rest, pre ++ x :: rest = all) →
      Calls Tryz.prog g (#[.agg vs.toArray, .string ⟨x.path.toArray⟩] ++ caps) W (DoEnd I (pre ++ [x]) W)) :
    ∀ (m : Nat) (n : Stl.Nd) (vs : List Value) (path : List UInt8) (deep : Nat) (pre : List Stl.It) (w : World), Stl.wt n ≤ m → NodeAt W0 n vs → (∃ rest, pre ++ (Stl.flat n path deep ++ rest) = all) → I pre w →
      Calls Tryz.prog 46 #[.agg vs.toArray, .string ⟨path.toArray⟩, .func (.func g) #[] caps] w (DoEnd I (pre ++ Stl.flat n path deep) w) := by
  intro m
  induction m with
  | zero =>
    intro n vs path deep pre w hm
    cases n
    simp [Stl.wt] at hm
  | succ m ih =>
    intro n vs path deep pre w hm hn hpre hI
    have HST := Lib.hid hst
    have HBEL := Lib.hid hbel
    have HDO := Lib.hid hdo
    have IH := Lib.hid ih
    have HI := Lib.hid hI
    have HPR := Lib.hid hpre
    have hpl : path.length ≤ 1000000 := by
      obtain ⟨rest, hr⟩ := hpre
      exact hall ⟨path, deep, n⟩ (by rw [← hr]; simp [Stl.flat_head])
    have HALL := Lib.hid hall
    obtain ⟨k, d, e, ks⟩ := n
    obtain ⟨A, c, rfl, ⟨hc, hc2, hkl, hdl⟩, hk⟩ := hn.open
    have HK := Lib.hid hk
    have HN := Lib.hid hn
    have HM := Lib.hid (show Stl.wtL ks ≤ m by simp only [Stl.wt] at hm; omega)
    have HF := Lib.hid (show Stl.flat (.mk k d e ks) path deep = ⟨path, deep, .mk k d e ks⟩ :: Stl.flatL ks path (deep + 1) by rw [Stl.flat])
    generalize Stl.flat (.mk k d e ks) path deep = fl at HF HPR
    clear hst hbel hdo ih hI hpre hall hn hk hm
    go_enter Tryz.func46, Tryz.ntmps46
    go_wp2_with fail
    have hb1 : Below w.heap.size w (w.alloc (.cells #[.string ⟨k.toArray⟩, .string ⟨d.toArray⟩, .bool e, .slice A ks.length c] 24)) := (Below.refl _ w).alloc (Nat.le_refl _) _
    refine (HDO.out pre ⟨path, deep, .mk k d e ks⟩ _ _ (HST.out _ _ _ HI.out hb1) HN.out (by
      obtain ⟨rest, hr⟩ := HPR.out
      exact ⟨Stl.flatL ks path (deep + 1) ++ rest, by rw [← hr, HF.out]; simp⟩)).mono ?_
    rintro ev w1 ⟨rfl, hI1, hk1⟩
    have HI1 := Lib.hid hI1
    have HX1 := Lib.hid (hk1 _ _ _ _ (heap_alloc_new w (.cells #[.string ⟨k.toArray⟩, .string ⟨d.toArray⟩, .bool e, .slice A ks.length c] 24)) (by decide) (by decide))
    have HNK1 := Lib.hid ((NKeep.of_below hb1).trans hk1)
    clear hI1 hk1 hb1
    have d3 := cell_of_row w1 w.heap.size 3 _ _ _ HX1.out
    go_wp2_with fail
    go_loopw [15] (fun a wr => ∃ (j : Nat), j ≤ ks.length ∧ a = .int .i64 j ∧ Hid (I (pre ++ ⟨path, deep, .mk k d e ks⟩ :: Stl.flatL (ks.take j) path (deep + 1)) wr) ∧ Hid (NKeep w wr)) (fun a _ => ks.length - (intOf a).toNat)
    case atStart => exact ⟨0, Nat.zero_le _, rfl, Lib.hid (by simpa [Stl.flatL] using HI1.out), HNK1⟩
    case round =>
      obtain ⟨j, hj, rfl, HI2, HNK2⟩ := hrel
      clear d3
      by_cases hjl : j < ks.length
      · have i4 : (j : Int) < (ks.length : Int) := by omega
        have i5 : (0 : Int) ≤ (j : Int) := by omega
        obtain ⟨b, off, rfl, hbl, ⟨k0, hl⟩, v0, v1, v2, v3, k1, k2, k3, k4, hkid⟩ := HK.out.at hjl
        have HB3 := Lib.hid (HBEL.out _ _ HI2.out)
        have go : ∀ (o : Nat) (v : Value), W0.cell? ⟨b, o, none⟩ = some v → wr.cell? ⟨b, o, none⟩ = some v := fun o v hv => (HB3.out.cell (p := ⟨b, o, none⟩) hbl).trans hv
        replace k0 := go _ _ k0
        replace k1 := go _ _ k1
        replace k2 := go _ _ k2
        replace k3 := go _ _ k3
        replace k4 := go _ _ k4
        have HW := Lib.hid (Nat.le_trans (Stl.wt_mem ks j hjl) HM.out)
        have HT := Lib.hid (show ks.take (j + 1) = ks.take j ++ [ks[j]] from List.take_succ_eq_append_getElem hjl)
        have HD := Lib.hid (show ks = ks.take j ++ ks[j] :: ks.drop (j + 1) from by
          rw [← List.drop_eq_getElem_cons hjl, List.take_append_drop])
        generalize ks[j] = kd at HW HT HD hkid k0 hl
        obtain ⟨nm, x⟩ := kd
        simp only at hkid k0 hl
        obtain ⟨kx, dx, ex, ksx⟩ := x
        obtain ⟨A', c', e', _, _⟩ := hkid.open
        simp only [List.cons.injEq, and_true] at e'
        obtain ⟨rfl, rfl, rfl, rfl⟩ := e'
        have HKI := Lib.hid hkid
        have s1 : ¬ 9223372036854775807 < path.length + 1 := by omega
        have s2 : ¬ 9223372036854775807 < path.length + 1 + nm.length := by omega
        have s3 : ByteArray.mk path.toArray ++ ByteArray.mk #[47] = ByteArray.mk (path ++ [47]).toArray := ByteArray.mk_append_mk path [47]
        have s4 : ByteArray.mk (path ++ [47]).toArray ++ ByteArray.mk nm.toArray = ByteArray.mk (path ++ [47] ++ nm).toArray := ByteArray.mk_append_mk (path ++ [47]) nm
        clear go hkid hl
        go_wp2_with fail
        have hb4 := (Below.refl _ wr).alloc (Nat.le_refl _) (.cells #[.string ⟨nm.toArray⟩, .string ⟨kx.toArray⟩, .string ⟨dx.toArray⟩, .bool ex, .slice A' ksx.length c'] 46)
        have hf : Stl.flatL (ks.take (j + 1)) path (deep + 1) = Stl.flatL (ks.take j) path (deep + 1) ++ Stl.flat (.mk kx dx ex ksx) (path ++ 47 :: nm) (deep + 1) := by
          rw [HT.out, Stl.flatL_append, Stl.flatL, Stl.flatL, List.append_nil]
        have hih := IH.out (.mk kx dx ex ksx) _ (path ++ 47 :: nm) (deep + 1) _ _ HW.out HKI.out (by
          obtain ⟨rest, hr⟩ := HPR.out
          refine ⟨Stl.flatL (ks.drop (j + 1)) path (deep + 1) ++ rest, ?_⟩
          rw [← hr, HF.out]
          have h5 := congrArg (fun l => Stl.flatL l path (deep + 1)) HD.out
          simp only [Stl.flatL_append, Stl.flatL] at h5
          rw [h5]
          simp) (HST.out _ _ _ HI2.out hb4)
        refine hih.mono ?_
        rintro ev w5 ⟨rfl, hI5, hk5⟩
        have HI5 := Lib.hid (show I (pre ++ ⟨path, deep, .mk k d e ks⟩ :: Stl.flatL (ks.take (j + 1)) path (deep + 1)) w5 by
          rw [hf]
          simpa using hI5)
        have HNK5 := Lib.hid ((HNK2.out.trans (NKeep.of_below hb4)).trans hk5)
        clear hI5 hk5 hih hf hb4 k0 k1 k2 k3 k4 s1 s2 s3 s4
        go_wp2
        go_roundw
        case rel => exact ⟨j + 1, hjl, by go_num, HI5, HNK5⟩
        case measure => simp [intOf]; omega
      · have i4 : ¬ (j : Int) < (ks.length : Int) := by omega
        have HE := Lib.hid (show ks.take j = ks from List.take_of_length_le (by omega))
        go_wp2
        go_end0
        refine ⟨rfl, ?_, HNK2.out⟩
        have := HI2.out
        rw [HE.out] at this
        rw [HF.out]
        exact this
#print axioms each_any

theorem run_geq_lists {P : Program} (x y : List UInt8) (w : World) : (Op.stringOp .geq ⟨x.toArray⟩ ⟨y.toArray⟩).run P w = .ok (.bool (!Op.bytesLess x y)) w := by
  simp [Op.stringOp]
theorem run_max_lists {P : Program} (ts : Array TypeId) (T : TypeId) (x y : List UInt8) (w : World) : (Builtin.max_ ts T #[.string ⟨x.toArray⟩, .string ⟨y.toArray⟩]).run P w = .ok (if Op.bytesLess x y then .string ⟨y.toArray⟩ else .string ⟨x.toArray⟩) w := by
  simp only [Builtin.max_, List.foldlM, Builtin.max2, Sem.run_bind, run_geq_lists]
  cases Op.bytesLess x y <;> simp [Result.andThen, asBool]

/-- A path is empty, or begins with a slash. -/
def Slashed (p : List UInt8) : Prop := p = [] ∨ ∃ r, p = 47 :: r

theorem run_max_told {P : Program} (ts : Array TypeId) (T : TypeId) (p : List UInt8) (hp : Slashed p) (w : World) : (Builtin.max_ ts T #[.string ⟨p.toArray⟩, .string ⟨#[47]⟩]).run P w = .ok (.string ⟨(Stl.told p).toArray⟩) w := by
  have h := run_max_lists (P := P) ts T p [47] w
  rw [show (ByteArray.mk [47].toArray) = ⟨#[47]⟩ from rfl] at h
  rw [h]
  rcases hp with rfl | ⟨r, rfl⟩
  · rfl
  · have : Op.bytesLess (47 :: r) [47] = false := by simp [Op.bytesLess]
    rw [this]
    simp [Stl.told]

mutual
theorem flat_slashed : ∀ (n : Stl.Nd) (path : List UInt8) (deep : Nat), Slashed path → ∀ x ∈ Stl.flat n path deep, Slashed x.path
  | .mk k d e ks, path, deep, h, x, hx => by
    rw [Stl.flat] at hx
    rcases List.mem_cons.1 hx with rfl | hx
    · exact h
    · exact flatL_slashed ks path (deep + 1) h x hx
theorem flatL_slashed : ∀ (l : List (List UInt8 × Stl.Nd)) (path : List UInt8) (deep : Nat), Slashed path → ∀ x ∈ Stl.flatL l path deep, Slashed x.path
  | [], path, deep, h, x, hx => by simp [Stl.flatL] at hx
  | (nm, n) :: r, path, deep, h, x, hx => by
    rw [Stl.flatL] at hx
    rcases List.mem_append.1 hx with hx | hx
    · refine flat_slashed n (path ++ 47 :: nm) deep (.inr ?_) x hx
      rcases h with rfl | ⟨t, rfl⟩
      · exact ⟨nm, rfl⟩
      · exact ⟨t ++ 47 :: nm, rfl⟩
    · exact flatL_slashed r path deep h x hx
end

set_option maxHeartbeats 1000000 in
/-- What Each hands to each: the path as it is told. -/
theorem each1_any (W0 : World) (g : Nat) (caps : Array Value) (I : List Stl.It → World → Prop) (hst : ∀ pre W W', I pre W → Below W.heap.size W W' → I pre W')
    (pre : List Stl.It) (x : Stl.It) (W : World) (vs : List Value) (B : Nat) (hB : W.heap[B]? = some (.cells #[.func (.func g) #[] caps] 60 (0, 0))) (hI : I pre W) (hn : NodeAt W0 x.n vs) (hs : Slashed x.path)
    (hg : ∀ args w, (callFunc g args).run Tryz.prog w = .ok (.enter g args) w)
    (hdo : ∀ W', I pre W' → Calls Tryz.prog g (#[.agg vs.toArray, .string ⟨(Stl.told x.path).toArray⟩] ++ caps) W' (DoEnd I (pre ++ [x]) W')) :
    Calls Tryz.prog 47 (#[.agg vs.toArray, .string ⟨x.path.toArray⟩] ++ #[.pointer (some ⟨B, 0, none⟩)]) W (DoEnd I (pre ++ [x]) W) := by
  obtain ⟨path, deep, n⟩ := x
  obtain ⟨k, d, e, ks⟩ := n
  obtain ⟨A, c, rfl, _, _⟩ := hn.open
  have hmx := fun ts T w => run_max_told (P := Tryz.prog) ts T path hs w
  have hbox : (W.alloc (.cells #[.string ⟨k.toArray⟩, .string ⟨d.toArray⟩, .bool e, .slice A ks.length c] 24)).heap[B]? = some (.cells #[.func (.func g) #[] caps] 60 (0, 0)) := heap_past _ _ hB
  have cB := cell_of_one hbox
  have HST := Lib.hid hst
  have HDO := Lib.hid hdo
  have HI := Lib.hid hI
  have HB := Lib.hid hB
  clear hst hdo hI hB hn hs hbox
  simp only at hmx ⊢
  go_enter Tryz.func47, Tryz.ntmps47
  go_wp2_with fail
  have hb1 : Below W.heap.size W (W.alloc (.cells #[.string ⟨k.toArray⟩, .string ⟨d.toArray⟩, .bool e, .slice A ks.length c] 24)) := (Below.refl _ W).alloc (Nat.le_refl _) _
  refine (HDO.out _ (HST.out _ _ _ HI.out hb1)).mono ?_
  rintro ev w1 ⟨rfl, hI1, hk1⟩
  have HI1 := Lib.hid hI1
  have HK1 := Lib.hid ((NKeep.of_below hb1).trans hk1)
  clear hI1 hk1 hb1 hmx cB
  go_wp2
  go_end0
  exact ⟨rfl, HI1.out, HK1.out⟩

theorem each1_enters : ∀ args w, (callFunc 47 args).run Tryz.prog w = .ok (.enter 47 args) w := enters_of Tryz.func47 (by kernel_rfl) rfl

set_option maxHeartbeats 2000000 in
theorem Each_any (p : Nat → Addr) (W0 : World) (hE : Errs W0 p) (n : Stl.Nd) (vs : List Value) (hn : NodeAt W0 n vs) (g : Nat) (caps : Array Value) (hg : ∀ args w, (callFunc g args).run Tryz.prog w = .ok (.enter g args) w)
    (I : List Stl.It → World → Prop) (hst : ∀ pre W W', I pre W → Below W.heap.size W W' → I pre W') (hbel : ∀ pre W, I pre W → Below W0.heap.size W0 W)
    (hdo : Stl.treeErr n = 0 → ∀ (pre : List Stl.It) (x : Stl.It) (W : World) (vs : List Value), I pre W → NodeAt W0 x.n vs → (∃ rest, pre ++ x :: rest = Stl.flat n [] 0) →
      Calls Tryz.prog g (#[.agg vs.toArray, .string ⟨(Stl.told x.path).toArray⟩] ++ caps) W (DoEnd I (pre ++ [x]) W)) (w : World) (hI : I [] w) :
    Calls Tryz.prog 27 #[.agg vs.toArray, .func (.func g) #[] caps] w (DoEnd I (Stl.items n) w) := by
  obtain ⟨k, d, e, ks⟩ := n
  obtain ⟨A, c, rfl, _, _⟩ := hn.open
  have HIT : Hid (Stl.items (.mk k d e ks) = if Stl.treeErr (.mk k d e ks) = 0 then Stl.flat (.mk k d e ks) [] 0 else []) := Lib.hid rfl
  generalize Stl.items (.mk k d e ks) = its at HIT
  have HE := Lib.hid hE
  have HN := Lib.hid hn
  have HST := Lib.hid hst
  have HBEL := Lib.hid hbel
  have HDO := Lib.hid hdo
  have HI := Lib.hid hI
  clear hE hn hst hbel hdo hI
  go_enter Tryz.func27, Tryz.ntmps27
  go_wp2_with fail
  have hb1 := ((Below.refl _ w).alloc (Nat.le_refl _) (.cells #[.string ⟨k.toArray⟩, .string ⟨d.toArray⟩, .bool e, .slice A ks.length c] 24)).alloc (by simp) (.cells #[.func (.func g) #[] caps] 60)
  have hI1 := HST.out _ _ _ HI.out hb1
  have hb0 := HBEL.out _ _ hI1
  refine (Check_any p (.mk k d e ks) _ _ (HE.out.later hb0) (NodeAt.later hb0 _ _ HN.out)).mono ?_
  rintro ev w1 ⟨rfl, hb⟩
  have e1 : ((w.alloc (.cells #[.string ⟨k.toArray⟩, .string ⟨d.toArray⟩, .bool e, .slice A ks.length c] 24)).alloc (.cells #[.func (.func g) #[] caps] 60)).heap[w.heap.size]? = some (.cells #[.string ⟨k.toArray⟩, .string ⟨d.toArray⟩, .bool e, .slice A ks.length c] 24 (0, 0)) := heap_past _ _ (heap_alloc_new _ _)
  have e2 : ((w.alloc (.cells #[.string ⟨k.toArray⟩, .string ⟨d.toArray⟩, .bool e, .slice A ks.length c] 24)).alloc (.cells #[.func (.func g) #[] caps] 60)).heap[w.heap.size + 1]? = some (.cells #[.func (.func g) #[] caps] 60 (0, 0)) := by
    have := heap_alloc_new (w.alloc (.cells #[.string ⟨k.toArray⟩, .string ⟨d.toArray⟩, .bool e, .slice A ks.length c] 24)) (.cells #[.func (.func g) #[] caps] 60)
    simpa using this
  have HX := Lib.hid ((hb.block _ (lt_of_block e1)).trans e1)
  have HY := Lib.hid ((hb.block _ (lt_of_block e2)).trans e2)
  have HI2 := Lib.hid (HST.out _ _ _ hI1 hb)
  have HB := Lib.hid (hb1.trans (hb.mono hb1.size))
  clear e1 e2 hb hb1 hI1 hb0
  by_cases ht : Stl.treeErr (.mk k d e ks) = 0
  · have HF := Lib.hid (show its = Stl.flat (.mk k d e ks) [] 0 by rw [HIT.out, if_pos ht])
    have hw := Stl.items_well ht
    have HW := Lib.hid hw.2
    have HD := Lib.hid (HDO.out ht)
    rw [ht, errOf_nil]
    have d0 := cell_of_row w1 w.heap.size 0 _ _ _ HX.out
    have d1 := cell_of_row w1 w.heap.size 1 _ _ _ HX.out
    have d2 := cell_of_row w1 w.heap.size 2 _ _ _ HX.out
    have d3 := cell_of_row w1 w.heap.size 3 _ _ _ HX.out
    clear hw ht
    go_wp2_with fail
    have h := each_any W0 (Stl.flat (.mk k d e ks) [] 0) (fun x hx => by have := (HW.out x hx).2; omega) 47 #[.pointer (some ⟨w.heap.size + 1, 0, none⟩)] each1_enters
      (fun l W => I l W ∧ W.heap[w.heap.size + 1]? = some (.cells #[.func (.func g) #[] caps] 60 (0, 0)))
      (fun pre W W' h hb => ⟨HST.out _ _ _ h.1 hb, (hb.block _ (lt_of_block h.2)).trans h.2⟩) (fun pre W h => HBEL.out _ _ h.1)
      (fun pre x W vs h hnx hr => by
        have hs : Slashed x.path := flat_slashed _ _ _ (.inl rfl) x (by obtain ⟨rest, hr⟩ := hr; rw [← hr]; simp)
        refine (each1_any W0 g caps I HST.out pre x W vs (w.heap.size + 1) h.2 h.1 hnx hs hg (fun W' hI' => HD.out pre x W' vs hI' hnx hr)).mono ?_
        rintro ev W' ⟨rfl, h1, h2⟩
        exact ⟨rfl, ⟨h1, h2 _ _ _ _ h.2 (by decide) (by decide)⟩, h2⟩)
      (Stl.wt (.mk k d e ks)) (.mk k d e ks) _ [] 0 [] w1 (Nat.le_refl _) HN.out ⟨[], by simp⟩ ⟨HI2.out, HY.out⟩
    refine h.mono ?_
    rintro ev w2 ⟨rfl, ⟨h1, _⟩, h3⟩
    have H1 := Lib.hid h1
    have H3 := Lib.hid ((NKeep.of_below HB.out).trans h3)
    clear h h1 h3 d0 d1 d2 d3
    go_wp2
    go_end0
    exact ⟨rfl, by rw [HF.out]; exact H1.out, H3.out⟩
  · have HF := Lib.hid (show its = [] by rw [HIT.out, if_neg ht])
    have HO := Lib.hid (errOf_ne p _ ht)
    rw [HO.out]
    clear ht
    go_wp2
    go_end0
    exact ⟨rfl, by rw [HF.out]; exact HI2.out, NKeep.of_below HB.out⟩
#print axioms Each_any
end Go.Proofs.YtgmdifmokcnbpaaGreatDoor
