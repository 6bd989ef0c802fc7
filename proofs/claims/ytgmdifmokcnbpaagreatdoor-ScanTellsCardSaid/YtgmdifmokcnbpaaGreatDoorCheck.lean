/- The walks of (*checker).check and tree.Check. -/
import Derived.Test.YtgmdifmokcnbpaaGreatDoorOwn
import Derived.Deep.DeepCutAuto
import Derived.Deep.CutRange
import Derived.Deep.CutBlock
namespace Stl
mutual
/-- How many nodes. -/
def wt : Nd → Nat
  | .mk _ _ _ ks => wtL ks + 1
def wtL : List (List UInt8 × Nd) → Nat
  | [] => 0
  | (_, x) :: r => wt x + wtL r
end
theorem wt_mem : ∀ (ks : List (List UInt8 × Nd)) (j : Nat) (h : j < ks.length), wt ks[j].2 ≤ wtL ks
  | [], _, h => by simp at h
  | (_, x) :: r, 0, _ => by simp [wtL]
  | (_, x) :: r, j + 1, h => by
    have := wt_mem r j (by simpa using h)
    simp only [List.getElem_cons_succ, wtL]
    omega
end Stl
namespace Go.Proofs.YtgmdifmokcnbpaaGreatDoor
open Go.RowKit

theorem NodeAt.open {w : World} {k d : List UInt8} {e : Bool} {ks : List (List UInt8 × Stl.Nd)} {vs : List Value} (h : NodeAt w (.mk k d e ks) vs) :
    ∃ A c, vs = [.string ⟨k.toArray⟩, .string ⟨d.toArray⟩, .bool e, .slice A ks.length c] ∧ (ks.length ≤ c ∧ ks.length ≤ 140737488355328 ∧ k.length ≤ 140737488355328 ∧ d.length ≤ 140737488355328) ∧ KidsOf w A ks := by
  unfold NodeAt at h
  obtain ⟨A, c, h1, ⟨h2, h3, h4, h5⟩, h6⟩ := h
  exact ⟨A, c, h1, ⟨h2, by omega, h4, h5⟩, h6⟩

theorem NodeAt.open2 {w : World} {k d : List UInt8} {e : Bool} {ks : List (List UInt8 × Stl.Nd)} {vs : List Value} (h : NodeAt w (.mk k d e ks) vs) :
    ∃ A c, vs = [.string ⟨k.toArray⟩, .string ⟨d.toArray⟩, .bool e, .slice A ks.length c] ∧ (ks.length ≤ c ∧ ks.length ≤ 1759218604441 ∧ k.length ≤ 140737488355328 ∧ d.length ≤ 140737488355328) ∧ KidsOf w A ks := by
  unfold NodeAt at h
  exact h

/-- While a tree is checked: the count's block, the node's box; nothing else has turned. -/
structure ChkW (w wx : World) (cb cnt : Nat) (v0 v1 v2 v3 : Value) : Prop where
  cnt : wx.heap[cb]? = some (.cells #[.int .i64 cnt] 103 (0, 0))
  box : wx.heap[w.heap.size]? = some (.cells #[v0, v1, v2, v3] 24 (0, 0))
  grown : w.grownBy wx (some cb)
  lt : cb < w.heap.size

theorem grownBy_trans {a b c : World} {r : Option Nat} (h : a.grownBy b r) (k : b.grownBy c r) : a.grownBy c r :=
  ⟨k.os.trans h.os, k.tape.trans h.tape, k.output.trans h.output, Nat.le_trans h.size k.size, fun i hi hne => (k.block i (Nat.lt_of_lt_of_le hi h.size) hne).trans (h.block i hi hne)⟩

theorem grownBy_below {a b : World} {cb : Nat} (h : a.grownBy b (some cb)) {B : Nat} (h1 : B ≤ cb) (h2 : B ≤ a.heap.size) : Below B a b :=
  ⟨h.os, h.tape, h.output, h.size, fun k hk => h.block k (by omega) (fun e => by injection e with e; omega)⟩

theorem ChkW.later {w wx wy : World} {cb cnt : Nat} {v0 v1 v2 v3 : Value} (h : ChkW w wx cb cnt v0 v1 v2 v3) (hb : Below wx.heap.size wx wy) : ChkW w wy cb cnt v0 v1 v2 v3 :=
  ⟨(hb.block _ (lt_of_block h.cnt)).trans h.cnt, (hb.block _ (lt_of_block h.box)).trans h.box, grownBy_trans h.grown (Below.toGrown hb _), h.lt⟩

theorem ChkW.step {w wx wy : World} {cb cnt cnt' : Nat} {v0 v1 v2 v3 : Value} (h : ChkW w wx cb cnt v0 v1 v2 v3) (hc : wy.heap[cb]? = some (.cells #[.int .i64 cnt'] 103 (0, 0))) (hg : wx.grownBy wy (some cb)) : ChkW w wy cb cnt' v0 v1 v2 v3 :=
  ⟨hc, (hg.block _ (lt_of_block h.box) (fun e => by injection e with e; have := h.lt; omega)).trans h.box, grownBy_trans h.grown hg, h.lt⟩

/-- What check comes to. -/
def ChkEnd (p : Nat → Addr) (w : World) (cb : Nat) (r : Nat × Nat) (e : Ending) (w' : World) : Prop :=
  e = .returned (errOf p r.1) ∧ w'.heap[cb]? = some (.cells #[.int .i64 r.2] 103 (0, 0)) ∧ w.grownBy w' (some cb)

theorem errOf_nil (p : Nat → Addr) : errOf p 0 = .nilIface := rfl

theorem chk_open (k d : List UInt8) (e : Bool) (ks : List (List UInt8 × Stl.Nd)) (deep c : Nat) : Stl.chk Stl.ownErr (.mk k d e ks) deep c = if 8 < deep then (9, c + 1) else if 200 < c + 1 then (8, c + 1) else if Stl.ownErrP k d e (ks.map (·.1)) = 0 then Stl.chkL Stl.ownErr ks (deep + 1) (c + 1) else (Stl.ownErrP k d e (ks.map (·.1)), c + 1) := by
  rw [Stl.chk]
  rfl

set_option maxHeartbeats 4000000 in
set_option maxRecDepth 100000 in
theorem check_any (p : Nat → Addr) (W0 : World) (hE : Errs W0 p) (cb : Nat) (hcb : W0.heap.size ≤ cb) : ∀ (m : Nat) (n : Stl.Nd) (vs : List Value) (deep cnt : Nat) (w : World), Stl.wt n ≤ m → NodeAt W0 n vs → deep ≤ 9 → cnt ≤ 200 →
    Below W0.heap.size W0 w → w.heap[cb]? = some (.cells #[.int .i64 cnt] 103 (0, 0)) →
    Calls Tryz.prog 64 #[.pointer (some ⟨cb, 0, none⟩), .agg vs.toArray, .int .i64 deep] w (ChkEnd p w cb (Stl.chk Stl.ownErr n deep cnt)) := by
  intro m
  induction m with
  | zero =>
    intro n vs deep cnt w hm
    cases n
    simp [Stl.wt] at hm
  | succ m ih =>
    intro n vs deep cnt w hm hn hdeep hcnt hbw hcell
    obtain ⟨k, d, e, ks⟩ := n
    obtain ⟨A, c, rfl, ⟨hc, hc2, hkl, hdl⟩, hk⟩ := hn.open
    have HE := Lib.hid hE
    have HK := Lib.hid hk
    have HBW := Lib.hid hbw
    have IH := Lib.hid ih
    have HM := Lib.hid (show Stl.wtL ks ≤ m by simp only [Stl.wt] at hm; omega)
    have HR := Lib.hid (chk_open k d e ks deep cnt)
    have HC := Lib.hid hcell
    generalize Stl.chk Stl.ownErr (.mk k d e ks) deep cnt = r at HR
    have hlt : cb < w.heap.size := lt_of_block hcell
    clear hE hk hbw ih hm hn hcell
    have b1 : (w.alloc (.cells #[.string ⟨k.toArray⟩, .string ⟨d.toArray⟩, .bool e, .slice A ks.length c] 24)).heap[cb]? = some (.cells #[.int .i64 cnt] 103 (0, 0)) := heap_past _ _ HC.out
    have c1 := cell_of_one b1
    have f1 := free_of_one b1
    have B1 := Lib.hid b1
    clear b1
    go_enter Tryz.func64, Tryz.ntmps64
    go_upto_region 1 with fail
    go_cut [] (fun wx => ChkW w wx cb (cnt + 1) (.string ⟨k.toArray⟩) (.string ⟨d.toArray⟩) (.bool e) (.slice A ks.length c))
    case first =>
      go_wp2
      go_meet
      case rel =>
        refine ⟨?_, ?_, ?_, hlt⟩
        · refine heap_past _ _ ?_
          rw [one_setCell HC.out]
          simp
        · have := heap_alloc_new (w.setCell ⟨cb, 0, none⟩ (.int .i64 ((cnt : Int) + 1))) (.cells #[.string ⟨k.toArray⟩, .string ⟨d.toArray⟩, .bool e, .slice A ks.length c] 24)
          simpa [World.setCell] using this
        · exact grownBy_trans (b := w.setCell ⟨cb, 0, none⟩ (.int .i64 ((cnt : Int) + 1))) ⟨rfl, rfl, rfl, by simp [World.setCell], fun i hi hne => Below.heap_setCell _ _ _ _ (fun e => hne (by rw [e]))⟩ (World.grownBy_alloc _ _ _)
    case rest =>
      have HX := Lib.hid hcut
      have hb1 := Lib.hid (HBW.out.trans (grownBy_below hcut.grown hcb HBW.out.size))
      have c0 := cell_of_one hcut.cnt
      clear hcut c1 f1 hlt
      by_cases hd8 : 8 < deep
      · have HF := Lib.hid (show r = (9, cnt + 1) by rw [HR.out, if_pos hd8])
        have i1 : (8 : Int) < (deep : Int) := by omega
        have g9 := ((HE.out.later hb1.out).at_ 9 (by omega) (by omega)).1
        unfold errG at g9
        clear hd8
        go_wp2
        go_ret
        rw [HF.out]
        exact ⟨rfl, HX.out.cnt, HX.out.grown⟩
      have hr := HR.out
      rw [if_neg hd8] at hr
      have i1 : (deep : Int) ≤ 8 := by omega
      clear HR
      by_cases hc8 : 200 < cnt + 1
      · have HF := Lib.hid (show r = (8, cnt + 1) by rw [hr, if_pos hc8])
        have i2 : (200 : Int) < (cnt : Int) + 1 := by omega
        have i3 : (200 : Int) < ((cnt + 1 : Nat) : Int) := by omega
        have g8 := ((HE.out.later hb1.out).at_ 8 (by omega) (by omega)).1
        unfold errG at g8
        clear hc8 hr
        go_wp2
        go_ret
        rw [HF.out]
        exact ⟨rfl, HX.out.cnt, HX.out.grown⟩
      rw [if_neg hc8] at hr
      have i2 : ¬ (200 : Int) < ((cnt + 1 : Nat) : Int) := by omega
      have i3 : (cnt : Int) + 1 ≤ 200 := by omega
      have HR := Lib.hid hr
      have HC8 : cnt + 1 ≤ 200 := by omega
      have d0 := cell_of_row wc w.heap.size 0 _ _ _ HX.out.box
      have d1 := cell_of_row wc w.heap.size 1 _ _ _ HX.out.box
      have d2 := cell_of_row wc w.heap.size 2 _ _ _ HX.out.box
      have d3 := cell_of_row wc w.heap.size 3 _ _ _ HX.out.box
      clear hr hd8 hc8
      go_wp2_with fail
      refine (own_any k d e A c ks hc hc2 hdl _ p (HE.out.later hb1.out) (HK.out.later hb1.out)).mono ?_
      rintro ev w2 ⟨rfl, hb⟩
      have HX2 := Lib.hid (HX.out.later hb)
      have hb2 := Lib.hid (hb1.out.trans (hb.mono hb1.out.size))
      clear hb c0 d0 d1 d2 d3 HX
      by_cases ho : Stl.ownErrP k d e (ks.map (·.1)) = 0
      case neg =>
        have HF := Lib.hid (show r = (Stl.ownErrP k d e (ks.map (·.1)), cnt + 1) by rw [HR.out, if_neg ho])
        have HO := Lib.hid (errOf_ne p _ ho)
        rw [HO.out]
        clear ho
        go_wp2
        go_ret
        rw [HF.out]
        exact ⟨by show _ = Ending.returned (errOf p (Stl.ownErrP k d e (ks.map (·.1)))); rw [HO.out]; rfl, HX2.out.cnt, HX2.out.grown⟩
      have hr := HR.out
      rw [if_pos ho] at hr
      rw [ho, errOf_nil]
      clear HR ho
      have HR := Lib.hid hr
      clear hr
      have d3 := cell_of_row w2 w.heap.size 3 _ _ _ HX2.out.box
      go_wp2_with fail
      go_loopw [37] (fun a wr => ∃ (j q : Nat), j ≤ ks.length ∧ q ≤ 200 ∧ a = .int .i64 j ∧ Hid (ChkW w wr cb q (.string ⟨k.toArray⟩) (.string ⟨d.toArray⟩) (.bool e) (.slice A ks.length c)) ∧ Hid (Stl.chkL Stl.ownErr (ks.drop j) (deep + 1) q = r)) (fun a _ => ks.length - (intOf a).toNat)
      case atStart => exact ⟨0, cnt + 1, Nat.zero_le _, HC8, rfl, Lib.hid HX2.out, Lib.hid (by rw [HR.out]; rfl)⟩
      case round =>
        obtain ⟨j, q, hj, hq, rfl, HX3, HP⟩ := hrel
        clear d3
        by_cases hjl : j < ks.length
        · have i4 : (j : Int) < (ks.length : Int) := by omega
          have i5 : (0 : Int) ≤ (j : Int) := by omega
          obtain ⟨b, off, rfl, hbl, ⟨k0, hl⟩, v0, v1, v2, v3, k1, k2, k3, k4, hkid⟩ := HK.out.at hjl
          have HB3 := Lib.hid (HBW.out.trans (grownBy_below HX3.out.grown hcb HBW.out.size))
          have go : ∀ (o : Nat) (v : Value), W0.cell? ⟨b, o, none⟩ = some v → wr.cell? ⟨b, o, none⟩ = some v := fun o v hv => (HB3.out.cell (p := ⟨b, o, none⟩) hbl).trans hv
          replace k0 := go _ _ k0
          replace k1 := go _ _ k1
          replace k2 := go _ _ k2
          replace k3 := go _ _ k3
          replace k4 := go _ _ k4
          have HW := Lib.hid (Nat.le_trans (Stl.wt_mem ks j hjl) HM.out)
          have HD := Lib.hid (show ks.drop j = ks[j] :: ks.drop (j + 1) from List.drop_eq_getElem_cons hjl)
          generalize ks[j] = kd at HW HD hkid k0 hl
          obtain ⟨nm, x⟩ := kd
          simp only at hkid k0 hl
          obtain ⟨kx, dx, ex, ksx⟩ := x
          obtain ⟨A', c', e', _, _⟩ := hkid.open
          simp only [List.cons.injEq, and_true] at e'
          obtain ⟨rfl, rfl, rfl, rfl⟩ := e'
          have HKI := Lib.hid hkid
          clear go hkid hl
          have i6 : (deep : Int) + 1 ≤ 9 := by omega
          go_wp2_with fail
          rw [show (deep : Int) + 1 = ((deep + 1 : Nat) : Int) by omega]
          have HX4 := Lib.hid (HX3.out.later (Below.alloc (Below.refl _ wr) (Nat.le_refl _) (.cells #[.string ⟨nm.toArray⟩, .string ⟨kx.toArray⟩, .string ⟨dx.toArray⟩, .bool ex, .slice A' ksx.length c'] 46)))
          refine (IH.out (.mk kx dx ex ksx) [.string ⟨kx.toArray⟩, .string ⟨dx.toArray⟩, .bool ex, .slice A' ksx.length c'] (deep + 1) q _ HW.out HKI.out (by omega) hq (HB3.out.alloc HB3.out.size _) HX4.out.cnt).mono ?_
          rintro ev w5 ⟨rfl, hcn, hgr⟩
          have HX5 := Lib.hid (HX4.out.step hcn hgr)
          clear hcn hgr k0 k1 k2 k3 k4
          have hP := HP.out
          rw [HD.out, Stl.chkL] at hP
          by_cases hz : (Stl.chk Stl.ownErr (.mk kx dx ex ksx) (deep + 1) q).1 = 0
          · rw [if_pos hz] at hP
            have HP2 := Lib.hid hP
            have hq2 := Stl.chk_two_le Stl.ownErr (.mk kx dx ex ksx) (deep + 1) q hz
            rw [hz, errOf_nil]
            clear hz hP
            generalize (Stl.chk Stl.ownErr (.mk kx dx ex ksx) (deep + 1) q).2 = q2 at HP2 hq2 HX5
            go_wp2
            go_roundw
            case rel => exact ⟨j + 1, q2, hjl, hq2, by go_num, HX5, HP2⟩
            case measure => simp [intOf]; omega
          · rw [if_neg hz] at hP
            have HP2 := Lib.hid hP
            have HO := Lib.hid (errOf_ne p _ hz)
            rw [HO.out]
            clear hz hP
            go_wp2
            go_ret
            rw [← HP2.out]
            exact ⟨by rw [HO.out]; rfl, HX5.out.cnt, HX5.out.grown⟩
        · have i4 : ¬ (j : Int) < (ks.length : Int) := by omega
          have HF := Lib.hid (show r = (0, q) by
            have := HP.out
            rw [List.drop_of_length_le (by omega), Stl.chkL] at this
            exact this.symm)
          go_wp2
          go_ret
          rw [HF.out]
          exact ⟨rfl, HX3.out.cnt, HX3.out.grown⟩
#print axioms check_any

set_option maxHeartbeats 1000000 in
theorem Check_any (p : Nat → Addr) (n : Stl.Nd) (vs : List Value) (w : World) (hE : Errs w p) (hn : NodeAt w n vs) :
    Calls Tryz.prog 45 #[.agg vs.toArray] w fun e w' => e = .returned (errOf p (Stl.treeErr n)) ∧ Below w.heap.size w w' := by
  have HE := Lib.hid hE
  have HN := Lib.hid hn
  obtain ⟨k, d, e, ks⟩ := n
  obtain ⟨A, c, rfl, _, _⟩ := hn.open
  clear hE hn
  have HT : Hid ((Stl.chk Stl.ownErr (.mk k d e ks) 0 0).1 = Stl.treeErr (.mk k d e ks)) := Lib.hid rfl
  generalize Stl.treeErr (.mk k d e ks) = r at HT
  go_enter Tryz.func45, Tryz.ntmps45
  go_wp2_with fail
  have hb := ((Below.refl _ w).alloc (Nat.le_refl _) (.cells #[.string ⟨k.toArray⟩, .string ⟨d.toArray⟩, .bool e, .slice A ks.length c] 24)).alloc (by simp) (.cells #[.int .i64 0] 103)
  have hc := heap_alloc_new (w.alloc (.cells #[.string ⟨k.toArray⟩, .string ⟨d.toArray⟩, .bool e, .slice A ks.length c] 24)) (.cells #[.int .i64 0] 103)
  have h := check_any p w HE.out (w.heap.size + 1) (by omega) _ (.mk k d e ks) _ 0 0 _ (Nat.le_refl _) HN.out (by omega) (by omega) hb (by simpa using hc)
  refine h.mono ?_
  rintro ev w' ⟨rfl, h1, h2⟩
  rw [HT.out]
  have HB := Lib.hid (hb.trans (grownBy_below h2 (by omega) hb.size))
  clear h1 h2 h hc hb
  obtain ⟨v, hv⟩ : ∃ v, errOf p r = v := ⟨_, rfl⟩
  rw [hv]
  have HV := Lib.hid hv
  clear hv
  go_wp2
  go_ret
  exact ⟨by rw [HV.out]; rfl, HB.out⟩
#print axioms Check_any
end Go.Proofs.YtgmdifmokcnbpaaGreatDoor
