/- Proved: the law ScanTells answers true at every text, tree and names, and leaves them as they were (the statement's tied card). Conditions: none of mine; the row's own (the package variables read as the program's text lays them; what is met fits in a process's addresses). -/
import Derived.Test.YtgmdifmokcnbpaaGreatDoorCards
import Derived.Test.YtgmdifmokcnbpaaGreatDoorTie
import Derived.Test.YtgmdifmokcnbpaaGreatDoorTellsErrs
import Derived.ProofKit
import Derived.OpenShut
import Derived.Carry
import Derived.Deep.DeepHandedRow
import Derived.Deep.DeepWitnessRowRef
import Derived.Lay
import Derived.LaidHandle
namespace Go.Proofs.YtgmdifmokcnbpaaGreatDoor
open Go.ChangeShapes Go.ChangeMaps Go.WideShapes Go.ChangeAt Go.RowKit
namespace Tells

theorem own : ownKnob Tryz.prog.godebug = none := by kernel_rfl
theorem laidOut : laidOutB Tryz.prog = true := by kernel_rfl
theorem str_eta (s : ByteArray) : Value.string s = Value.string ⟨s.data.toList.toArray⟩ := by simp
theorem below_reach : reachBytes ≤ 140737488355328 := by decide

set_option maxRecDepth 100000 in
set_option maxHeartbeats 4000000 in
theorem contract (H : Type) (enc : TypeId × Value → H) (W : World) (base : Nat) (args : Array Value) (ds gs : List (DataW H)) (before : List MemPlace)
    (hval : ∀ (j : Nat) t v, Tryz.f3.params[j]? = some t → args[j]? = some v → Value.okWide Tryz.prog W .any base t v)
    (hW : DataW.Whole enc Tryz.prog Tryz.f3.params.toList Rows.scanTellsSpec.vars false W args.toList ds gs before)
    (hsz : (DataW.weightsEach Tryz.prog (Tryz.f3.params.toList ++ []) (ds ++ gs)).all (· ≤ reachBytes) = true) (hL : laidMetH Tryz.prog Rows.scanTellsRow.laid W) :
    Calls Tryz.prog 3 args W fun e W' => ∃ v, e = .returned v ∧ Rows.scanTellsSpec.post enc Tryz.prog Tryz.f3 false true false false W args v W' := by
  have hW' := hW
  obtain ⟨p, q, hA0, hV, rfl, hfz, hnd⟩ := hW
  have hA : DataW.TrodAll enc Tryz.prog W 0 (fun _ => true) true Tryz.f3.params.toList args.toList ds p := hA0
  rw [Tryz.params3] at hA hval
  obtain ⟨v0, vs0, d0, ds0, p0, q0, hargs, rfl, rfl, h0, r0⟩ := trodAll_cons hA
  obtain ⟨v1, vs1, d1, ds1, p1, q1, rfl, rfl, rfl, h1, r1⟩ := trodAll_cons r0
  obtain ⟨v2, vs2, d2, ds2, p2, q2, rfl, rfl, rfl, h2, r2⟩ := trodAll_cons r1
  obtain ⟨v3, vs3, d3, ds3, p3, q3, rfl, rfl, rfl, h3, r3⟩ := trodAll_cons r2
  obtain ⟨v4, vs4, d4, ds4, p4, q4, rfl, rfl, rfl, h4, r4⟩ := trodAll_cons r3
  obtain ⟨rfl, rfl, rfl⟩ := trodAll_nil r4
  obtain rfl : args = #[v0, v1, v2, v3, v4] := by cases args; simp_all
  obtain ⟨rfl, rfl⟩ := trodVars_none hV
  obtain ⟨s0, rfl, rfl, rfl, z0⟩ := open_string Tryz.underlying9 (hval 0 9 v0 rfl rfl) h0
  obtain ⟨s3, rfl, rfl, rfl, z3⟩ := open_string Tryz.underlying9 (hval 3 9 v3 rfl rfl) h3
  obtain ⟨s4, rfl, rfl, rfl, z4⟩ := open_string Tryz.underlying9 (hval 4 9 v4 rfl rfl) h4
  obtain ⟨vs, rfl, _⟩ := okWide_struct Tryz.underlying24 (hval 1 24 v1 rfl rfl)
  obtain ⟨A2, len2, cap2, rfl⟩ := okWide_slice Tryz.underlying25 (hval 2 25 v2 rfl rfl)
  have h1k := h1
  have h2k := h2
  have hlt1 : ∀ x ∈ p1, x.block < W.heap.size := fun x hx => hW'.lt x (by simp [hx])
  have hlt2 : ∀ x ∈ p2, x.block < W.heap.size := fun x hx => hW'.lt x (by simp [hx])
  have fit : Fit (DataW.weightsEach Tryz.prog [9, 24, 25, 9, 9] [.lit (.string s0.data.toList), d1, d2, .lit (.string s3.data.toList), .lit (.string s4.data.toList)]) := fun x hx => by
    have := List.all_eq_true.1 hsz x (by rw [Tryz.params3]; simpa using hx)
    simpa using this
  simp only [DataW.weightsEach, List.append_nil] at fit
  have f0 : s0.data.toList.length ≤ 140737488355328 := Nat.le_trans (fit.left _ (by simp [DataW.weights])) below_reach
  have f3 : s3.data.toList.length ≤ 140737488355328 := Nat.le_trans (fit.right.right.right.left _ (by simp [DataW.weights])) below_reach
  have f4 : s4.data.toList.length ≤ 140737488355328 := Nat.le_trans (fit.right.right.right.right _ (by simp [DataW.weights])) below_reach
  have w1 := fit.right.left
  have w2 := fit.right.right.left
  obtain ⟨fuel1, t1⟩ := h1
  obtain ⟨fuel2, t2⟩ := h2
  obtain ⟨nd, hn⟩ := node_of_trod fuel1 _ _ _ t1 w1
  obtain ⟨An, cn, names, e2, hs⟩ := named_of_trod t2 w2
  simp only [Value.cells, List.cons.injEq, and_true, Value.slice.injEq] at e2
  obtain ⟨rfl, rfl, rfl⟩ := e2
  have hn' : NodeAt W nd vs.toList := hn
  clear hA0 fit hsz
  simp only [List.append_nil] at hW'
  obtain ⟨pe, hE⟩ := errs hL
  have walk := ScanTells_any s0.data.toList s3.data.toList s4.data.toList nd vs.toList A2 cap2 names W pe hE hn' hs f0 f3 f4
  rw [← str_eta, ← str_eta, ← str_eta] at walk
  refine walk.mono fun e W' ⟨he, hb⟩ => ?_
  subst he
  exact ⟨_, rfl, _, _, _, [], _, [], hW', trodAll_mk1 (shut_bool Tryz.underlying4 _), trodAll_cons_mk (shut_string Tryz.underlying9 z0) (trodAll_cons_mk (Below.trod laidOut (by kernel_rfl) (of_decide_eq_true (by kernel_rfl)) h1k hb hlt1) (trodAll_cons_mk (Below.trod laidOut (by kernel_rfl) (of_decide_eq_true (by kernel_rfl)) h2k hb hlt2) (trodAll_cons_mk (shut_string Tryz.underlying9 z3) (trodAll_cons_mk (shut_string Tryz.underlying9 z4) trodAll_mk0)))), rfl, hb.frame _, fun h => by cases h⟩

/-- The arguments of the witness. -/
def args0 : Array Value := #[.string ⟨#[]⟩, .agg #[.string ⟨#[]⟩, .string ⟨#[]⟩, .bool false, .slice none 0 0], .slice none 0 0, .string ⟨#[]⟩, .string ⟨#[]⟩]
/-- Settled, the handle laid. -/
noncomputable def handled (os : Os) : World :=
  let w0 := World.holding Tryz.prog os ⟨#[], #[], []⟩
  { w0 with heap := w0.heap.modify 13 fun
      | .cells _ t frozen => .cells #[.iface 145 (.agg #[.pointer (some ⟨17, 34, none⟩)])] t frozen
      | o => o }
noncomputable def laidWorld (os : Os) : World := (handled os).layVars Tryz.prog (Rows.scanTellsRow.laid.filter fun x => x.2.handleName?.isNone)
theorem laidWorld_os (os : Os) : (laidWorld os).os = os := World.layVars_os _ _ _
theorem laid_met0 (os : Os) : laidMet Tryz.prog (Rows.scanTellsRow.laid.filter fun x => x.2.handleName?.isNone) (laidWorld os) := by
  generalize hd : (Rows.scanTellsRow.laid.filter fun x => x.2.handleName?.isNone) = data
  have hw : laidWorld os = (handled os).layVars Tryz.prog data := by rw [← hd]; rfl
  have e1 : (data.filter fun x => (data.map (·.1)).contains x.1) = data := List.filter_eq_self.2 fun x hx => List.contains_iff_mem.2 (List.mem_map.2 ⟨x, hx, rfl⟩)
  have e2 : (data.filter fun x => !(data.map (·.1)).contains x.1) = [] := List.filter_eq_nil_iff.2 fun x hx => by rw [List.contains_iff_mem.2 (List.mem_map.2 ⟨x, hx, rfl⟩)]; simp
  exact laidMet_layVars (w0 := handled os) (data.map (·.1)) [] (by rw [e1, hw]) (by rw [e1, ← hd]; kernel_rfl) (by rw [e1, ← hd]; kernel_rfl) (by rw [e2]; exact LaidIn.none)
theorem laid_met (os : Os) : laidMetH Tryz.prog Rows.scanTellsRow.laid ((laidWorld os).forCall (fun _ _ => 0) ⟨#[], args0, []⟩).memory :=
  laidMetH_of_parts ((laid_met0 os).of_heap (by simp [World.memory, World.forCall, Input.heap])) (by kernel_rfl)
theorem reads (os : Os) {H : Type} (enc : TypeId × Value → H) : ∃ ds places, DataW.whole enc Tryz.prog ((laidWorld os).forCall (fun _ _ => 0) ⟨#[], args0, []⟩).memory Tryz.f3.params.toList Rows.scanTellsSpec.vars false args0.toList 8 = some (ds, [], places) :=
  ⟨[.lit (.string []), .agg [.lit (.string []), .lit (.string []), .lit (.bool false), .nil], .nil, .lit (.string []), .lit (.string [])], [], by kernel_rfl⟩

set_option maxRecDepth 100000 in
theorem lifted (os : Os) (started : os.Started) (H : Type) (enc : TypeId × Value → H) (F : Stop.Interp) :
    ReturnsInHanded {} Tryz.checked os 3 .any ((OpenSpec.ofChange Rows.scanTellsSpec).preRow enc Tryz.prog Tryz.f3 Rows.scanTellsRow.domain false Rows.scanTellsRow.laid) (((OpenSpec.ofChange Rows.scanTellsSpec).at F).post enc Tryz.prog Tryz.f3 false true false false) := by
  obtain ⟨ds, places, hx⟩ := reads os enc
  refine returnsInHanded_of_row (C := Tryz.checked) (s := OpenSpec.ofChange Rows.scanTellsSpec) own started (by kernel_rfl) Tryz.func3
    (witness_row_atRef (enc := enc) (C := Tryz.checked) false (laidWorld os) args0 (laidWorld_os os) (by kernel_rfl) (by kernel_rfl) (by kernel_rfl)
      (OpenSpec.preRow_of_cond 8 hx (by rfl) (fun k hk => by cases hk) (by kernel_rfl) (laid_met os))) ?_
  intro W base args ds gs before hval hW _ _ hsz hL _ _
  exact contract H enc W base args ds gs before hval hW hsz hL

theorem said : Rows.ScanTellsSaid :=
  OpenClaim.holds_of_cond 3 Tryz.f3 rfl rfl rfl rfl rfl rfl rfl ⟨rfl, rfl, rfl, rfl, rfl⟩ rfl rfl rfl rfl rfl (by kernel_rfl) Tryz.func3 (by kernel_rfl)
    (of_decide_eq_true (by kernel_rfl)) (by unfold Func.isWrapper; first | (rw [if_pos (by decide +kernel)]; kernel_rfl) | (rw [if_neg (by decide +kernel)]; exact ⟨rfl, rfl⟩))
    (fun os started H enc _ F => by rw [OpenClaim.pre_eq_preRow]; exact lifted os started H enc F)

theorem plain (f : FuncId) (fn : Func) (hf : Tryz.pinned.checked.prog.funcNamed "stillroom/stillroomlaw3.ScanTells" = some f) (hfn : Tryz.pinned.checked.prog.funcs[f]? = some fn) :
    true = Tryz.pinned.checked.prog.looks [] ∧ ∀ (j : Nat) t, fn.params[j]? = some t → Tryz.pinned.checked.prog.wantsStandIn t = false := by
  obtain rfl : f = 3 := Option.some.inj ((show Tryz.prog.funcNamed "stillroom/stillroomlaw3.ScanTells" = some 3 by kernel_rfl).symm.trans hf) |>.symm
  obtain rfl : fn = Tryz.f3 := (Option.some.inj (Tryz.func3.symm.trans hfn)).symm
  refine ⟨by kernel_rfl, fun j t ht => ?_⟩
  rw [Tryz.params3] at ht
  have hm : t = 9 ∨ t = 24 ∨ t = 25 := by
    have := Array.mem_of_getElem? ht
    simp at this
    rcases this with h | h | h | h <;> simp [h]
  rcases hm with rfl | rfl | rfl
  · exact (show Tryz.prog.wantsStandIn 9 = false by kernel_rfl)
  · exact (show Tryz.prog.wantsStandIn 24 = false by kernel_rfl)
  · exact (show Tryz.prog.wantsStandIn 25 = false by kernel_rfl)

theorem card : Rows.ScanTellsCardSaid :=
  Claim7.holds_tied_plain_at .later [] _ _ _ _ said (fun _ h => by cases h) (by kernel_rfl) (fun _ h => by cases h) scanTells_row_tie rfl ⟨rfl, rfl⟩ (by kernel_rfl) rfl plain (by kernel_rfl)
#print axioms card
end Tells
end Go.Proofs.YtgmdifmokcnbpaaGreatDoor
