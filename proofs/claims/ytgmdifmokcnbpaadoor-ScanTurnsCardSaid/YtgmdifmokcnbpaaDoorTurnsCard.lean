/- Proved: the law ScanTurns answers true at every four texts, and leaves them as they were (the statement's tied card). Conditions: none of mine; the row's own (the four package variables read as the program's text lays them). -/
import Derived.Test.YtgmdifmokcnbpaaDoorCards
import Derived.Test.YtgmdifmokcnbpaaDoorTie
import Derived.Test.YtgmdifmokcnbpaaDoorTurnsLaw
import Derived.ProofKit
import Derived.OpenShut
import Derived.Deep.DeepHandedRow
import Derived.Deep.DeepWitnessRowRef
import Derived.Stop.LaidErr
import Derived.Lay
namespace Go.Proofs.YtgmdifmokcnbpaaDoor
open Go.ChangeShapes Go.ChangeMaps Go.WideShapes Go.ChangeAt Go.RowKit
namespace Turns

theorem own : ownKnob Tryd.prog.godebug = none := by kernel_rfl
theorem gN : Tryd.prog.globalNamed "stillroom/api.ErrName" = some 0 := by kernel_rfl
theorem gNType : (Tryd.prog.globals[0]?).map (·.type) = some 24 := by kernel_rfl
theorem gB : Tryd.prog.globalNamed "stillroom/api.ErrBound" = some 1 := by kernel_rfl
theorem gBType : (Tryd.prog.globals[1]?).map (·.type) = some 24 := by kernel_rfl
theorem cellsE : Tryd.prog.cellsOf 118 = 1 := by kernel_rfl
theorem cellsS : Tryd.prog.cellsOf 9 = 1 := by kernel_rfl
theorem star : "*" ++ "errors.errorString" = "*errors.errorString" := by decide
theorem rowE (u : TypeId) (h : Tryd.prog.typeName? 3 u = some "*errors.errorString") : u = 104 :=
  typeName_ptr_named (nm := "errors.errorString") (by rw [star]; kernel_rfl) (by kernel_rfl) (by decide) u (by rw [star]; exact h)

theorem errAt_of_var {W : World} {n : String} {g : Nat} {p : Addr} (hg : Tryd.prog.globalNamed n = some g) (h : W.var? Tryd.prog n = some #[.iface 104 (.pointer (some p))]) : errAt W g p := by
  have hc := World.var?_cell hg h 0
  refine ⟨by simpa using hc, ?_⟩
  rcases Nat.lt_or_ge g W.heap.size with h' | h'
  · exact h'
  · simp [World.cell?, Array.getElem?_eq_none h'] at hc

theorem errs {W : World} (hL : laidMetH Tryd.prog Rows.scanTurnsRow.laid W) : ∃ pN pB : Addr, errAt W 0 pN ∧ errAt W 1 pB := by
  have h : laidMet Tryd.prog Rows.scanTurnsRow.laid W := by
    have e : Rows.scanTurnsRow.laid.filter (fun x => x.2.handleName?.isNone) = Rows.scanTurnsRow.laid := by kernel_rfl
    have h := (laidMetH_iff.1 hL).1
    rw [e] at h
    exact h
  obtain ⟨a, _, ha, _⟩ := laid_sentinel (laidMet.tail h) gB gBType Tryd.underlying24 rowE Tryd.underlying104 Tryd.underlying118 rfl rfl Tryd.underlying9 cellsE cellsS
  obtain ⟨b, _, hb, _⟩ := laid_sentinel (laidMet.tail (laidMet.tail h)) gN gNType Tryd.underlying24 rowE Tryd.underlying104 Tryd.underlying118 rfl rfl Tryd.underlying9 cellsE cellsS
  exact ⟨b, a, errAt_of_var gN hb, errAt_of_var gB ha⟩

theorem str_eta (s : ByteArray) : Value.string s = Value.string ⟨s.data.toList.toArray⟩ := by simp

set_option maxRecDepth 100000 in
theorem contract (H : Type) (enc : TypeId × Value → H) (W : World) (base : Nat) (args : Array Value) (ds gs : List (DataW H)) (before : List MemPlace)
    (hval : ∀ (j : Nat) t v, Tryd.f3.params[j]? = some t → args[j]? = some v → Value.okWide Tryd.prog W .any base t v)
    (hW : DataW.Whole enc Tryd.prog Tryd.f3.params.toList Rows.scanTurnsSpec.vars false W args.toList ds gs before) (hL : laidMetH Tryd.prog Rows.scanTurnsRow.laid W) :
    Calls Tryd.prog 3 args W fun e W' => ∃ v, e = .returned v ∧ Rows.scanTurnsSpec.post enc Tryd.prog Tryd.f3 false true false false W args v W' := by
  have hW' := hW
  obtain ⟨p, q, hA0, hV, rfl, hfz, hnd⟩ := hW
  have hA : DataW.TrodAll enc Tryd.prog W 0 (fun _ => true) true Tryd.f3.params.toList args.toList ds p := hA0
  rw [Tryd.params3] at hA hval
  obtain ⟨v0, vs0, d0, ds0, p0, q0, hargs, rfl, rfl, h0, r0⟩ := trodAll_cons hA
  obtain ⟨v1, vs1, d1, ds1, p1, q1, rfl, rfl, rfl, h1, r1⟩ := trodAll_cons r0
  obtain ⟨v2, vs2, d2, ds2, p2, q2, rfl, rfl, rfl, h2, r2⟩ := trodAll_cons r1
  obtain ⟨v3, vs3, d3, ds3, p3, q3, rfl, rfl, rfl, h3, r3⟩ := trodAll_cons r2
  obtain ⟨rfl, rfl, rfl⟩ := trodAll_nil r3
  obtain rfl : args = #[v0, v1, v2, v3] := by cases args; simp_all
  obtain ⟨rfl, rfl⟩ := trodVars_none hV
  obtain ⟨s0, rfl, rfl, rfl, z0⟩ := open_string Tryd.underlying9 (hval 0 9 v0 rfl rfl) h0
  obtain ⟨s1, rfl, rfl, rfl, z1⟩ := open_string Tryd.underlying9 (hval 1 9 v1 rfl rfl) h1
  obtain ⟨s2, rfl, rfl, rfl, z2⟩ := open_string Tryd.underlying9 (hval 2 9 v2 rfl rfl) h2
  obtain ⟨s3, rfl, rfl, rfl, z3⟩ := open_string Tryd.underlying9 (hval 3 9 v3 rfl rfl) h3
  clear hA0
  simp only [List.append_nil] at hW'
  obtain ⟨pN, pB, eN, eB⟩ := errs hL
  have hz : ∀ s : ByteArray, s.size ≤ maxLen → s.data.toList.length ≤ 9223372036854775807 := fun s h => by rw [Array.length_toList]; exact h
  have walk := ScanTurns_any s0.data.toList s1.data.toList s2.data.toList s3.data.toList W pN pB eN eB (hz _ z0) (hz _ z1) (hz _ z2) (hz _ z3)
  rw [← str_eta, ← str_eta, ← str_eta, ← str_eta] at walk
  refine walk.mono fun e W' ⟨he, hb⟩ => ?_
  subst he
  exact ⟨_, rfl, _, _, _, [], _, [], hW', trodAll_mk1 (shut_bool Tryd.underlying4 _), trodAll_cons_mk (shut_string Tryd.underlying9 z0) (trodAll_cons_mk (shut_string Tryd.underlying9 z1) (trodAll_cons_mk (shut_string Tryd.underlying9 z2) (trodAll_cons_mk (shut_string Tryd.underlying9 z3) trodAll_mk0))), rfl, hb.frame _, fun h => by cases h⟩

/-- The arguments of the witness. -/
def args0 : Array Value := #[.string ⟨#[]⟩, .string ⟨#[]⟩, .string ⟨#[]⟩, .string ⟨#[]⟩]
noncomputable def laidWorld (os : Os) : World := World.laidAll Tryd.prog os Rows.scanTurnsRow.laid
theorem laid_met (os : Os) : laidMetH Tryd.prog Rows.scanTurnsRow.laid ((laidWorld os).forCall (fun _ _ => 0) ⟨#[], args0, []⟩).memory := by
  have e : Rows.scanTurnsRow.laid.filter (fun x => x.2.handleName?.isNone) = Rows.scanTurnsRow.laid := by kernel_rfl
  have e2 : Rows.scanTurnsRow.laid.filter (fun x => x.2.handleName?.isSome) = [] := by kernel_rfl
  refine laidMetH_iff.2 ⟨?_, ?_⟩
  · rw [e]
    exact laidMet_laidAll _ (by kernel_rfl) (by kernel_rfl)
  · rw [e2]
    intro x hx
    cases hx
theorem reads (os : Os) {H : Type} (enc : TypeId × Value → H) : ∃ ds places, DataW.whole enc Tryd.prog ((laidWorld os).forCall (fun _ _ => 0) ⟨#[], args0, []⟩).memory Tryd.f3.params.toList Rows.scanTurnsSpec.vars false args0.toList 8 = some (ds, [], places) :=
  ⟨[.lit (.string []), .lit (.string []), .lit (.string []), .lit (.string [])], [], by kernel_rfl⟩

set_option maxRecDepth 100000 in
theorem lifted (os : Os) (started : os.Started) (H : Type) (enc : TypeId × Value → H) (F : Stop.Interp) :
    ReturnsInHanded {} Tryd.checked os 3 .any ((OpenSpec.ofChange Rows.scanTurnsSpec).preRow enc Tryd.prog Tryd.f3 Rows.scanTurnsRow.domain false Rows.scanTurnsRow.laid) (((OpenSpec.ofChange Rows.scanTurnsSpec).at F).post enc Tryd.prog Tryd.f3 false true false false) := by
  obtain ⟨ds, places, hx⟩ := reads os enc
  refine returnsInHanded_of_row (C := Tryd.checked) (s := OpenSpec.ofChange Rows.scanTurnsSpec) own started (by kernel_rfl) Tryd.func3
    (witness_row_atRef (enc := enc) (C := Tryd.checked) false (laidWorld os) args0 (World.laidAll_os _ _ _) (by kernel_rfl) (by kernel_rfl) (by kernel_rfl)
      (OpenSpec.preRow_of_cond 8 hx (by rfl) (fun k hk => by cases hk) (by kernel_rfl) (laid_met os))) ?_
  intro W base args ds gs before hval hW _ _ _ hL _ _
  exact contract H enc W base args ds gs before hval hW hL

theorem said : Rows.ScanTurnsSaid :=
  OpenClaim.holds_of_cond 3 Tryd.f3 rfl rfl rfl rfl rfl rfl rfl ⟨rfl, rfl, rfl, rfl, rfl⟩ rfl rfl rfl rfl rfl (by kernel_rfl) Tryd.func3 (by kernel_rfl)
    (of_decide_eq_true (by kernel_rfl)) (by unfold Func.isWrapper; first | (rw [if_pos (by decide +kernel)]; kernel_rfl) | (rw [if_neg (by decide +kernel)]; exact ⟨rfl, rfl⟩))
    (fun os started H enc _ F => by rw [OpenClaim.pre_eq_preRow]; exact lifted os started H enc F)

theorem plain (f : FuncId) (fn : Func) (hf : Tryd.pinned.checked.prog.funcNamed "stillroom/stillroomlaw3.ScanTurns" = some f) (hfn : Tryd.pinned.checked.prog.funcs[f]? = some fn) :
    false = Tryd.pinned.checked.prog.looks [] ∧ ∀ (j : Nat) t, fn.params[j]? = some t → Tryd.pinned.checked.prog.wantsStandIn t = false := by
  obtain rfl : f = 3 := Option.some.inj ((show Tryd.prog.funcNamed "stillroom/stillroomlaw3.ScanTurns" = some 3 by kernel_rfl).symm.trans hf) |>.symm
  obtain rfl : fn = Tryd.f3 := (Option.some.inj (Tryd.func3.symm.trans hfn)).symm
  refine ⟨by kernel_rfl, fun j t ht => ?_⟩
  rw [Tryd.params3] at ht
  obtain rfl : t = 9 := by simpa using Array.mem_of_getElem? ht
  exact (show Tryd.prog.wantsStandIn 9 = false by kernel_rfl)

theorem card : Rows.ScanTurnsCardSaid :=
  Claim7.holds_tied_plain_at .later [] _ _ _ _ said (fun _ h => by cases h) (by kernel_rfl) (fun _ h => by cases h) scanTurns_row_tie rfl ⟨rfl, rfl⟩ (by kernel_rfl) rfl plain (by kernel_rfl)
#print axioms card
end Turns
end Go.Proofs.YtgmdifmokcnbpaaDoor
