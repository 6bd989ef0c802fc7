/- The sentinel errors in memory; errors.As and errors.Is of them; plain.Code. -/
import Derived.Test.YtgmdifmokcnbpaaGreatDoorTurn
import Derived.LaidEql
import Derived.Stop.Asserts
import Derived.RowKitTokens
namespace Go.Proofs.YtgmdifmokcnbpaaGreatDoor
open Go.RowKit Go.Extern.Stop Go.Stop Go.Extern

/-- The package-level variable of an error's number. -/
def errG : Nat → Nat
  | 1 => 2
  | 2 => 1
  | 3 => 3
  | 4 => 4
  | 5 => 0
  | 6 => 5
  | 7 => 6
  | 8 => 7
  | 9 => 8
  | 10 => 9
  | 11 => 10
  | 12 => 11
  | _ => 12

/-- Each of the thirteen variables holds a pointer of its own to a text; errors.errorType holds the type error. -/
structure Errs (w : World) (p : Nat → Addr) : Prop where
  at_ : ∀ c, 1 ≤ c → c ≤ 13 → errAt w (errG c) (p c)
  row : ∀ c, 1 ≤ c → c ≤ 13 → ∃ cs ts, w.heap[(p c).block]? = some (.cells cs ts (0, 0))
  ne : ∀ c d, 1 ≤ c → c < d → d ≤ 13 → p c ≠ p d
  ety : w.cell? ⟨13, 0, none⟩ = some (.iface 145 (.agg #[.pointer (some ⟨17, 34, none⟩)])) ∧ 13 < w.heap.size

theorem Errs.later {w w' : World} {p : Nat → Addr} (h : Errs w p) (hb : Below w.heap.size w w') : Errs w' p := by
  refine ⟨fun c h1 h2 => (h.at_ c h1 h2).later hb, fun c h1 h2 => ?_, h.ne, (hb.cell (p := ⟨13, 0, none⟩) h.ety.2).trans h.ety.1, Nat.lt_of_lt_of_le h.ety.2 hb.size⟩
  obtain ⟨cs, ts, hc⟩ := h.row c h1 h2
  exact ⟨cs, ts, (hb.block _ (lt_of_block hc)).trans hc⟩

theorem Errs.apart {w : World} {p : Nat → Addr} (h : Errs w p) {c d : Nat} (c1 : 1 ≤ c) (c2 : c ≤ 13) (d1 : 1 ≤ d) (d2 : d ≤ 13) (hn : c ≠ d) : p c ≠ p d := by
  rcases Nat.lt_or_ge c d with hl | hl
  · exact h.ne c d c1 hl d2
  · exact fun e => h.ne d c d1 (by omega) c2 e.symm

/-- An error of this number, as a value. -/
def errOf (p : Nat → Addr) (c : Nat) : Value := if c = 0 then .nilIface else .iface 176 (.pointer (some (p c)))

/-! ### errors.As at a sentinel, for a *api.Fault -/
theorem asValueOfPP (t : Addr) (w : World) : (ReflectliteValue.unpack (.iface 88 (.pointer (some t)))).run Tryz.prog w
    = .ok (.agg #[.pointer (some ⟨17, 88, none⟩), .pointer (some ⟨w.heap.size, 0, none⟩), .int .u64 150]) (w.alloc (.cells #[.pointer (some t)] 88)) := by kernel_rfl
theorem asTypePP (a : Addr) (w : World) : (ReflectliteValue.methodAny (ReflectliteValue.valueError "reflectlite.Value.Type" 0) (fun t _ _ _ => ReflectliteType.toType t) #[.agg #[.pointer (some ⟨17, 88, none⟩), .pointer (some a), .int .u64 150]]).run Tryz.prog w
    = .ok (.iface 145 (.agg #[.pointer (some ⟨17, 88, none⟩)])) w := by kernel_rfl
theorem asMethodKind (h : Value) (w : World) : (Go.method 306 145 (.agg #[h]) "Kind").run Tryz.prog w = .ok (131, h) w := by kernel_rfl
theorem asKindPP (w : World) : ((ReflectliteType.abiMethod fun t => (fun a : Nat => Value.int IntKind.u8 (a : Int)) <$> Rtype.kind t) #[.pointer (some ⟨17, 88, none⟩)]).run Tryz.prog w = .ok (.int .u8 22) w := by kernel_rfl
theorem asKindP (w : World) : ((ReflectliteType.abiMethod fun t => (fun a : Nat => Value.int IntKind.u8 (a : Int)) <$> Rtype.kind t) #[.pointer (some ⟨17, 86, none⟩)]).run Tryz.prog w = .ok (.int .u8 22) w := by kernel_rfl
theorem asRlm (z : Sem Value) (f : TypeId → Addr → Nat → Nat → Sem Value) (v : Value) :
    ReflectliteValue.method z f #[v] = (do match ← ReflectliteValue.parts v with | none => z | some (t, a, fl) => f t a fl (fl % 32)) := rfl
theorem asPartsPP (a : Addr) (w : World) : (ReflectliteValue.parts (.agg #[.pointer (some ⟨17, 88, none⟩), .pointer (some a), .int .u64 150])).run Tryz.prog w = .ok (some (88, a, 150)) w := by kernel_rfl
theorem asIsNilPP (a p : Addr) (W : World) (ha : W.cell? a = some (.pointer (some p))) :
    (ReflectliteValue.method (ReflectliteValue.valueError "reflectlite.Value.IsNil" 0) ReflectliteValue.isNil #[.agg #[.pointer (some ⟨17, 88, none⟩), .pointer (some a), .int .u64 150]]).run Tryz.prog W = .ok (.bool false) W := by
  rw [asRlm]
  simp only [Sem.run_bind, asPartsPP, Result.andThen]
  simp [ReflectliteValue.isNil, loadVar, isAgg, underlying, Tryz.underlying88, ha, Result.andThen]
theorem asMethodElem (h : Value) (w : World) : (Go.method 306 145 (.agg #[h]) "Elem").run Tryz.prog w = .ok (143, .agg #[h]) w := by kernel_rfl
theorem asMethodImplements (h : Value) (w : World) : (Go.method 306 145 (.agg #[h]) "Implements").run Tryz.prog w = .ok (144, .agg #[h]) w := by kernel_rfl
theorem asMethodAssignableTo (h : Value) (w : World) : (Go.method 306 145 (.agg #[h]) "AssignableTo").run Tryz.prog w = .ok (141, .agg #[h]) w := by kernel_rfl
theorem asElemPP (w : World) : (ReflectliteType.method ReflectliteType.elem #[.agg #[.pointer (some ⟨17, 88, none⟩)]]).run Tryz.prog w = .ok (.iface 145 (.agg #[.pointer (some ⟨17, 86, none⟩)])) w := by kernel_rfl
theorem asImplementsP (w : World) : (ReflectliteType.relation "Implements" ReflectliteType.implements_ #[.agg #[.pointer (some ⟨17, 86, none⟩)], .iface 145 (.agg #[.pointer (some ⟨17, 34, none⟩)])]).run Tryz.prog w = .ok (.bool true) w := by kernel_rfl
theorem asTypeOfE (v : Value) (w : World) : (ReflectliteType.typeOf #[.iface 176 v]).run Tryz.prog w = .ok (.iface 145 (.agg #[.pointer (some ⟨17, 176, none⟩)])) w := by kernel_rfl
theorem asAssignableE (w : World) : (ReflectliteType.relation "AssignableTo" ReflectliteType.assignableTo #[.agg #[.pointer (some ⟨17, 176, none⟩)], .iface 145 (.agg #[.pointer (some ⟨17, 86, none⟩)])]).run Tryz.prog w = .ok (.bool false) w := by kernel_rfl
theorem noAsE (v : Value) (xT : TypeId) (w : World) : (Instr.typeAssert (.iface 176 v) xT 149 true).run Tryz.prog w = .ok (.tuple #[.nilIface, .bool false]) w := run_typeAssert_lacksB Tryz.underlying149 (by kernel_rfl) (by kernel_rfl) v xT w
theorem noIsE (v : Value) (xT : TypeId) (w : World) : (Instr.typeAssert (.iface 176 v) xT 156 true).run Tryz.prog w = .ok (.tuple #[.nilIface, .bool false]) w := run_typeAssert_lacksB Tryz.underlying156 (by kernel_rfl) (by kernel_rfl) v xT w
theorem noUnwrapE (v : Value) (xT : TypeId) (w : World) : (Instr.typeAssert (.iface 176 v) xT 152 true).run Tryz.prog w = .ok (.tuple #[.nilIface, .bool false]) w := run_typeAssert_lacksB Tryz.underlying152 (by kernel_rfl) (by kernel_rfl) v xT w
theorem noUnwrapsE (v : Value) (xT : TypeId) (w : World) : (Instr.typeAssert (.iface 176 v) xT 154 true).run Tryz.prog w = .ok (.tuple #[.nilIface, .bool false]) w := run_typeAssert_lacksB Tryz.underlying154 (by kernel_rfl) (by kernel_rfl) v xT w

set_option maxHeartbeats 4000000 in
/-- A sentinel is no *api.Fault. -/
theorem as_no (e t : Addr) (w : World) (hg : w.cell? ⟨13, 0, none⟩ = some (.iface 145 (.agg #[.pointer (some ⟨17, 34, none⟩)]))) :
    Calls Tryz.prog 52 #[.iface 176 (.pointer (some e)), .iface 88 (.pointer (some t))] w fun ev w' => ev = .returned (.bool false) ∧ Below w.heap.size w w' := by
  have h6 := @run_callFunc_extern Tryz.prog 77 _ (fun args => ReflectliteValue.unpack (args.getD 0 (.tuple #[]))) Tryz.func77 (by kernel_rfl) (by kernel_rfl) (by kernel_rfl) (by kernel_rfl)
  have h7 := @run_callFunc_extern Tryz.prog 78 _ (ReflectliteValue.methodAny (ReflectliteValue.valueError "reflectlite.Value.Type" 0) (fun t _ _ _ => ReflectliteType.toType t)) Tryz.func78 (by kernel_rfl) (by kernel_rfl) (by kernel_rfl) (by kernel_rfl)
  have h8 := @run_callFunc_extern Tryz.prog 79 _ (ReflectliteValue.method (ReflectliteValue.valueError "reflectlite.Value.IsNil" 0) ReflectliteValue.isNil) Tryz.func79 (by kernel_rfl) (by kernel_rfl) (by kernel_rfl) (by kernel_rfl)
  have h27 := @run_callFunc_extern Tryz.prog 131 _ (ReflectliteType.abiMethod fun t => do pure (.int .u8 (← Rtype.kind t))) Tryz.func131 (by kernel_rfl) (by kernel_rfl) (by kernel_rfl) (by kernel_rfl)
  have h37 := @run_callFunc_extern Tryz.prog 143 _ (ReflectliteType.method ReflectliteType.elem) Tryz.func143 (by kernel_rfl) (by kernel_rfl) (by kernel_rfl) (by kernel_rfl)
  have h38 := @run_callFunc_extern Tryz.prog 144 _ (ReflectliteType.relation "Implements" ReflectliteType.implements_) Tryz.func144 (by kernel_rfl) (by kernel_rfl) (by kernel_rfl) (by kernel_rfl)
  have h10 := @run_callFunc_extern Tryz.prog 81 _ ReflectliteType.typeOf Tryz.func81 (by kernel_rfl) (by kernel_rfl) (by kernel_rfl) (by kernel_rfl)
  have h35 := @run_callFunc_extern Tryz.prog 141 _ (ReflectliteType.relation "AssignableTo" ReflectliteType.assignableTo) Tryz.func141 (by kernel_rfl) (by kernel_rfl) (by kernel_rfl) (by kernel_rfl)
  have tO := asTypeOfE
  have mA := asMethodAssignableTo
  have a25 := asAssignableE
  have f6 := asValueOfPP
  have f7 := asTypePP
  have mK := asMethodKind
  have mE := asMethodElem
  have mI := asMethodImplements
  have k27 := asKindPP
  have k25 := asKindP
  have e27 := asElemPP
  have i25 := asImplementsP
  have nA := noAsE
  have uE := noUnwrapE
  have vE := noUnwrapsE
  have n8 := asIsNilPP ⟨w.heap.size, 0, none⟩ t ((w.alloc (.cells #[.pointer (some t)] 88)).alloc (.cells #[.pointer (some ⟨17, 88, none⟩), .pointer (some ⟨w.heap.size, 0, none⟩), .int .u64 150] 122)) (by simp)
  have hlt : 13 < w.heap.size := by
    rcases Nat.lt_or_ge 13 w.heap.size with h | h
    · exact h
    · simp [World.cell?, Array.getElem?_eq_none h] at hg
  have hg2 : ((w.alloc (.cells #[.pointer (some t)] 88)).alloc (.cells #[.pointer (some ⟨17, 88, none⟩), .pointer (some ⟨w.heap.size, 0, none⟩), .int .u64 150] 122)).cell? ⟨13, 0, none⟩ = some (.iface 145 (.agg #[.pointer (some ⟨17, 34, none⟩)])) := by
    rw [World.cell?_alloc_lt _ _ ⟨13, 0, none⟩ (by simp; omega), World.cell?_alloc_lt _ _ ⟨13, 0, none⟩ hlt]; exact hg
  clear hg hlt
  go_enter Tryz.func52, Tryz.ntmps52
  go_wp2
  refine wp_loop_rounds 1 ?_
  rw [rounds_succ]
  go_wp2
  go_ret
  exact ⟨rfl, ((((Below.refl _ w).alloc (Nat.le_refl _) _).alloc (by simp) _).alloc (by simp; omega) _)⟩
#print axioms as_no

/-! ### errors.Is of sentinels -/
/-- The model's own text for (rtype).Comparable. -/
def compEntry : Array Value → Sem Value := Extern.ReflectliteType.method fun t => do Extern.Rtype.noPackHeld "Comparable" t; pure (.bool (← typeInfo t).comparable)
theorem isComparable (w : World) : (compEntry #[.agg #[.pointer (some ⟨17, 176, none⟩)]]).run Tryz.prog w = .ok (.bool true) w := by kernel_rfl
theorem isMethodComparable (v : Value) (w : World) : (Go.method 306 145 v "Comparable").run Tryz.prog w = .ok (142, v) w := by kernel_rfl
theorem isComp : (Tryz.prog.info? 176).map (·.comparable) = some true := by kernel_rfl
theorem isSize : (Tryz.prog.info? 194).map (·.size) = some 1 := by kernel_rfl

set_option maxHeartbeats 1000000 in
theorem is_same (a : Addr) (w : World) :
    Calls Tryz.prog 53 #[.iface 176 (.pointer (some a)), .iface 176 (.pointer (some a))] w fun e w' => e = .returned (.bool true) ∧ w' = w := by
  obtain ⟨i, hi, hcmp⟩ := Option.map_eq_some_iff.1 isComp
  obtain ⟨j, hj, hjs⟩ := Option.map_eq_some_iff.1 isSize
  have h8 := @run_callFunc_extern Tryz.prog 81 _ Extern.ReflectliteType.typeOf Tryz.func81 (by kernel_rfl) (by kernel_rfl) (by kernel_rfl) (by kernel_rfl)
  have h32 := @run_callFunc_extern Tryz.prog 142 _ compEntry Tryz.func142 (by kernel_rfl) (by kernel_rfl) (by kernel_rfl) (by kernel_rfl)
  have tT := asTypeOfE
  have cT := isComparable
  have mR := isMethodComparable
  have heq := run_eql_iface_ptr_same (P := Tryz.prog) w a Tryz.underlying34 Tryz.underlying176 hi hcmp hj
  go_enter Tryz.func53, Tryz.ntmps53
  go_wp2
  refine wp_loop_rounds 1 ?_
  rw [rounds_succ]
  go_wp2
  go_ret
  exact ⟨rfl, rfl⟩

set_option maxHeartbeats 1000000 in
theorem is_other (a b : Addr) (ca cb : Array Value) (ta tb : TypeId) (w : World) (hne : a ≠ b) (ha : w.heap[a.block]? = some (.cells ca ta (0, 0))) (hb : w.heap[b.block]? = some (.cells cb tb (0, 0))) :
    Calls Tryz.prog 53 #[.iface 176 (.pointer (some a)), .iface 176 (.pointer (some b))] w fun e w' => e = .returned (.bool false) ∧ w' = w := by
  obtain ⟨i, hi, hcmp⟩ := Option.map_eq_some_iff.1 isComp
  obtain ⟨j, hj, hjs⟩ := Option.map_eq_some_iff.1 isSize
  have h8 := @run_callFunc_extern Tryz.prog 81 _ Extern.ReflectliteType.typeOf Tryz.func81 (by kernel_rfl) (by kernel_rfl) (by kernel_rfl) (by kernel_rfl)
  have h32 := @run_callFunc_extern Tryz.prog 142 _ compEntry Tryz.func142 (by kernel_rfl) (by kernel_rfl) (by kernel_rfl) (by kernel_rfl)
  have tT := asTypeOfE
  have cT := isComparable
  have mR := isMethodComparable
  have nE := noIsE
  have uE := noUnwrapE
  have vE := noUnwrapsE
  have heq := run_eql_iface_ptr_other (P := Tryz.prog) w Tryz.underlying34 Tryz.underlying176 hi hcmp hj (by rw [hjs]; decide) hne ha hb
  clear hne ha hb
  go_enter Tryz.func53, Tryz.ntmps53
  go_wp2
  refine wp_loop_rounds 1 ?_
  rw [rounds_succ]
  go_wp2
  go_ret
  exact ⟨rfl, rfl⟩
#print axioms is_other

/-- errors.Is of two of the thirteen. -/
theorem is_any (w : World) (p : Nat → Addr) (h : Errs w p) (c d : Nat) (c1 : 1 ≤ c) (c2 : c ≤ 13) (d1 : 1 ≤ d) (d2 : d ≤ 13) :
    Calls Tryz.prog 53 #[.iface 176 (.pointer (some (p c))), .iface 176 (.pointer (some (p d)))] w fun e w' => e = .returned (.bool (decide (c = d))) ∧ w' = w := by
  by_cases hcd : c = d
  · subst hcd
    simpa using is_same (p c) w
  · obtain ⟨cs, ts, hc⟩ := h.row c c1 c2
    obtain ⟨ds, us, hd⟩ := h.row d d1 d2
    simpa [hcd] using is_other (p c) (p d) cs ds ts us w (h.apart c1 c2 d1 d2 hcd) hc hd
end Go.Proofs.YtgmdifmokcnbpaaGreatDoor
