/- Locks: errors.Is at a fault, with an Errno for its target; Delete; Release. -/
import Derived.Test.YtnjhhibjcfjhnaaDoorLkG
namespace Go.Proofs.YtnjhhibjcfjhnaaDoor
open Go.RowKit Go.Extern.Stop Go.Stop Go.Extern
set_option linter.unusedVariables false

theorem ri_mComp (h : Value) (w : World) : (Go.method 282 131 (.agg #[h]) "Comparable").run Tryd.prog w = .ok (109, .agg #[h]) w := by kernel_rfl
theorem ri_comp (w : World) : ((ReflectliteType.method fun t => do Rtype.noPackHeld "Comparable" t; (fun a => Value.bool a.comparable) <$> typeInfo t) #[.agg #[.pointer (some ⟨1, 32, none⟩)]]).run Tryd.prog w = .ok (.bool true) w := by kernel_rfl
theorem ri_isF (v : Value) (w : World) : (Instr.typeAssert (.iface 83 v) 76 133 true).run Tryd.prog w = .ok (.tuple #[.nilIface, .bool false]) w := run_typeAssert_lacksB Tryd.underlying133 (by kernel_rfl) (by kernel_rfl) _ _ w
theorem ri_isE (v : Value) (w : World) : (Instr.typeAssert (.iface 32 v) 76 133 true).run Tryd.prog w = .ok (.tuple #[.nilIface, .bool false]) w := run_typeAssert_lacksB Tryd.underlying133 (by kernel_rfl) (by kernel_rfl) _ _ w
theorem ri_unE (v : Value) (w : World) : (Instr.typeAssert (.iface 32 v) 76 136 true).run Tryd.prog w = .ok (.tuple #[.nilIface, .bool false]) w := run_typeAssert_lacksB Tryd.underlying136 (by kernel_rfl) (by kernel_rfl) _ _ w
theorem ri_usE (v : Value) (w : World) : (Instr.typeAssert (.iface 32 v) 76 138 true).run Tryd.prog w = .ok (.tuple #[.nilIface, .bool false]) w := run_typeAssert_lacksB Tryd.underlying138 (by kernel_rfl) (by kernel_rfl) _ _ w
theorem ri_eqF (v : Value) (w : World) : (binOp .eql 76 (.iface 83 v) (.iface 32 (.int .i64 0))).run Tryd.prog w = .ok (.bool false) w := run_eql_iface_types 83 32 v (.int .i64 0) Tryd.underlying76 (by decide) w

theorem ri_eqE (k : Int) (w : World) : (binOp .eql 76 (.iface 32 (.int .i64 k)) (.iface 32 (.int .i64 0))).run Tryd.prog w = .ok (.bool (k == 0)) w := by kernel_rfl
set_option maxRecDepth 100000 in
set_option maxHeartbeats 4000000 in
theorem is_chain (s k : Int) (w : World) (hk : k ≠ 0) :
    Calls Tryd.prog 60 #[.iface 83 (.agg #[.int .i64 s, .int .i64 k]), .iface 32 (.int .i64 0), .bool true] w fun e w' => e = .returned (.bool false) ∧ Below w.heap.size w w' := by
  have xF := ri_isF
  have xE := ri_isE
  have uE := ri_unE
  have vE := ri_usE
  have qF := ri_eqF
  have qE := fun w => ri_eqE k w
  rw [show (k == 0) = false by simpa using hk] at qE
  have xU := rf_asUnwrap
  have mU := rf_mUnwrap
  have hu := Lib.hid (fun W => Unwrap_any s k W)
  have hkz : (k == 0) = false := by simpa using hk
  go_enter Tryd.func60, Tryd.ntmps60
  go_wp2_with fail
  refine wp_loop_rounds 2 ?_
  rw [rounds_succ]
  go_wp2_with fail
  refine (hu.out _).mono ?_
  rintro e w1 ⟨rfl, hb1⟩
  clear hu
  go_wp2_with fail
  rw [rounds_succ]
  go_wp2_with fail
  go_ret
  exact ⟨rfl, hb1⟩
set_option maxRecDepth 100000 in
set_option maxHeartbeats 4000000 in
theorem is_fault (s k : Int) (w : World) (hk : k ≠ 0) :
    Calls Tryd.prog 35 #[.iface 83 (.agg #[.int .i64 s, .int .i64 k]), .iface 32 (.int .i64 0)] w fun e w' => e = .returned (.bool false) ∧ Below w.heap.size w w' := by
  have h10 := @run_callFunc_extern Tryd.prog 59 _ ReflectliteType.typeOf Tryd.func59 (by kernel_rfl) (by kernel_rfl) (by kernel_rfl) (by kernel_rfl)
  have hCo := @run_callFunc_extern Tryd.prog 109 _ (ReflectliteType.method fun t => do Rtype.noPackHeld "Comparable" t; pure (.bool (← typeInfo t).comparable)) Tryd.func109 (by kernel_rfl) (by kernel_rfl) (by kernel_rfl) (by kernel_rfl)
  have tE := rf_typeOfE
  have mC := ri_mComp
  have cE := ri_comp
  have hc := Lib.hid (fun W => is_chain s k W hk)
  go_enter Tryd.func35, Tryd.ntmps35
  go_wp2_with fail
  refine (hc.out _).mono ?_
  rintro e w1 ⟨rfl, hb1⟩
  clear hc
  go_wp2_with fail
  go_ret
  exact ⟨rfl, hb1⟩
end Go.Proofs.YtnjhhibjcfjhnaaDoor
