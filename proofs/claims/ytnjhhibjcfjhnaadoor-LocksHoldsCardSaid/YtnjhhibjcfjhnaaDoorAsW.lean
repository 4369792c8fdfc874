/- errors.As at a fault that unwraps to an Errno: the walk. -/
import Derived.Test.YtnjhhibjcfjhnaaDoorAs
import Derived.Outline
namespace Go.Proofs.YtnjhhibjcfjhnaaDoor
open Go.RowKit Go.Extern.Stop Go.Stop Go.Extern
set_option linter.unusedVariables false

theorem grown_tr {a b c : World} {r : Option Nat} (h : a.grownBy b r) (k : b.grownBy c r) : a.grownBy c r :=
  ⟨k.os.trans h.os, k.tape.trans h.tape, k.output.trans h.output, Nat.le_trans h.size k.size, fun j hj hne => (k.block j (Nat.lt_of_lt_of_le hj h.size) hne).trans (h.block j hj hne)⟩
theorem grown_wk {a b : World} (h : Below a.heap.size a b) (r : Option Nat) : a.grownBy b r := ⟨h.os, h.tape, h.output, h.size, fun j hj _ => h.block j hj⟩

set_option maxRecDepth 100000 in
set_option maxHeartbeats 4000000 in
/-- errors.as of a fault: one round that unwraps, one that hits. -/
theorem as_chain (cs : Array Value) (n e0 : Int) (B H : Nat) (w : World) (hE : Boxed w B 32 (.int .i64 e0)) (hH : w.cell? ⟨H, 0, none⟩ = some (.pointer (some ⟨B, 0, none⟩)))
    (hu : ∀ W, Calls Tryd.prog 103 #[.agg cs] W fun e W' => e = .returned (.iface 32 (.int .i64 n)) ∧ Below W.heap.size W W') :
    Calls Tryd.prog 69 #[.iface 83 (.agg cs), .iface 103 (.pointer (some ⟨B, 0, none⟩)), .agg #[.pointer (some ⟨1, 103, none⟩), .pointer (some ⟨H, 0, none⟩), .int .u64 150], .iface 131 (.agg #[.pointer (some ⟨1, 32, none⟩)])] w
      fun e w' => e = .returned (.bool true) ∧ Boxed w' B 32 (.int .i64 n) ∧ w.grownBy w' (some B) := by
  have h6 := @run_callFunc_extern Tryd.prog 66 _ (fun args => ReflectliteValue.unpack (args.getD 0 (.tuple #[]))) Tryd.func66 (by kernel_rfl) (by kernel_rfl) (by kernel_rfl) (by kernel_rfl)
  have h7 := @run_callFunc_extern Tryd.prog 67 _ (ReflectliteValue.methodAny (ReflectliteValue.valueError "reflectlite.Value.Type" 0) (fun t _ _ _ => ReflectliteType.toType t)) Tryd.func67 (by kernel_rfl) (by kernel_rfl) (by kernel_rfl) (by kernel_rfl)
  have h8 := @run_callFunc_extern Tryd.prog 68 _ (ReflectliteValue.method (ReflectliteValue.valueError "reflectlite.Value.IsNil" 0) ReflectliteValue.isNil) Tryd.func68 (by kernel_rfl) (by kernel_rfl) (by kernel_rfl) (by kernel_rfl)
  have h27 := @run_callFunc_extern Tryd.prog 98 _ (ReflectliteType.abiMethod fun t => do pure (.int .u8 (← Rtype.kind t))) Tryd.func98 (by kernel_rfl) (by kernel_rfl) (by kernel_rfl) (by kernel_rfl)
  have h37 := @run_callFunc_extern Tryd.prog 110 _ (ReflectliteType.method ReflectliteType.elem) Tryd.func110 (by kernel_rfl) (by kernel_rfl) (by kernel_rfl) (by kernel_rfl)
  have h38 := @run_callFunc_extern Tryd.prog 111 _ (ReflectliteType.relation "Implements" ReflectliteType.implements_) Tryd.func111 (by kernel_rfl) (by kernel_rfl) (by kernel_rfl) (by kernel_rfl)
  have h10 := @run_callFunc_extern Tryd.prog 59 _ ReflectliteType.typeOf Tryd.func59 (by kernel_rfl) (by kernel_rfl) (by kernel_rfl) (by kernel_rfl)
  have h35 := @run_callFunc_extern Tryd.prog 108 _ (ReflectliteType.relation "AssignableTo" ReflectliteType.assignableTo) Tryd.func108 (by kernel_rfl) (by kernel_rfl) (by kernel_rfl) (by kernel_rfl)
  have h11 := @run_callFunc_extern Tryd.prog 77 _ (ReflectliteValue.method (ReflectliteValue.valueError "reflectlite.Value.Elem" 0) ReflectliteValue.elem) Tryd.func77 (by kernel_rfl) (by kernel_rfl) (by kernel_rfl) (by kernel_rfl)
  have h12 := @run_callFunc_extern Tryd.prog 78 _ ReflectliteValue.set Tryd.func78 (by kernel_rfl) (by kernel_rfl) (by kernel_rfl) (by kernel_rfl)
  have tE := rf_typeOfE
  have tF := rf_typeOfF
  have mA := rf_mAssign
  have aE := rf_assignE
  have aF := rf_assignF
  have vE := rf_valueE
  have f6 := rf_valueP
  have f7 := rf_typeP
  have mK := rf_mKind
  have mE := rf_mElem
  have mI := rf_mImpl
  have mU := rf_mUnwrap
  have kP := rf_kindP
  have kE := rf_kindE
  have eP := rf_elemP
  have iE := rf_implE
  have xA := rf_asAs
  have xU := rf_asUnwrap
  have hHlt := World.block_lt_of_cell? _ _ hH
  have hBlt := hE.lt
  have hb0 : Below w.heap.size w (w.alloc (.cells #[.pointer (some ⟨1, 103, none⟩), .pointer (some ⟨H, 0, none⟩), .int .u64 150] 121)) := (Below.refl _ w).alloc (Nat.le_refl _) _
  have hc0 : (w.alloc (.cells #[.pointer (some ⟨1, 103, none⟩), .pointer (some ⟨H, 0, none⟩), .int .u64 150] 121)).heap[w.heap.size]? = some (.cells #[.pointer (some ⟨1, 103, none⟩), .pointer (some ⟨H, 0, none⟩), .int .u64 150] 121 (0, 0)) := World.alloc_heap_new w _
  have hsz : w.heap.size < (w.alloc (.cells #[.pointer (some ⟨1, 103, none⟩), .pointer (some ⟨H, 0, none⟩), .int .u64 150] 121)).heap.size := by simp
  go_enter Tryd.func69, Tryd.ntmps69
  go_wp2_with fail
  generalize (w.alloc (.cells #[.pointer (some ⟨1, 103, none⟩), .pointer (some ⟨H, 0, none⟩), .int .u64 150] 121)) = w1 at *
  refine wp_loop_rounds 2 ?_
  rw [rounds_succ]
  go_wp2_with fail
  refine (hu _).mono ?_
  rintro e w2 ⟨rfl, hb⟩
  have hcx := (hb.block _ hsz).trans hc0
  have x0 : w2.cell? ⟨w.heap.size, 0, none⟩ = some (.pointer (some ⟨1, 103, none⟩)) := by simp [World.cell?, hcx]
  have x1 : w2.cell? ⟨w.heap.size, 1, none⟩ = some (.pointer (some ⟨H, 0, none⟩)) := by simp [World.cell?, hcx]
  have x2 : w2.cell? ⟨w.heap.size, 2, none⟩ = some (.int .u64 150) := by simp [World.cell?, hcx]
  have hb2 := hb0.trans (hb.mono hb0.size)
  have hE2 : Boxed w2 B 32 (.int .i64 e0) := (hb2.block B hBlt).trans hE
  have hH2 := (hb2.cell (p := ⟨H, 0, none⟩) hHlt).trans hH
  have el := rf_elemV ⟨H, 0, none⟩ ⟨B, 0, none⟩ w2 hH2
  have hE3 := hE2.alloc (.cells #[.int .i64 n] 32)
  have st := rf_setE ⟨B, 0, none⟩ ⟨w2.heap.size, 0, none⟩ n (.int .i64 e0) (w2.alloc (.cells #[.int .i64 n] 32)) (by simp) hE3.cell hE3.frozen
  clear hcx hc0 hb hu
  go_wp2_with fail
  rw [rounds_succ]
  go_wp2_with fail
  go_ret
  refine ⟨rfl, hE3.set _, ?_⟩
  exact grown_tr (grown_tr (grown_wk hb2 _) (World.grownBy_alloc w2 _ _)) (grownBy_setCell' _ _ _)

set_option maxRecDepth 100000 in
set_option maxHeartbeats 4000000 in
/-- errors.As of a fault: the number that it unwraps to. -/
theorem as_fault (cs : Array Value) (n e0 : Int) (B : Nat) (w : World) (hE : Boxed w B 32 (.int .i64 e0)) (hg : w.cell? ⟨0, 0, none⟩ = some (.iface 131 (.agg #[.pointer (some ⟨1, 76, none⟩)])))
    (hu : ∀ W, Calls Tryd.prog 103 #[.agg cs] W fun e W' => e = .returned (.iface 32 (.int .i64 n)) ∧ Below W.heap.size W W') :
    Calls Tryd.prog 51 #[.iface 83 (.agg cs), .iface 103 (.pointer (some ⟨B, 0, none⟩))] w fun e w' => e = .returned (.bool true) ∧ Boxed w' B 32 (.int .i64 n) ∧ w.grownBy w' (some B) := by
  have h6 := @run_callFunc_extern Tryd.prog 66 _ (fun args => ReflectliteValue.unpack (args.getD 0 (.tuple #[]))) Tryd.func66 (by kernel_rfl) (by kernel_rfl) (by kernel_rfl) (by kernel_rfl)
  have h7 := @run_callFunc_extern Tryd.prog 67 _ (ReflectliteValue.methodAny (ReflectliteValue.valueError "reflectlite.Value.Type" 0) (fun t _ _ _ => ReflectliteType.toType t)) Tryd.func67 (by kernel_rfl) (by kernel_rfl) (by kernel_rfl) (by kernel_rfl)
  have h8 := @run_callFunc_extern Tryd.prog 68 _ (ReflectliteValue.method (ReflectliteValue.valueError "reflectlite.Value.IsNil" 0) ReflectliteValue.isNil) Tryd.func68 (by kernel_rfl) (by kernel_rfl) (by kernel_rfl) (by kernel_rfl)
  have h27 := @run_callFunc_extern Tryd.prog 98 _ (ReflectliteType.abiMethod fun t => do pure (.int .u8 (← Rtype.kind t))) Tryd.func98 (by kernel_rfl) (by kernel_rfl) (by kernel_rfl) (by kernel_rfl)
  have h37 := @run_callFunc_extern Tryd.prog 110 _ (ReflectliteType.method ReflectliteType.elem) Tryd.func110 (by kernel_rfl) (by kernel_rfl) (by kernel_rfl) (by kernel_rfl)
  have h38 := @run_callFunc_extern Tryd.prog 111 _ (ReflectliteType.relation "Implements" ReflectliteType.implements_) Tryd.func111 (by kernel_rfl) (by kernel_rfl) (by kernel_rfl) (by kernel_rfl)
  have h10 := @run_callFunc_extern Tryd.prog 59 _ ReflectliteType.typeOf Tryd.func59 (by kernel_rfl) (by kernel_rfl) (by kernel_rfl) (by kernel_rfl)
  have h35 := @run_callFunc_extern Tryd.prog 108 _ (ReflectliteType.relation "AssignableTo" ReflectliteType.assignableTo) Tryd.func108 (by kernel_rfl) (by kernel_rfl) (by kernel_rfl) (by kernel_rfl)
  have h11 := @run_callFunc_extern Tryd.prog 77 _ (ReflectliteValue.method (ReflectliteValue.valueError "reflectlite.Value.Elem" 0) ReflectliteValue.elem) Tryd.func77 (by kernel_rfl) (by kernel_rfl) (by kernel_rfl) (by kernel_rfl)
  have h12 := @run_callFunc_extern Tryd.prog 78 _ ReflectliteValue.set Tryd.func78 (by kernel_rfl) (by kernel_rfl) (by kernel_rfl) (by kernel_rfl)
  have tE := rf_typeOfE
  have tF := rf_typeOfF
  have mA := rf_mAssign
  have aE := rf_assignE
  have aF := rf_assignF
  have vE := rf_valueE
  have f6 := rf_valueP
  have f7 := rf_typeP
  have mK := rf_mKind
  have mE := rf_mElem
  have mI := rf_mImpl
  have mU := rf_mUnwrap
  have kP := rf_kindP
  have kE := rf_kindE
  have eP := rf_elemP
  have iE := rf_implE
  have xA := rf_asAs
  have xU := rf_asUnwrap
  have hlt := World.block_lt_of_cell? _ _ hg
  have hBlt := hE.lt
  have n8 := rf_isNil ⟨w.heap.size, 0, none⟩ ⟨B, 0, none⟩ ((w.alloc (.cells #[.pointer (some ⟨B, 0, none⟩)] 103)).alloc (.cells #[.pointer (some ⟨1, 103, none⟩), .pointer (some ⟨w.heap.size, 0, none⟩), .int .u64 150] 121)) (by simp)
  have hg1 : ((w.alloc (.cells #[.pointer (some ⟨B, 0, none⟩)] 103)).alloc (.cells #[.pointer (some ⟨1, 103, none⟩), .pointer (some ⟨w.heap.size, 0, none⟩), .int .u64 150] 121)).cell? ⟨0, 0, none⟩ = some (.iface 131 (.agg #[.pointer (some ⟨1, 76, none⟩)])) := by
    rw [World.cell?_alloc_lt _ _ ⟨0, 0, none⟩ (by simp <;> omega), World.cell?_alloc_lt _ _ ⟨0, 0, none⟩ hlt]; exact hg
  have hE1 := (hE.alloc (.cells #[.pointer (some ⟨B, 0, none⟩)] 103)).alloc (.cells #[.pointer (some ⟨1, 103, none⟩), .pointer (some ⟨w.heap.size, 0, none⟩), .int .u64 150] 121)
  have hb : Below w.heap.size w ((w.alloc (.cells #[.pointer (some ⟨B, 0, none⟩)] 103)).alloc (.cells #[.pointer (some ⟨1, 103, none⟩), .pointer (some ⟨w.heap.size, 0, none⟩), .int .u64 150] 121)) := ((Below.refl _ w).alloc (Nat.le_refl _) _).alloc (by simp) _
  have hH1 : ((w.alloc (.cells #[.pointer (some ⟨B, 0, none⟩)] 103)).alloc (.cells #[.pointer (some ⟨1, 103, none⟩), .pointer (some ⟨w.heap.size, 0, none⟩), .int .u64 150] 121)).cell? ⟨w.heap.size, 0, none⟩ = some (.pointer (some ⟨B, 0, none⟩)) := by simp
  have hch := as_chain cs n e0 B w.heap.size _ hE1 hH1 hu
  replace hch := Lib.hid hch
  clear hE1 hH1 hu hE
  go_enter Tryd.func51, Tryd.ntmps51
  go_wp2_with fail
  refine hch.out.mono ?_
  rintro e w2 ⟨rfl, hE2, hg2⟩
  clear hch
  go_wp2_with fail
  go_ret
  exact ⟨rfl, hE2, grown_tr (grown_wk hb _) hg2⟩

end Go.Proofs.YtnjhhibjcfjhnaaDoor
