/- Locks that are nil; the law's num, read, write. -/
import Derived.Test.YtnjhhibjcfjhnaaDoorLkO
namespace Go.Proofs.YtnjhhibjcfjhnaaDoor
open Go.RowKit
set_option linter.unusedVariables false


set_option maxRecDepth 100000 in
theorem Now_nil (w : World) : Calls Tryd.prog 21 #[.pointer none] w fun e w' => e = .returned (.int .i64 0) ∧ w = w' := by
  go_enter Tryd.func21, Tryd.ntmps21
  go_wp2
  go_ret
  exact ⟨rfl, rfl⟩
set_option maxRecDepth 100000 in
theorem At_nil (s : Int) (w : World) : Calls Tryd.prog 33 #[.pointer none, .int .i64 s] w fun e w' => e = .returned (.int .i64 (-1)) ∧ Below w.heap.size w w' := by
  have hb0 : Below w.heap.size w (w.alloc (.cells #[.int .i64 s] 3)) := (Below.refl _ _).alloc (Nat.le_refl _) _
  go_enter Tryd.func33, Tryd.ntmps33
  go_wp2
  go_ret
  exact ⟨rfl, hb0⟩
set_option maxRecDepth 100000 in
theorem Copy_nil (w : World) : Calls Tryd.prog 10 #[.pointer none] w fun e w' => e = .returned (.pointer none) ∧ w = w' := by
  go_enter Tryd.func10, Tryd.ntmps10
  go_wp2
  go_ret
  exact ⟨rfl, rfl⟩
set_option maxRecDepth 100000 in
theorem Held_nil (s : Int) (w : World) : Calls Tryd.prog 22 #[.pointer none, .int .i64 s] w fun e w' => e = .returned (.bool false) ∧ Below w.heap.size w w' := by
  have hat := Lib.hid (At_nil s w)
  go_enter Tryd.func22, Tryd.ntmps22
  go_wp2_with fail
  refine hat.out.mono ?_
  rintro e w1 ⟨rfl, hb1⟩
  clear hat
  go_wp2
  go_ret
  exact ⟨rfl, hb1⟩
set_option maxRecDepth 100000 in
theorem Wants_nil (s : Int) (w : World) : Calls Tryd.prog 20 #[.pointer none, .int .i64 s] w fun e w' => e = .returned (.slice none 0 0) ∧ Below w.heap.size w w' := by
  have hat := Lib.hid (At_nil s w)
  go_enter Tryd.func20, Tryd.ntmps20
  go_wp2_with fail
  refine hat.out.mono ?_
  rintro e w1 ⟨rfl, hb1⟩
  clear hat
  go_wp2
  go_ret
  exact ⟨rfl, hb1⟩
set_option maxRecDepth 100000 in
theorem Waits_nil (s : Int) (w : World) : Calls Tryd.prog 18 #[.pointer none, .int .i64 s] w fun e w' => e = .returned (.tuple #[.int .i64 0, .bool false]) ∧ Below w.heap.size w w' := by
  have hat := Lib.hid (At_nil s w)
  go_enter Tryd.func18, Tryd.ntmps18
  go_wp2_with fail
  refine hat.out.mono ?_
  rintro e w1 ⟨rfl, hb1⟩
  clear hat
  go_wp2
  go_ret2
  exact ⟨rfl, hb1⟩


set_option maxRecDepth 100000 in
theorem Asked_nil (s wait : Int) (D : Value) (w : World) : Calls Tryd.prog 29 #[.pointer none, .int .i64 s, .int .i64 wait, D] w fun e w' => e = .returned (faultV s 1) ∧ Below w.heap.size w w' := by
  have eF : faultV s 1 = .iface 83 (.agg #[.int .i64 s, .int .i64 1]) := if_neg (by decide)
  rw [eF]
  clear eF
  go_enter Tryd.func29, Tryd.ntmps29
  go_wp2
  go_ret
  exact ⟨rfl, Below.refl _ _⟩
set_option maxRecDepth 100000 in
set_option maxHeartbeats 2000000 in
theorem Ask_nil (s wait : Int) (first : Bool) (D : Value) (w : World) (hE : Env w) : Calls Tryd.prog 11 #[.pointer none, .int .i64 s, .bool first, .int .i64 wait, D] w fun e w' => e = .returned (.tuple #[.bool false, .int .i64 1]) ∧ Below w.heap.size w w' := by
  have hak := Lib.hid (Asked_nil s wait D w)
  have hnu := Lib.hid (fun W (hW : Below w.heap.size w W) => Number_any s 1 W (hE.below hW) (by decide))
  have eF : faultV s 1 = .iface 83 (.agg #[.int .i64 s, .int .i64 1]) := if_neg (by decide)
  rw [eF] at hak hnu
  clear eF
  go_enter Tryd.func11, Tryd.ntmps11
  go_wp2_with fail
  refine hak.out.mono ?_
  rintro e w1 ⟨rfl, hb1⟩
  clear hak
  go_wp2_with fail
  refine (hnu.out _ hb1).mono ?_
  rintro e w2 ⟨rfl, hb2⟩
  clear hnu
  go_wp2
  go_ret2
  exact ⟨rfl, gr hb1 hb2⟩
set_option maxRecDepth 100000 in
set_option maxHeartbeats 2000000 in
theorem Release_nil (s : Int) (w : World) (hE : Env w) : Calls Tryd.prog 13 #[.pointer none, .int .i64 s] w fun e w' => e = .returned (.tuple #[.slice none 0 0, .int .i64 1]) ∧ Below w.heap.size w w' := by
  have hat := Lib.hid (At_nil s w)
  have hnu := Lib.hid (fun W (hW : Below w.heap.size w W) => Number_any s 1 W (hE.below hW) (by decide))
  have his := Lib.hid (fun W => is_fault s 1 W (by decide))
  have eF : faultV s 1 = .iface 83 (.agg #[.int .i64 s, .int .i64 1]) := if_neg (by decide)
  rw [eF] at hnu
  clear eF
  go_enter Tryd.func13, Tryd.ntmps13
  go_wp2_with fail
  refine hat.out.mono ?_
  rintro e w1 ⟨rfl, hb1⟩
  clear hat
  go_wp2_with fail
  refine (his.out _).mono ?_
  rintro e w2 ⟨rfl, hb2⟩
  clear his
  go_wp2_with fail
  refine (hnu.out _ (gr hb1 hb2)).mono ?_
  rintro e w3 ⟨rfl, hb3⟩
  clear hnu
  go_wp2
  go_ret2
  exact ⟨rfl, gr (gr hb1 hb2) hb3⟩


set_option maxRecDepth 100000 in
theorem Of_nil (t : List UInt8) (w : World) :
    Calls Tryd.prog 19 #[.pointer none, .string (strL t)] w fun e w' => e = .returned (.func (.func 46) #[] #[.pointer (some ⟨w.heap.size + 1, 0, none⟩), .pointer (some ⟨w.heap.size, 0, none⟩)]) ∧
      w'.cell? ⟨w.heap.size + 1, 0, none⟩ = some (.slice none 0 0) ∧ w'.cell? ⟨w.heap.size, 0, none⟩ = some (.string (strL t)) ∧ Below w.heap.size w w' := by
  have hb0 : Below w.heap.size w (w.alloc (.cells #[.string (strL t)] 9)) := (Below.refl _ _).alloc (Nat.le_refl _) _
  have hb1 : Below w.heap.size w ((w.alloc (.cells #[.string (strL t)] 9)).alloc (.cells #[.slice none 0 0] 67)) := gr_alloc hb0 _
  have hbt : Boxed ((w.alloc (.cells #[.string (strL t)] 9)).alloc (.cells #[.slice none 0 0] 67)) w.heap.size 9 (.string (strL t)) := (Boxed.new w 9 (.string (strL t))).alloc _
  have hba : Boxed ((w.alloc (.cells #[.string (strL t)] 9)).alloc (.cells #[.slice none 0 0] 67)) (w.heap.size + 1) 67 (.slice none 0 0) := by
    have := Boxed.new (w.alloc (.cells #[.string (strL t)] 9)) 67 (.slice none 0 0)
    rw [World.size_alloc] at this
    exact this
  replace hb1 := Lib.hid hb1
  replace hba := Lib.hid hba
  replace hbt := Lib.hid hbt
  go_enter Tryd.func19, Tryd.ntmps19
  go_wp2
  go_ret
  exact ⟨rfl, hba.out.cell, hbt.out.cell, hb1.out⟩
set_option maxRecDepth 100000 in
theorem Tick_nil (w : World) : Calls Tryd.prog 14 #[.pointer none] w fun e w' => e = .returned (.tuple #[.slice none 0 0, .slice none 0 0]) ∧ Below w.heap.size w w' := by
  have hb0 : Below w.heap.size w (w.alloc (.cells #[.pointer none] 25)) := (Below.refl _ _).alloc (Nat.le_refl _) _
  have hb1 : Below w.heap.size w ((w.alloc (.cells #[.pointer none] 25)).alloc (.cells #[.slice none 0 0] 36)) := gr_alloc hb0 _
  have hbl : Boxed ((w.alloc (.cells #[.pointer none] 25)).alloc (.cells #[.slice none 0 0] 36)) w.heap.size 25 (.pointer none) := (Boxed.new w 25 (.pointer none)).alloc _
  have hbo : Boxed ((w.alloc (.cells #[.pointer none] 25)).alloc (.cells #[.slice none 0 0] 36)) (w.heap.size + 1) 36 (.slice none 0 0) := by
    have := Boxed.new (w.alloc (.cells #[.pointer none] 25)) 36 (.slice none 0 0)
    rw [World.size_alloc] at this
    exact this
  go_enter Tryd.func14, Tryd.ntmps14
  go_upto_region 1 with fail
  generalize ((w.alloc (.cells #[.pointer none] 25)).alloc (.cells #[.slice none 0 0] 36)) = w1 at *
  have cl := hbl.cell
  have co := hbo.cell
  have fo := hbo.frozen
  have c7 := (hbo.set (.slice none 0 0)).cell
  have hB := hb1.setCell (p := ⟨w.heap.size + 1, 0, none⟩) (Nat.le_succ _) (.slice none 0 0)
  clear hbl hbo
  replace hB := Lib.hid hB
  go_wp2
  refine bodyPost_ret (v := .tuple #[.slice none 0 0, .slice none 0 0]) ?_ rfl ?_
  · simp [results, Tryd.f14, go_sem, c7]
  · exact ⟨rfl, hB.out⟩


set_option maxRecDepth 100000 in
theorem Same_nil2 (w : World) : Calls Tryd.prog 23 #[.pointer none, .pointer none] w fun e w' => e = .returned (.bool true) ∧ w = w' := by
  go_enter Tryd.func23, Tryd.ntmps23
  go_wp2
  go_ret
  exact ⟨rfl, rfl⟩
set_option maxRecDepth 100000 in
theorem Same_nil1 (B : Nat) (w : World) : Calls Tryd.prog 23 #[.pointer none, .pointer (some ⟨B, 0, none⟩)] w fun e w' => e = .returned (.bool false) ∧ w = w' := by
  go_enter Tryd.func23, Tryd.ntmps23
  go_wp2
  go_ret
  exact ⟨rfl, rfl⟩
set_option maxRecDepth 100000 in
theorem Num_any (k : Int) (w : World) : Calls Tryd.prog 12 #[.int .i64 k] w fun e w' => e = .returned (.int .i64 k) ∧ w = w' := by
  go_enter Tryd.func12, Tryd.ntmps12
  go_wp2
  go_ret
  exact ⟨rfl, rfl⟩


theorem results_w1 {fn : Func} {s : Tmp} (h : fn.results = #[.cell s 64]) (tmps : Array Value) (w : World) {B : Nat} {u v : Value} (hs : tmps.getD s undef = .pointer (some ⟨B, 0, none⟩))
    (h0 : w.cell? ⟨B, 0, none⟩ = some u) (h1 : w.cell? ⟨B, 1, none⟩ = some v) :
    (results fn tmps).run Tryd.prog w = .ok (.agg #[u, v]) w := by
  rw [Array.getD_eq_getD_getElem?] at hs
  simp [results, h, hs, go_sem, h0, h1]
set_option maxRecDepth 100000 in
theorem Read_any (t : List UInt8) (w : World) : Calls Tryd.prog 26 #[.string (strL t)] w fun e w' => e = .returned (.agg #[.string (strL t), .bool false]) ∧ Below w.heap.size w w' := by
  have hb0 : Below w.heap.size w (w.alloc (.cells #[.string (strL t), .bool false] 64)) := (Below.refl _ _).alloc (Nat.le_refl _) _
  have c0 := (box_cells (World.alloc_heap_new w (.cells #[.string (strL t), .bool false] 64))).1
  replace hb0 := Lib.hid hb0
  replace c0 := Lib.hid c0
  go_enter Tryd.func26, Tryd.ntmps26
  go_wp2
  refine bodyPost_ret (results_w1 rfl _ _ rfl c0.out.1 c0.out.2) rfl ?_
  exact ⟨rfl, hb0.out⟩
set_option maxRecDepth 100000 in
theorem Write_any (t : List UInt8) (w : World) : Calls Tryd.prog 25 #[.string (strL t)] w fun e w' => e = .returned (.agg #[.string (strL t), .bool true]) ∧ Below w.heap.size w w' := by
  have hb0 : Below w.heap.size w (w.alloc (.cells #[.string (strL t), .bool true] 64)) := (Below.refl _ _).alloc (Nat.le_refl _) _
  have c0 := (box_cells (World.alloc_heap_new w (.cells #[.string (strL t), .bool true] 64))).1
  replace hb0 := Lib.hid hb0
  replace c0 := Lib.hid c0
  go_enter Tryd.func25, Tryd.ntmps25
  go_wp2
  refine bodyPost_ret (results_w1 rfl _ _ rfl c0.out.1 c0.out.2) rfl ?_
  exact ⟨rfl, hb0.out⟩
end Go.Proofs.YtnjhhibjcfjhnaaDoor
