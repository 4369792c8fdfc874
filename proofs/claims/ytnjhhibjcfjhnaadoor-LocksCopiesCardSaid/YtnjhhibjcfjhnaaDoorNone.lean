/- LocksNone: the walk. -/
import Derived.RangeFuncCalls
import Derived.TacticsInMore
import Derived.LoopNIn
import Derived.Scope
import Derived.Test.YtnjhhibjcfjhnaaDoorWorks
namespace Go.Proofs.YtnjhhibjcfjhnaaDoor
open Go.RowKit
set_option linter.unusedVariables false

theorem eql_func {P : Program} (t : TypeId) {a b : Array TypeId} {v : Bool} (ht : P.underlying t = some (.func a b v)) (f : Fn) (fs cs : Array Value) (w : World) : (binOp .eql t (.func f fs cs) .nilFunc).run P w = .ok (.bool false) w := by
  unfold binOp
  simp [go_sem]
  have : Op.maxDepth = 9999 + 1 := rfl
  rw [Op.equal, this, Op.equalIn]
  simp [go_sem, Sem.run_bind, run_underlying ht]
theorem Boxed.belowN {w w' : World} {B : Nat} {t : TypeId} {v : Value} (h : Boxed w B t v) (hb : Below w.heap.size w w') : Boxed w' B t v := box_in h hb
theorem box5 {w : World} {B : Nat} {u0 u1 u2 u3 u4 : Value} {t : TypeId} (h : w.heap[B]? = some (.cells #[u0, u1, u2, u3, u4] t (0, 0))) : w.cell? ⟨B, 0, none⟩ = some u0 ∧ w.cell? ⟨B, 1, none⟩ = some u1 ∧ w.cell? ⟨B, 2, none⟩ = some u2 ∧ w.cell? ⟨B, 3, none⟩ = some u3 ∧ w.cell? ⟨B, 4, none⟩ = some u4 := by
  simp [World.cell?, h]
/-- A range over an iterator that hands over nothing. -/
theorem wp_rangeFunc_none {α : Type} {P : Program} {g : Operand} {ps : Array Tmp} {body : Code} {Q : Exit → Act → World → Prop} {a : Act} {w : World} {gf : Nat} {lb : Array Value} {encs : α → Array Value}
    (hg : a.eval g = .func (.func gf) #[] lb) (eg : ∀ args w, (callFunc gf args).run P w = .ok (.enter gf args) w) (hps : ∀ x, (encs x).size = ps.size)
    (hseq : SeqStopsK Fence.wide 8 P gf lb encs (KpV w.heap.size w.heap.size) (fun ys => ys = []) (fun pre => pre <+: []) 0 w)
    (hend : ∀ (D : Nat) (W : World), w.heap.size ≤ D → Below w.heap.size w W → W.heap[D]? = some (.deferred (some [])) → Q .normal { a with defers := { target := .collected D, args := #[] } :: a.defers } W) :
    (Code.rangeFunc g ps .skip body).wp P Q a w :=
  wpIn_wide (n := 9).1 (wpIn_rangeFunc_ownF rfl (by decide) hg trivial eg hseq KpV.trans (KpV.putObj (Nat.le_refl _)) (Below.refl _ _) hps (fun _ W => Below w.heap.size w W) (fun _ _ _ => False)
    (ownFrom_below (β := List α) (Nat.le_refl _) (Nat.le_refl _)) (fun _ _ _ _ _ h => h.elim) (Below.refl _ _) _ (fun l x W K h => wpIn_skip h) (fun l pre x W _ h => absurd h (Nat.not_lt_zero _))
    (fun D xs W h1 _ h3 h4 => hend D W h1 h3 h4) (fun D c pre W _ _ h => h.elim))
attribute [local go_sem] Oper.semAt_some strL_toList
set_option maxRecDepth 100000 in
set_option maxHeartbeats 4000000 in
theorem LocksNone_walk (x : Ac) (w : World) (hE : Env w) (hx : Rv w 2 x.A x.n x.c (wcells x.W)) :
    Calls Tryd.prog 5 #[.agg x.cells.toArray] w fun e w' => e = .returned (.bool true) ∧ Below w.heap.size w w' := by
  have hB := Boxed.new (w.alloc (.cells x.cells.toArray 31)) 4 (.bool false)
  rw [World.size_alloc] at hB
  have hb2 : Below w.heap.size w ((w.alloc (.cells x.cells.toArray 31)).alloc (.cells #[.bool false] 4)) := gr_alloc (gr_alloc (Below.refl _ _) _) _
  have k1 := ((Below.refl _ (w.alloc (.cells x.cells.toArray 31))).alloc (Nat.le_refl _) (.cells #[.bool false] 4)).block w.heap.size (by simp)
  rw [World.alloc_heap_new w] at k1
  have hz2 : w.heap.size + 2 ≤ ((w.alloc (.cells x.cells.toArray 31)).alloc (.cells #[.bool false] 4)).heap.size := by simp
  obtain ⟨x0, x1, x2, x3, x5, x6, x7, x8⟩ := x
  simp only [Ac.cells] at *
  refine callsIn_wide.1 (callsIn_of_wp_marks (n := 9) Tryd.func5 rfl trivial ?_ rfl)
  simp only [Tryd.ntmps5, List.size_toArray, List.length_cons, List.length_nil, Nat.reduceAdd, Nat.reduceSub, Array.replicate_succ, Array.replicate_zero, List.push_toArray, List.append_toArray, List.nil_append, List.cons_append]
  refine wpIn_wide.2 ?_
  go_upto_region 1 with fail
  generalize ((w.alloc (.cells [.int .i64 x0, .int .i64 x1, .int .i64 x2, .bool x3, .slice x6 x7 x8].toArray 31)).alloc (.cells #[.bool false] 4)) = w2 at *
  have hb3 : Below w2.heap.size w2 (w2.alloc (.cells #[.int .i64 x0, .int .i64 x1, .int .i64 x2, .bool x3, .slice x6 x7 x8] 31)) := (Below.refl _ _).alloc (Nat.le_refl _) _
  have hcv : Cv (w2.alloc (.cells #[.int .i64 x0, .int .i64 x1, .int .i64 x2, .bool x3, .slice x6 x7 x8] 31)) (some ⟨w2.heap.size, 0, none⟩) 1 1 [⟨x0, x1, x2, x3, x5, x6, x7, x8⟩] :=
    ⟨Rv.lit (w := w2) 31 5 [.int .i64 x0, .int .i64 x1, .int .i64 x2, .bool x3, .slice x6 x7 x8] 1 rfl (by decide), fun y hy => by
      rw [List.mem_singleton.1 hy]
      exact (hx.below hb2).below hb3⟩
  have hfw := Lib.hid (Few_any _ _ _ _ 1 _ hcv (by decide))
  have cx := (box5 k1)
  clear hcv
  go_wp2_with fail
  refine hfw.out.mono ?_
  clear hfw
  have hb4 := gr hb2 hb3
  replace hB := box_in hB hb3
  replace k1 := (hb3.block w.heap.size (by omega)).trans k1
  have hz4 : w.heap.size + 2 < (w2.alloc (.cells #[.int .i64 x0, .int .i64 x1, .int .i64 x2, .bool x3, .slice x6 x7 x8] 31)).heap.size := by simp; omega
  clear cx hb3 hb2 hz2
  generalize (w2.alloc (.cells #[.int .i64 x0, .int .i64 x1, .int .i64 x2, .bool x3, .slice x6 x7 x8] 31)) = w4 at *
  rintro e w5 (⟨rfl, rfl⟩ | ⟨rfl, rfl, -, h12⟩)
  · have hw := Lib.hid (Works_any w4 (hE.below hb4))
    go_wp2_with fail
    refine hw.out.mono ?_
    rintro e w6 ⟨rfl, hb6⟩
    replace hB := box_in hB hb6
    have hb7 := gr hb4 hb6
    have cB := hB.cell
    have fB := hB.frozen
    have c1 := (hB.set (.bool true)).cell
    clear hw hb6
    go_wp2
    refine ⟨.bool true, ?_, rfl, hb7.setCell (p := ⟨w.heap.size + 1, 0, none⟩) (Nat.le_succ _) _⟩
    simp [results, Tryd.f5, go_sem, c1]
  · clear h12
    have hnum := Lib.hid (fun k W => Num_any k W)
    have hE4 := hE.below hb4
    have cx := box5 k1
    go_wp2_with fail
    refine (Ask_nil x1 x2 x3 (.slice x6 x7 x8) _ hE4).mono ?_
    rintro e w6 ⟨rfl, hb6⟩
    replace hE4 := hE4.below hb6
    replace hB := box_in hB hb6
    replace k1 := (hb6.block w.heap.size (by omega)).trans k1
    replace hb4 := gr hb4 hb6
    have hz6 := hb6.size
    clear cx hb6
    have cx := box5 k1
    go_wp2_with fail
    refine (Release_nil x1 _ hE4).mono ?_
    rintro e w7 ⟨rfl, hb6⟩
    replace hE4 := hE4.below hb6
    replace hB := box_in hB hb6
    replace k1 := (hb6.block w.heap.size (by omega)).trans k1
    replace hb4 := gr hb4 hb6
    have hz7 := hb6.size
    clear cx hb6
    have cx := box5 k1
    go_wp2_with fail
    refine (Tick_nil _).mono ?_
    rintro e w8 ⟨rfl, hb6⟩
    replace hE4 := hE4.below hb6
    replace hB := box_in hB hb6
    replace k1 := (hb6.block w.heap.size (by omega)).trans k1
    replace hb4 := gr hb4 hb6
    have hz8 := hb6.size
    clear cx hb6
    have cx := box5 k1
    go_wp2_with fail
    refine (Waits_nil x1 _).mono ?_
    rintro e w9 ⟨rfl, hb6⟩
    replace hE4 := hE4.below hb6
    replace hB := box_in hB hb6
    replace k1 := (hb6.block w.heap.size (by omega)).trans k1
    replace hb4 := gr hb4 hb6
    have hz9 := hb6.size
    clear cx hb6
    have cx := box5 k1
    go_wp2_with fail
    refine (Of_nil [116] _).mono ?_
    rintro e V ⟨rfl, hA, hT, hb6⟩
    replace hE4 := hE4.below hb6
    replace hB := box_in hB hb6
    replace k1 := (hb6.block w.heap.size (by omega)).trans k1
    replace hb4 := gr hb4 hb6
    have hzV := hb6.size
    have hlA := World.block_lt_of_cell? _ _ hA
    clear cx hb6
    have hEq := fun W => eql_func (P := Tryd.prog) 53 Tryd.underlying53 (.func 46) #[] #[.pointer (some ⟨w9.heap.size + 1, 0, none⟩), .pointer (some ⟨w9.heap.size, 0, none⟩)] W
    have hseq := Of1_stops V (w9.heap.size + 1) w9.heap.size [116] (xs := []) hA hT (Rv.nil _ _) (by simp) 8 V (Below.refl _ _)
    replace hseq := Lib.hid hseq
    clear hA hT
    go_wp2_with fail
    refine wp_rangeFunc_none rfl (enters_of Tryd.func46 (by kernel_rfl) rfl) (fun _ => rfl) hseq.out ?_
    intro D W hD hbW hD1
    have hE5 := hE4.below hbW
    replace hB := box_in hB hbW
    replace k1 := (hbW.block w.heap.size (by omega)).trans k1
    replace hb4 := gr hb4 hbW
    have hzW := hbW.size
    have hDl : D < W.heap.size := (Array.getElem?_eq_some_iff.1 hD1).1
    clear hseq hEq hbW hE4 hlA
    have cx := box5 k1
    go_wp2_with (go_at_call 12; refine (hnum.out _ _).mono ?_; rintro e w1 ⟨rfl, rfl⟩)
    refine (Wants_nil x1 _).mono ?_
    rintro e q1 ⟨rfl, hb6⟩
    replace hE5 := hE5.below hb6
    replace hB := box_in hB hb6
    replace k1 := (hb6.block w.heap.size (by omega)).trans k1
    replace hb4 := gr hb4 hb6
    replace hD1 := (hb6.block D (by omega)).trans hD1
    have hz_q1 := hb6.size
    clear cx hb6
    have cx := box5 k1
    go_wp2_with fail
    refine (Now_nil _).mono ?_
    rintro e q2 ⟨rfl, rfl⟩
    go_wp2_with fail
    refine (Held_nil x1 _).mono ?_
    rintro e q3 ⟨rfl, hb6⟩
    replace hE5 := hE5.below hb6
    replace hB := box_in hB hb6
    replace k1 := (hb6.block w.heap.size (by omega)).trans k1
    replace hb4 := gr hb4 hb6
    replace hD1 := (hb6.block D (by omega)).trans hD1
    have hz_q3 := hb6.size
    clear cx hb6
    have cx := box5 k1
    go_wp2_with fail
    refine (Copy_nil _).mono ?_
    rintro e q4 ⟨rfl, rfl⟩
    go_wp2_with fail
    refine (Same_nil2 _).mono ?_
    rintro e q5 ⟨rfl, rfl⟩
    go_wp2_with fail
    refine (New_B _).mono ?_
    rintro e q6 ⟨rfl, -, hb6⟩
    replace hE5 := hE5.below hb6
    replace hB := box_in hB hb6
    replace k1 := (hb6.block w.heap.size (by omega)).trans k1
    replace hb4 := gr hb4 hb6
    replace hD1 := (hb6.block D (by omega)).trans hD1
    have hz_q6 := hb6.size
    clear cx hb6
    have cx := box5 k1
    go_wp2_with fail
    refine (Same_nil1 _ _).mono ?_
    rintro e q7 ⟨rfl, rfl⟩
    go_wp2_with fail
    refine (Works_any _ hE5).mono ?_
    rintro e q8 ⟨rfl, hb6⟩
    replace hE5 := hE5.below hb6
    replace hB := box_in hB hb6
    replace k1 := (hb6.block w.heap.size (by omega)).trans k1
    replace hb4 := gr hb4 hb6
    replace hD1 := (hb6.block D (by omega)).trans hD1
    have hz_q8 := hb6.size
    clear cx hb6
    have cx := box5 k1
    have cB := hB.cell
    have fB := hB.frozen
    have c1 := (hB.set (.bool true)).cell
    clear hnum hE5 k1 cx
    go_wp2
    have k2 := (KeepsOthers.setCell q8 ⟨w.heap.size + 1, 0, none⟩ (.bool true)).same D _ hD1 rfl
    refine ⟨by simp, .inl ⟨_, _, rfl, run_takeDeferred k2, ?_⟩⟩
    have c2 := cell_kept c1 (grownBy_putObj' _ D (.deferred none)) (fun r e => by cases e; exact ⟨_, k2, rfl⟩)
    refine ⟨.bool true, ?_, rfl, (hb4.setCell (p := ⟨w.heap.size + 1, 0, none⟩) (by simp) _).trans (belowK_b (w := w) (Nat.le_refl _) _ D _ _ (by omega) k2 rfl rfl)⟩
    simp [results, Tryd.f5, go_sem, c2]
end Go.Proofs.YtnjhhibjcfjhnaaDoor
