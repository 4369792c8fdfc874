/- Locks: Of, the asks that want a table, as an iterator. -/
import Derived.RangeFuncFrom
import Derived.RangeFuncBound
import Derived.RangeFuncCalls
import Derived.RangeFuncLeaves
import Derived.Shelf.Abstract
import Derived.Shelf.RegionOpen
import Derived.OwnWalkIn
import Derived.TacticsInMore
import Derived.LoopNIn
import Derived.LoopIn
import Derived.Scope
import Derived.RangeFuncNested
import Derived.RangeFuncBox
import Derived.Test.YtnjhhibjcfjhnaaDoorLkN
import Derived.Test.YtnjhhibjcfjhnaaDoorRange
namespace Go.Proofs.YtnjhhibjcfjhnaaDoor
open Go.RowKit Go.Shelf
set_option linter.unusedVariables false

def ofW (t : List UInt8) (s : Int) (ws : List Wt) : List (Int × Wt) := (ws.filter fun w => decide (w.t = t)).map fun w => (s, w)
def ofK (t : List UInt8) : List Ak → List (Int × Wt)
  | [] => []
  | a :: r => ofW t a.s a.W ++ ofK t r
/-- How the iterator hands over a session and a want. -/
def encO (p : Int × Wt) : Array Value := #[.int .i64 p.1, .agg #[.string (strL p.2.t), .bool p.2.wr]]
set_option maxRecDepth 100000 in
theorem Of_any {w : World} {base B : Nat} {now : Int} {A : Option Addr} {n c : Nat} {xs : List Ak} (h : LK w base B now A n c xs) (t : List UInt8) (hn : n ≤ 100000) :
    Calls Tryd.prog 19 #[.pointer (some ⟨B, 0, none⟩), .string (strL t)] w fun e w' => ∃ A' c', e = .returned (.func (.func 46) #[] #[.pointer (some ⟨w.heap.size + 1, 0, none⟩), .pointer (some ⟨w.heap.size, 0, none⟩)]) ∧
      w'.cell? ⟨w.heap.size + 1, 0, none⟩ = some (.slice A' n c') ∧ w'.cell? ⟨w.heap.size, 0, none⟩ = some (.string (strL t)) ∧ Rv w' 6 A' n c' (acells xs) ∧ Below w.heap.size w w' := by
  have hb0 : Below w.heap.size w (w.alloc (.cells #[.string (strL t)] 9)) := (Below.refl _ _).alloc (Nat.le_refl _) _
  have hb1 : Below w.heap.size w ((w.alloc (.cells #[.string (strL t)] 9)).alloc (.cells #[.slice none 0 0] 67)) := gr_alloc hb0 _
  have hbt : Boxed ((w.alloc (.cells #[.string (strL t)] 9)).alloc (.cells #[.slice none 0 0] 67)) w.heap.size 9 (.string (strL t)) := (Boxed.new w 9 (.string (strL t))).alloc _
  have hba : Boxed ((w.alloc (.cells #[.string (strL t)] 9)).alloc (.cells #[.slice none 0 0] 67)) (w.heap.size + 1) 67 (.slice none 0 0) := by
    have := Boxed.new (w.alloc (.cells #[.string (strL t)] 9)) 67 (.slice none 0 0)
    rw [World.size_alloc] at this
    exact this
  have h1 := h.below hb1
  have hcs := h1.cells
  have hcl := Lib.hid (CloneA_any A n c xs _ h1.own.rv hn)
  have hsz : ((w.alloc (.cells #[.string (strL t)] 9)).alloc (.cells #[.slice none 0 0] 67)).heap.size = w.heap.size + 2 := by simp
  clear h hb0
  go_enter Tryd.func19, Tryd.ntmps19
  go_wp2_with fail
  generalize ((w.alloc (.cells #[.string (strL t)] 9)).alloc (.cells #[.slice none 0 0] 67)) = w1 at *
  refine hcl.out.mono ?_
  rintro e w2 ⟨A2, c2, rfl, hO2, hb2⟩
  clear hcl
  have hba2 := box_in hba hb2
  have hbt2 := box_in hbt hb2
  have cA := hba2.cell
  have fA := hba2.frozen
  have hz := hb2.size
  go_wp2
  go_ret
  refine ⟨A2, c2, rfl, (hba2.set _).cell, (hbt2.kept (grownBy_setCell' _ _ _) (fun e => by injection e with e; omega)).cell, ?_, (hb1.trans (hb2.mono (by omega))).setCell (p := ⟨w.heap.size + 1, 0, none⟩) (by simp) _⟩
  exact hO2.rv.grown (grownBy_setCell' w2 (w.heap.size + 1) (.slice A2 n c2)) (fun b hb e => hO2.ne hba2 (by decide) (by rw [hb, e]))
theorem grown_of_belowO {w w' : World} (h : Below w.heap.size w w') : w.grownBy w' none := ⟨h.os, h.tape, h.output, h.size, fun k hk _ => h.block k hk⟩
/-- What the body of a range leaves: old blocks, and what the iterator has laid for itself. -/
def KpV (n R : Nat) (a b : World) : Prop := Below n a b ∧ ∀ k o, R ≤ k → a.heap[k]? = some o → o.isCells = true → b.heap[k]? = some o
theorem KpV.trans {n R : Nat} {a b c : World} (h : KpV n R a b) (k : KpV n R b c) : KpV n R a c := ⟨h.1.trans k.1, fun q o hq ho hc => k.2 q o hq (h.2 q o hq ho hc) hc⟩
theorem KpV.of_below {n R : Nat} {a b : World} (h : Below a.heap.size a b) (hn : n ≤ a.heap.size) : KpV n R a b := ⟨h.mono hn, fun q o hq ho hc => (h.block q (Array.getElem?_eq_some_iff.1 ho).1).trans ho⟩
theorem KpV.putObj {n R : Nat} {w : World} (hn : n ≤ w.heap.size) (W : World) (l : Nat) (o o' : Obj) (hl : w.heap.size ≤ l) (h : W.heap[l]? = some o) (h1 : o.isCells = false) (h2 : o.isWalk = false) : KpV n R W (W.putObj l o') :=
  ⟨belowK_b hn W l o o' hl h h1 h2, fun k q hk hq hc => by
    by_cases e : k = l
    · subst e
      rw [h] at hq
      injection hq with hq
      subst hq
      rw [h1] at hc
      cases hc
    · exact (World.putObj_heap_other e).trans hq⟩
theorem KpV.setCell {n R : Nat} {W : World} {b : Nat} (hb : n ≤ b) (hR : b < R) (j : Nat) (v : Value) : KpV n R W (W.setCell ⟨b, j, none⟩ v) :=
  ⟨(Below.refl _ _).setCell (p := ⟨b, j, none⟩) hb _, fun k o hk ho _ => (Below.heap_setCell _ _ _ k (by show k ≠ b; omega)).trans ho⟩
theorem ofW_cons (t : List UInt8) (s : Int) (x : Wt) (r : List Wt) : ofW t s (x :: r) = if x.t = t then (s, x) :: ofW t s r else ofW t s r := by
  unfold ofW
  by_cases h : x.t = t <;> simp [h]

attribute [local go_sem] Oper.semAt_some strL_toList
set_option maxRecDepth 100000 in
set_option maxHeartbeats 8000000 in
theorem Of1_stops (V : World) (Ba Bt : Nat) (t : List UInt8) {A : Option Addr} {n c : Nat} {xs : List Ak} (hA : V.cell? ⟨Ba, 0, none⟩ = some (.slice A n c)) (hT : V.cell? ⟨Bt, 0, none⟩ = some (.string (strL t))) (hr : Rv V 6 A n c (acells xs)) (ht : ∀ x ∈ xs, Rv V 2 x.A x.n x.c (wcells x.W)) (m : Nat) (w : World) (hw : Below V.heap.size V w) :
    SeqStopsK Fence.wide m Tryd.prog 46 #[.pointer (some ⟨Ba, 0, none⟩), .pointer (some ⟨Bt, 0, none⟩)] encO (KpV V.heap.size w.heap.size) (fun ys => ys = ofK t xs) (fun pre => pre <+: ofK t xs) (ofK t xs).length w := fun L J Jx W hW hJ hJx hY h0 => by
  have hAl := World.block_lt_of_cell? V _ hA
  have hTl := World.block_lt_of_cell? V _ hT
  have hxn : xs.length = n := by have := hr.1; rw [acells_length] at this; omega
  have hcx : c ≤ 9223372036854775807 := hr.2.2.1
  have hlx := hr.2.1
  have hVW := hw.trans (hW.mono hw.size)
  have hcA := (hVW.cell (p := ⟨Ba, 0, none⟩) hAl).trans hA
  have hWs := hW.size
  refine callsIn_of_wp Tryd.func46 rfl trivial ?_ rfl
  simp only [Tryd.ntmps46, List.size_toArray, List.length_cons, List.length_nil, Nat.reduceAdd, Nat.reduceSub, Array.replicate_succ, Array.replicate_zero, List.push_toArray, List.append_toArray, List.nil_append, List.cons_append]
  refine wpIn_wide.2 (wp_scope_straight (wpIn_wide (n := m).1 ?_))
  gi_wp2_with fail
  refine wpIn_label ?_
  gi_wp2_with fail
  clear hcA
  gi_loopw [10] (fun p wr => ∃ (pre : List (Int × Wt)) (i : Nat), p = .int .i64 (i : Int) ∧ i ≤ n ∧ ofK t xs = pre ++ ofK t (xs.drop i) ∧ J pre wr ∧ Below V.heap.size V wr ∧ w.heap.size ≤ wr.heap.size)
    (fun p wr => n - (intOf p).toNat)
  case atStart => exact ⟨[], 0, rfl, by omega, rfl, h0, hVW, hWs⟩
  case round =>
    obtain ⟨pre, i, rfl, hi, hxs, hJs, hbw, hsz⟩ := hrel
    by_cases hlt : i < n
    · have hd := List.drop_eq_getElem_cons (l := xs) (i := i) (by omega)
      obtain ⟨b1, o1, rfl, hb1, hc1⟩ := hr.2.2.2 (by omega)
      have e1 := acells_cell hc1 (fun o => hbw.cell (p := ⟨b1, o, none⟩) hb1) i (by omega)
      have htx := ht (xs[i]'(by omega)) (List.getElem_mem _)
      rw [hd] at hxs
      generalize xs[i]'(by omega) = x at *
      have hlt1 : (i : Int) < (n : Int) := by omega
      have hlt2 : decide ((i : Int) < (n : Int)) = true := by simp; omega
      have hba : Below wr.heap.size wr (wr.alloc (.cells x.cells.toArray 74)) := (Below.refl _ _).alloc (Nat.le_refl _) _
      have hka := KA.new wr x
      have hJ1 := hJ pre wr _ none hJs (grown_of_belowO hba) (fun r e => by cases e)
      have hbw1 := hbw.trans (hba.mono hbw.size)
      have hsz1 : w.heap.size ≤ (wr.alloc (.cells x.cells.toArray 74)).heap.size := by simp; omega
      have hkl := hka.lt
      have hbl : w.heap.size ≤ wr.heap.size := hsz
      clear hJs hba hc1 hd
      obtain ⟨x0, x1, x2, x3, x4, x5, x6, x7, x8⟩ := x
      have hxl : x5.length = x7 := by have := htx.1; rw [wcells_length] at this; simp only at this; omega
      have hcx2 : x8 ≤ 9223372036854775807 := htx.2.2.1
      have hlx2 : x7 ≤ x8 := htx.2.1
      simp only [Ak.cells] at e1 hka hJ1 hbw1 hsz1 hkl
      have hxs2 : ofK t xs = pre ++ (ofW t x0 x5 ++ ofK t (xs.drop (i + 1))) := hxs
      replace hxs2 := Lib.hid hxs2
      clear hxs
      gi_wp2_with fail
      generalize (wr.alloc (.cells #[.slice x6 x7 x8, .int .i64 x0, .int .i64 x1, .int .i64 x2, .bool x3, .bool x4] 74)) = wa at *
      clear e1
      obtain ⟨wo, hwo⟩ : ∃ wo, wo = wr := ⟨_, rfl⟩
      subst hwo
      gi_loopw [18] (fun p wr => ∃ (pre : List (Int × Wt)) (j : Nat), p = .int .i64 (j : Int) ∧ j ≤ x7 ∧ ofK t xs = pre ++ (ofW t x0 (x5.drop j) ++ ofK t (xs.drop (i + 1))) ∧ J pre wr ∧ Below V.heap.size V wr ∧ w.heap.size ≤ wr.heap.size ∧ KA wr wo.heap.size ⟨x0, x1, x2, x3, x4, x5, x6, x7, x8⟩)
        (fun p wr => x7 - (intOf p).toNat)
      case atStart => exact ⟨pre, 0, rfl, by omega, hxs2.out, hJ1, hbw1, hsz1, hka⟩
      case round =>
        clear hxs2 hJ1 hbw1 hsz1 hka hkl
        obtain ⟨pre, j, rfl, hj, hxs, hJs, hbw, hsz, hka⟩ := hrel
        by_cases hltj : j < x7
        · have hd := List.drop_eq_getElem_cons (l := x5) (i := j) (by omega)
          obtain ⟨b2, o2, hx6, hb2, hc2⟩ := htx.2.2.2 (show 0 < x7 by omega)
          replace hx6 : x6 = some ⟨b2, o2, none⟩ := hx6
          subst hx6
          have e2 := wcells_cell hc2 (fun o => hbw.cell (p := ⟨b2, o, none⟩) hb2) j (show j < x5.length by omega)
          rw [hd, ofW_cons] at hxs
          generalize x5[j]'(by omega) = y at *
          have hltj1 : (j : Int) < (x7 : Int) := by omega
          have hltj2 : decide ((j : Int) < (x7 : Int)) = true := by simp; omega
          have hba : Below wr.heap.size wr (wr.alloc (.cells y.cells.toArray 64)) := (Below.refl _ _).alloc (Nat.le_refl _) _
          have hJ1 := hJ pre wr _ none hJs (grown_of_belowO hba) (fun r e => by cases e)
          have hbw1 := hbw.trans (hba.mono hbw.size)
          have hsz1 : w.heap.size ≤ (wr.alloc (.cells y.cells.toArray 64)).heap.size := by simp; omega
          have hka1 := hka.below hba hka.lt
          have hcT := (hbw1.cell (p := ⟨Bt, 0, none⟩) hTl).trans hT
          have hkc := hka1.cells
          obtain ⟨y0, y1⟩ := y
          simp only [Wt.cells, KAc] at e2 hJ1 hbw1 hsz1 hka1 hcT hkc
          clear hJs hba hc2 hd hka hbw
          by_cases hq : y0 = t
          · subst hq
            simp only [if_true] at hxs
            have hb' : ((strL y0).toList == (strL y0).toList) = true := by simp
            obtain ⟨fn, tmps, assign, body, hy, hR⟩ := hY pre (x0, ⟨y0, y1⟩) _ hJ1 (by rw [hxs]; simp)
            dsimp only [encO] at hy
            have hxs2 : ofK y0 xs = (pre ++ [(x0, ⟨y0, y1⟩)]) ++ (ofW y0 x0 (x5.drop (j + 1)) ++ ofK y0 (xs.drop (i + 1))) := by rw [hxs]; simp
            replace hxs2 := Lib.hid hxs2
            clear hxs
            replace hka1 := Lib.hid hka1
            gi_wp2_with fail
            refine ⟨fun h => (by cases h), ?_⟩
            refine hR.mono ?_
            rintro e W3 (⟨rfl, hJ4, hk3⟩ | ⟨rfl, hJx3⟩)
            · have hz3 := hk3.1.size
              have hs3 : w.heap.size ≤ W3.heap.size := by
                have := (Array.getElem?_eq_some_iff.1 (hk3.2 _ _ hbl hka1.out rfl)).1
                omega
              gi_wp2
              exact ⟨⟨pre ++ [(x0, Wt.mk y0 y1)], j + 1, by simp, by omega, hxs2.out, hJ4, hbw1.trans hk3.1, hs3, hk3.2 _ _ hbl hka1.out rfl⟩, by simp [intOf]; omega⟩
            · gi_wp2
              simp only [Exit.noGoto]
              go_end0
              exact ⟨⟨_, rfl⟩, .inr ⟨pre ++ [(x0, Wt.mk y0 y1)], ⟨_, hxs2.out.symm⟩, hJx3⟩⟩
          · have hb' : (y0 == t) = false := beq_false_of_ne hq
            rw [if_neg hq] at hxs
            replace hxs := Lib.hid hxs
            replace hka1 := Lib.hid hka1
            gi_wp2
            refine ⟨fun _ h => (by cases h), ?_⟩
            gi_wp2
            exact ⟨⟨pre, j + 1, by simp, by omega, hxs.out, hJ1, hbw1, hsz1, hka1.out⟩, by simp [intOf]; omega⟩
        · obtain rfl : j = x7 := by omega
          have hltj2 : decide ((j : Int) < (j : Int)) = false := by simp
          rw [List.drop_of_length_le (by omega)] at hxs
          have hxs2 : ofK t xs = pre ++ ofK t (xs.drop (i + 1)) := by simpa [ofW] using hxs
          replace hxs2 := Lib.hid hxs2
          clear hxs
          gi_wp2
          exact ⟨⟨pre, i + 1, by simp, by omega, hxs2.out, hJs, hbw, hsz⟩, by simp [intOf]; omega⟩
    · obtain rfl : i = n := by omega
      have hlt2 : decide ((i : Int) < (i : Int)) = false := by simp
      rw [List.drop_of_length_le (by omega)] at hxs
      have hxs2 : ofK t xs = pre := by simpa [ofK] using hxs
      replace hxs2 := Lib.hid hxs2
      clear hxs
      gi_wp2
      simp only [Exit.noGoto]
      go_end0
      exact ⟨⟨_, rfl⟩, .inl ⟨pre, hxs2.out.symm, hJs⟩⟩
end Go.Proofs.YtnjhhibjcfjhnaaDoor
