/- value.Each: what it goes over, and its contract as an iterator. -/
import Derived.RangeFuncFrom
import Derived.RangeFuncBound
import Derived.RangeFuncCalls
import Derived.RangeFuncLeaves
import Derived.Shelf.Abstract
import Derived.Shelf.RegionOpen
import Derived.WalkKit
import Derived.OwnWalkIn
import Derived.TacticsInMore
import Derived.LoopNIn
import Derived.LoopIn
import Derived.Scope
import Derived.RangeFuncNested
import Derived.RangeFuncBox
import Derived.Test.YtcicmeggbkhniaaGreatDoorRowsP
import Derived.Test.YtcicmeggbkhniaaGreatDoorRange
namespace Go.Proofs.YtcicmeggbkhniaaGreatDoor
open Go.RowKit Go.Shelf
set_option linter.unusedVariables false

/-- Values with their places, from one on. -/
def numV : Nat → List Vl → List (Nat × Vl)
  | _, [] => []
  | k, x :: r => (k, x) :: numV (k + 1) r
theorem numV_length : ∀ (k : Nat) (l : List Vl), (numV k l).length = l.length
  | _, [] => rfl
  | k, x :: r => by simp [numV, numV_length (k + 1) r]
theorem numV_at : ∀ (k : Nat) (l : List Vl) (i : Nat) (h : i < (numV k l).length), (numV k l)[i] = (k + i, l[i]'(by rw [numV_length] at h; exact h))
  | _, [], i, h => by simp [numV] at h
  | k, x :: r, 0, h => rfl
  | k, x :: r, i + 1, h => by
    have := numV_at (k + 1) r i (by simpa [numV] using h)
    simp only [numV, List.getElem_cons_succ]
    rw [this, show k + 1 + i = k + (i + 1) from by omega]

/-- How the iterator hands over a value. -/
def encV (p : Nat × Vl) : Array Value := #[.int .i64 (p.1 : Int), p.2.val]
theorem VEach_any (s : ByteArray) (w : World) :
    Calls Tryz.prog 45 #[.string s] w fun e w' => e = .returned (.func (.func 74) #[] #[.pointer (some ⟨w.heap.size, 0, none⟩)]) ∧ w' = w.alloc (.cells #[.string s] 9) := by
  go_enter Tryz.func45, Tryz.ntmps45
  go_wp2
  go_ret
  exact ⟨rfl, rfl⟩
theorem grown_of_belowV {w w' : World} (h : Below w.heap.size w w') : w.grownBy w' none := ⟨h.os, h.tape, h.output, h.size, fun k hk _ => h.block k hk⟩
/-- The pieces of a text as the library lays them. -/
theorem splitB_eq (l : List UInt8) : (Lib.splitB (strL sepL) 0 (Lib.countB (strL l) (strL sepL)) (strL l)) = (Lib.split l sepL).map strL := by
  have e := Lib.splitB_data (strL sepL) 0 (Lib.countB (strL l) (strL sepL)) (strL l)
  have e2 := congrArg (List.map strL) e
  rw [List.map_map] at e2
  have e3 : (strL ∘ fun x : ByteArray => x.data.toList) = id := funext fun x => strL_of x
  rw [e3, List.map_id] at e2
  exact e2
theorem Split_any (l : List UInt8) (w : World) (hE : Env w) (hl : l.length ≤ 20000) : Calls Tryz.prog 75 #[.string (strL l), .string (strL sepL)] w fun e w' =>
    e = .returned (.slice (some ⟨w.heap.size, 0, none⟩) (Lib.split l sepL).length (Lib.split l sepL).length) ∧ w' = w.alloc (.cells ((Lib.split l sepL).map fun t => .string (strL t)).toArray 9) := by
  obtain ⟨m, hm⟩ := hE.max
  have h := Tryz.strings_Split (strL l) (strL sepL) m w (by rw [strL_size]; omega) hm (by decide)
  rw [splitB_eq, List.map_map] at h
  have e : Lib.countB (strL l) (strL sepL) + 1 = (Lib.split l sepL).length := (split_length l).symm
  rw [e] at h
  exact h

/-- What the body of a range leaves: old blocks, and what the iterator has laid for itself. -/
def KpV (n R : Nat) (a b : World) : Prop := Below n a b ∧ ∀ k o, R ≤ k → a.heap[k]? = some o → o.isCells = true → b.heap[k]? = some o
theorem KpV.trans {n R : Nat} {a b c : World} (h : KpV n R a b) (k : KpV n R b c) : KpV n R a c := ⟨h.1.trans k.1, fun q o hq ho hc => k.2 q o hq (h.2 q o hq ho hc) hc⟩
theorem KpV.of_below {n R : Nat} {a b : World} (h : Below a.heap.size a b) (hn : n ≤ a.heap.size) : KpV n R a b := ⟨h.mono hn, fun q o hq ho hc => (h.block q (Array.getElem?_eq_some_iff.1 ho).1).trans ho⟩
theorem KpV.putObj {n R : Nat} {w : World} (hn : n ≤ w.heap.size) (W : World) (l : Nat) (o o' : Obj) (hl : w.heap.size ≤ l) (h : W.heap[l]? = some o) (h1 : o.isCells = false) (h2 : o.isWalk = false) : KpV n R W (W.putObj l o') :=
  ⟨belowK_b hn W l o o' hl h h1 h2, fun k q hk hq hc => by
    by_cases e : k = l
    · subst e
      rw [h] at hq
      injection hq with hq
      subst hq
      rw [h1] at hc
      cases hc
    · exact (World.putObj_heap_other e).trans hq⟩
theorem KpV.setCell {n R : Nat} {W : World} {b : Nat} (hb : n ≤ b) (hR : b < R) (j : Nat) (v : Value) : KpV n R W (W.setCell ⟨b, j, none⟩ v) :=
  ⟨(Below.refl _ _).setCell (p := ⟨b, j, none⟩) hb _, fun k o hk ho _ => (Below.heap_setCell _ _ _ k (by show k ≠ b; omega)).trans ho⟩

attribute [local go_sem] Oper.semAt_some strL_toList
set_option maxRecDepth 100000 in
set_option maxHeartbeats 2000000 in
theorem EachV1_stops (V : World) (hE : Env V) (Bn : Nat) (l : List UInt8) (hB : V.cell? ⟨Bn, 0, none⟩ = some (.string (strL l))) (hl : l.length ≤ 20000) (m : Nat) (w : World) (hw : Below V.heap.size V w) :
    SeqStopsK Fence.wide m Tryz.prog 74 #[.pointer (some ⟨Bn, 0, none⟩)] encV (KpV V.heap.size w.heap.size) (fun ys => ys = numV 0 (partsV l)) (fun pre => pre <+: numV 0 (partsV l)) (numV 0 (partsV l)).length w := fun L J Jx W hW hJ hJx hY h0 => by
  have hBl : Bn < V.heap.size := World.block_lt_of_cell? V _ hB
  have hVW := hw.trans (hW.mono hw.size)
  have hcW := (hVW.cell (p := ⟨Bn, 0, none⟩) hBl).trans hB
  refine callsIn_of_wp Tryz.func74 rfl trivial ?_ rfl
  simp only [Tryz.ntmps74, List.size_toArray, List.length_cons, List.length_nil, Nat.reduceAdd, Nat.reduceSub, Array.replicate_succ, Array.replicate_zero, List.push_toArray, List.append_toArray, List.nil_append, List.cons_append]
  refine wpIn_wide.2 (wp_scope_straight (wpIn_wide (n := m).1 ?_))
  by_cases hnil : l = []
  · subst hnil
    gi_wp2
    simp only [Exit.noGoto]
    exact bodyPost_ret (results_none rfl _ _ _) rfl ⟨⟨_, rfl⟩, .inl ⟨[], rfl, h0⟩⟩
  have hne : (l == []) = false := by simpa using hnil
  have hP0 : partsV l = goV (Lib.split l sepL) := by unfold partsV; rw [if_neg hnil]
  have hpl := split_size l.length l (Nat.le_refl _)
  have hpc := piece_le l.length l (Nat.le_refl _)
  rw [hP0] at hY ⊢
  gi_wp2_with fail
  refine wpIn_label ?_
  gi_wp2_with fail
  refine ⟨trivial, fun h => (by cases h), callsIn_wide.2 ?_⟩
  refine (Split_any l W (hE.below hVW) hl).mono ?_
  rintro e W1 ⟨rfl, rfl⟩
  have hJ1 := hJ [] W (W.alloc (.cells ((Lib.split l sepL).map fun t => .string (strL t)).toArray 9)) none h0 (World.grownBy_alloc W _ none) (fun r e => by cases e)
  have hb1 : Below V.heap.size V (W.alloc (.cells ((Lib.split l sepL).map fun t => .string (strL t)).toArray 9)) := hVW.alloc hVW.size _
  have hob := World.alloc_heap_new W (.cells ((Lib.split l sepL).map fun t => .string (strL t)).toArray 9)
  have hcs : ∀ (X : World) (j : Nat) u, X.heap[W.heap.size]? = some (.cells ((Lib.split l sepL).map fun t => .string (strL t)).toArray 9) → ((Lib.split l sepL).map fun t => Value.string (strL t))[j]? = some u → X.cell? ⟨W.heap.size, j, none⟩ = some u := fun X j u hX h => by
    rw [World.cell?, hX]
    simpa using h
  generalize (W.alloc (.cells ((Lib.split l sepL).map fun t => .string (strL t)).toArray 9)) = W1 at *
  have hpbR := hW.size
  generalize W.heap.size = pb at *
  generalize hPd : Lib.split l sepL = P at *
  gi_wp2
  gi_loopw [12] (fun p wr => ∃ (pre : List (Nat × Vl)) (k : Nat), p = .int .i64 (k : Int) ∧ k ≤ P.length ∧ numV 0 (goV P) = pre ++ numV k (goV (P.drop k)) ∧ J pre wr ∧ Below V.heap.size V wr ∧ wr.heap[pb]? = some (.cells (P.map fun t => .string (strL t)).toArray 9))
    (fun p wr => P.length - (intOf p).toNat)
  case atStart => exact ⟨[], 0, rfl, by omega, rfl, hJ1, hb1, hob⟩
  case round =>
    obtain ⟨pre, k, rfl, hk, hxs, hJs, hbw, hbw1⟩ := hrel
    by_cases hlt : k < P.length
    · have hd := List.drop_eq_getElem_cons hlt
      have hc : wr.cell? ⟨pb, k, none⟩ = some (.string (strL P[k])) := hcs _ k _ hbw1 (by rw [List.getElem?_map, List.getElem?_eq_getElem hlt]; rfl)
      have htl := hpc P[k] (List.getElem_mem _)
      rw [hd] at hxs
      generalize P[k] = t at *
      have hlt1 : decide ((k : Int) < (P.length : Int)) = true := by simp; omega
      have hp := VParse_any t wr (hE.below hbw) (by omega)
      unfold ParsePost at hp
      have hgo : goV (t :: P.drop (k + 1)) = if (readT t).2 = 0 then (readT t).1 :: goV (P.drop (k + 1)) else [] := rfl
      rw [hgo] at hxs
      generalize (readT t).2 = no at *
      generalize (readT t).1 = x at *
      clear hgo hd
      replace hbw1 := Lib.hid hbw1
      replace hcs := Lib.hid hcs
      replace hob := Lib.hid hob
      gi_wp2_with fail
      refine ⟨trivial, fun h => (by cases h), callsIn_wide.2 ?_⟩
      refine hp.mono ?_
      rintro e W2 ⟨rfl, hb2⟩
      have hJ2 := hJ pre wr W2 none hJs (grown_of_belowV hb2) (fun r e => by cases e)
      have hbw2 := hbw.trans (hb2.mono hbw.size)
      have hbw3 := (hb2.block pb (Array.getElem?_eq_some_iff.1 hbw1.out).1).trans hbw1.out
      by_cases hz : no = 0
      · subst hz
        rw [if_pos rfl] at hxs
        have hyp := fun W1 h => hY pre (k, x) W1 h (by rw [hxs]; simp [numV])
        have hpx : ∃ q : Nat × Vl, q = (k, x) := ⟨_, rfl⟩
        obtain ⟨q, hq⟩ := hpx
        rw [show numV k (x :: goV (P.drop (k + 1))) = (k, x) :: numV (k + 1) (goV (P.drop (k + 1))) from rfl, ← hq] at hxs
        obtain ⟨xk, xi, xu, xs'⟩ := x
        simp only [Vl.val, valV]
        have hbA : Below W2.heap.size W2 (W2.alloc (.cells #[.int .i64 xk, .int .i64 xi, .int .u64 xu, .string (strL xs')] 25)) := (Below.refl _ W2).alloc (Nat.le_refl _) _
        have hJ3 := hJ pre W2 (W2.alloc (.cells #[.int .i64 xk, .int .i64 xi, .int .u64 xu, .string (strL xs')] 25)) none hJ2 (World.grownBy_alloc W2 _ none) (fun r e => by cases e)
        have hbw4 := hbw2.trans (hbA.mono hbw2.size)
        have hbw5 := (hbA.block pb (Array.getElem?_eq_some_iff.1 hbw3).1).trans hbw3
        obtain ⟨fn, tmps, assign, body, hy, hR⟩ := hyp _ hJ3
        rw [← hq] at hR
        dsimp only [encV, Vl.val, valV] at hy
        replace hbw3 := Lib.hid hbw3
        replace hbw5 := Lib.hid hbw5
        clear hp
        gi_wp2
        refine ⟨fun h => (by cases h), ?_⟩
        refine hR.mono ?_
        rintro e W3 (⟨rfl, hJ4, hk3⟩ | ⟨rfl, hJx3⟩)
        · gi_wp2
          exact ⟨⟨pre ++ [q], k + 1, by simp, by omega, by rw [hxs]; simp, hJ4, hbw4.trans hk3.1, hk3.2 pb _ hpbR hbw5.out rfl⟩, by simp [intOf]; omega⟩
        · gi_wp2
          simp only [Exit.noGoto]
          go_end0
          exact ⟨⟨_, rfl⟩, .inr ⟨pre ++ [q], ⟨numV (k + 1) (goV (P.drop (k + 1))), by rw [hPd, hxs]; simp⟩, hJx3⟩⟩
      · have hdn : ((no : Int) != 0) = true := by simp; omega
        obtain ⟨xk, xi, xu, xs'⟩ := x
        simp only [Vl.val, valV]
        have hJ3 := hJ pre W2 (W2.alloc (.cells #[.int .i64 xk, .int .i64 xi, .int .u64 xu, .string (strL xs')] 25)) none hJ2 (World.grownBy_alloc W2 _ none) (fun r e => by cases e)
        rw [if_neg hz] at hxs
        clear hp hbw3
        gi_wp2
        refine ⟨fun _ h => (by cases h), ?_⟩
        gi_wp2
        simp only [Exit.noGoto]
        go_end0
        exact ⟨⟨_, rfl⟩, .inl ⟨pre, by rw [hPd, hxs]; simp [numV], hJ3⟩⟩
    · obtain rfl : k = P.length := by omega
      have hlt1 : decide ((P.length : Int) < (P.length : Int)) = false := by simp
      rw [List.drop_length] at hxs
      gi_wp2
      simp only [Exit.noGoto]
      go_end0
      exact ⟨⟨_, rfl⟩, .inl ⟨pre, by rw [hPd, hxs]; simp [goV, numV], hJs⟩⟩

/-- A range over value.Each, whose value goes into a box of its own, in a block that the body breaks out of. -/
theorem wp_rangeFunc_brkN {P : Program} {g : Operand} {t1 t2 : Tmp} (s1 s2 : Nat) {assign body : Code} {k : Nat} {Q : Exit → Act → World → Prop} {a : Act} {w : World} {gf : Nat} {lb : Array Value}
    (hg : a.eval g = .func (.func gf) #[] lb) (eg : ∀ args w, (callFunc gf args).run P w = .ok (.enter gf args) w)
    {n₀ : Nat} {S Sp : List (Nat × Vl) → Prop} {N : Nat} (hseq : SeqStopsK Fence.wide 8 P gf lb encV (KpV n₀ w.heap.size) S Sp N w)
    (hn : n₀ ≤ w.heap.size)
    (I : List (Nat × Vl) → World → Prop) (Ix : Code → List (Nat × Vl) → World → Prop) (E : List (Nat × Vl) → World → Prop) (hI : OwnFrom w.heap.size I) (hIx : ∀ c, OwnFrom w.heap.size (Ix c)) (h0 : I [] w)
    (hIs : ∀ pre W, I pre W → w.heap.size ≤ W.heap.size)
    (hE1 : ∀ xs W, S xs → I xs W → E xs W) (hE2 : ∀ c xs W, Sp xs → Ix c xs W → c = .exit k ∧ E xs W)
    (hassign : ∀ (L : Nat) (x : Nat × Vl) (W : World) (K : Act → World → Prop), K { tmps := ((((a.tmps.setIfInBounds t1 (.int .i64 (x.1 : Int))).setIfInBounds t2 x.2.val).setIfInBounds s1 (.int .i64 (x.1 : Int))).setIfInBounds s2 (.pointer (some ⟨W.heap.size, 0, none⟩))), defers := [] } (W.alloc (.cells #[.int .i64 x.2.k, .int .i64 x.2.i, .int .u64 x.2.u, .string (strL x.2.s)] 25)) →
      assign.wpIn (Fence.wide.inRound L) 7 P (Exit.then K (fun _ _ _ => False)) { tmps := (a.tmps.setIfInBounds t1 (.int .i64 (x.1 : Int))).setIfInBounds t2 x.2.val, defers := [] } W)
    (hbody : ∀ (L : Nat) (pre : List (Nat × Vl)) (x : Nat × Vl) (Bv : Nat) (W : World), w.heap.size ≤ Bv → VBox W Bv x.2.k x.2.i x.2.u (strL x.2.s) → I pre W → pre.length < N → body.wpIn (Fence.wide.inRound L) 7 P (ownPostG w.heap.size (KpV n₀ w.heap.size) I Ix (pre ++ [x]) W) { tmps := ((((a.tmps.setIfInBounds t1 (.int .i64 (x.1 : Int))).setIfInBounds t2 x.2.val).setIfInBounds s1 (.int .i64 (x.1 : Int))).setIfInBounds s2 (.pointer (some ⟨Bv, 0, none⟩))), defers := [] } W)
    (hend : ∀ (D : Nat) (xs : List (Nat × Vl)) (W : World), w.heap.size ≤ D → E xs W → W.heap[D]? = some (.deferred (some [])) → Q .normal { a with defers := { target := .collected D, args := #[] } :: a.defers } W) :
    (Code.rangeFunc g #[t1, t2] assign body).wp P (Exit.inBlock k Q) a w := by
  refine wpIn_wide (n := 9).1 (wpIn_rangeFunc_ownH rfl (by decide) hg trivial eg hseq KpV.trans (KpV.putObj hn) (Below.refl _ _) (fun _ => rfl) I Ix hI hIx h0
    (fun x a' W => ∃ Bv, w.heap.size ≤ Bv ∧ VBox W Bv x.2.k x.2.i x.2.u (strL x.2.s) ∧ a' = { tmps := ((((a.tmps.setIfInBounds t1 (.int .i64 (x.1 : Int))).setIfInBounds t2 x.2.val).setIfInBounds s1 (.int .i64 (x.1 : Int))).setIfInBounds s2 (.pointer (some ⟨Bv, 0, none⟩))), defers := [] }) ?hAx ?ass ?bod ?don ?sto)
  case hAx =>
    intro p a' s X Y row hs hg hr
    obtain ⟨Bv, h1, h2, h3⟩ := hs
    refine ⟨Bv, h1, (hg.block _ h2.lt (fun e => ?_)).trans h2, h3⟩
    obtain ⟨o, ho, hc⟩ := (hr Bv e.symm).2
    unfold VBox at h2
    rw [h2] at ho
    injection ho with ho
    subst ho
    cases hc
  case ass =>
    intro m pre p W K hI1 hK
    have hWs := hIs pre W hI1
    have hb : Below W.heap.size W (W.alloc (.cells #[.int .i64 p.2.k, .int .i64 p.2.i, .int .u64 p.2.u, .string (strL p.2.s)] 25)) := (Below.refl _ W).alloc (Nat.le_refl _) _
    have h := hassign m p W K (hK _ _ ((KeepsOthers.alloc W _).from _) (KpV.of_below hb (Nat.le_trans hn hWs)) (hI pre W _ none hI1 (grown_of_belowV hb) (fun r e => by cases e)) ⟨W.heap.size, hWs, VBox.new W _ _ _ _, rfl⟩)
    simpa [encV] using h
  case bod =>
    rintro m pre p a' W hm hrec hI1 ⟨Bv, hBv, hvb, rfl⟩ hlt
    exact hbody m pre p Bv W hBv hvb hI1 hlt
  case don => exact fun D xs W h1 h2 h3 h4 => hend D xs W h1 (hE1 xs W h2 h3) h4
  case sto =>
    intro D c xs W h1 h2 h3 h4
    obtain ⟨rfl, h5⟩ := hE2 c xs W h2 h3
    refine wpIn_wide.2 (wp_exit ?_)
    simp only [Exit.inBlock]
    exact hend D xs W h1 h5 h4
end Go.Proofs.YtcicmeggbkhniaaGreatDoor
