/- slices.Chunk: what it hands over. -/
import Derived.RangeFuncFrom
import Derived.RangeFuncBound
import Derived.RangeFuncCalls
import Derived.RangeFuncLeaves
import Derived.RangeFuncNested
import Derived.Test.YtdgmhegcoogokaaDoorBox
import Derived.Shelf.Abstract
import Derived.Shelf.RegionOpen
import Derived.WalkKit
import Derived.OwnWalkIn
import Derived.TacticsInMore
import Derived.LoopNIn
import Derived.LoopIn
import Derived.Scope
import Derived.Test.YtdgmhegcoogokaaDoorSlice
import Derived.Test.YtdgmhegcoogokaaDoorReg
import Derived.Test.YtdgmhegcoogokaaDoorProg
import Derived.Test.YtdgmhegcoogokaaDoorRow
import Derived.Test.YtdgmhegcoogokaaDoorOctF
namespace Go.Proofs.YtdgmhegcoogokaaDoor
open Go.RowKit Go.Shelf
set_option linter.unusedVariables false

/-- The blocks from lo to hi lie as they lay. -/
def Rng (lo hi : Nat) (W W' : World) : Prop := W.heap.size ≤ W'.heap.size ∧ ∀ k, lo ≤ k → k < hi → W'.heap[k]? = W.heap[k]?
theorem Rng.refl (lo hi : Nat) (W : World) : Rng lo hi W W := ⟨Nat.le_refl _, fun _ _ _ => rfl⟩
theorem Rng.trans {lo hi : Nat} {A B C : World} (h : Rng lo hi A B) (k : Rng lo hi B C) : Rng lo hi A C := ⟨Nat.le_trans h.1 k.1, fun j h1 h2 => (k.2 j h1 h2).trans (h.2 j h1 h2)⟩
theorem Rng.of_below {lo hi : Nat} {W W' : World} (h : Below hi W W') : Rng lo hi W W' := ⟨h.size, fun k _ hk => h.block k hk⟩
theorem Rng.grown {lo hi : Nat} {W W' : World} {row : Option Nat} (hg : W.grownBy W' row) (hh : hi ≤ W.heap.size) (hr : ∀ r, row = some r → r < lo ∨ hi ≤ r) : Rng lo hi W W' :=
  ⟨hg.size, fun k h1 h2 => hg.block k (by omega) (fun e => by have := hr k e.symm; omega)⟩
theorem Rng.setCell {lo hi : Nat} (W : World) (b o : Nat) (v : Value) (h : b < lo ∨ hi ≤ b) : Rng lo hi W (W.setCell ⟨b, o, none⟩ v) :=
  ⟨(KeepsWalks.setCell W _ v).size, fun k h1 h2 => Below.heap_setCell _ _ _ k (fun e => by have : k = b := e; omega)⟩
theorem Rng.cell {lo hi : Nat} {W W' : World} (h : Rng lo hi W W') {b o : Nat} (h1 : lo ≤ b) (h2 : b < hi) : W'.cell? ⟨b, o, none⟩ = W.cell? ⟨b, o, none⟩ := by
  simp only [World.cell?, h.2 b h1 h2]
theorem Rng.own {β : Type} {lo hi H : Nat} (V : World) (hh : hi ≤ V.heap.size) (hH : hi ≤ H) : OwnFrom H (fun (_ : β) W => Rng lo hi V W) := fun _ _ _ _ hs hg hr =>
  hs.trans (Rng.grown hg (Nat.le_trans hh hs.1) (fun r e => .inr (by have := (hr r e).1; omega)))
theorem Rng.putObj {lo hi H : Nat} (hH : hi ≤ H) (W : World) (l : Nat) (o o' : Obj) (h : H ≤ l) (hl : W.heap[l]? = some o) (_ : o.isCells = false) (_ : o.isWalk = false) : Rng lo hi W (W.putObj l o') :=
  Rng.grown (grownBy_putObj' W l o') (by have := (Array.getElem?_eq_some_iff.1 hl).1; omega) (fun r e => by cases e; omega)

/-- Where the groups of eight begin. -/
def starts (n : Nat) : List Nat := (List.range ((n + 7) / 8)).map (8 * ·)
theorem starts_len (n : Nat) : (starts n).length = (n + 7) / 8 := by simp [starts]
theorem starts_at (n j : Nat) (h : j < (n + 7) / 8) : (starts n)[j]? = some (8 * j) := by simp [starts, h]

/-- How a group is handed over. -/
def encG (A : Option Addr) (n : Nat) (i : Nat) : Array Value := #[.slice (A.map (·.add i)) (min 8 (n - i)) (min 8 (n - i))]

theorem grown_of_below' {w w' : World} (h : Below w.heap.size w w') : w.grownBy w' none := ⟨h.os, h.tape, h.output, h.size, fun k hk _ => h.block k hk⟩

section
variable {P : Program} (t e : TypeId) (ht : P.underlying t = some (.slice e)) (he : (P.info? e).map (fun i => (i.zero, i.size, i.bytes)) = some (some (.int .u8 0), 1, 1))
include ht he
theorem run_slice_3 (A : Option Addr) (n c lo hi_ : Nat) (h : lo < hi_) (hh : hi_ ≤ n) (hn : n ≤ c) (w : World) :
    (Instr.slice t (.slice A n c) (some (.int .i64 (lo : Int))) (some (.int .i64 (hi_ : Int))) (some (.int .i64 (hi_ : Int)))).run P w = .ok (.slice (A.map (·.add lo)) (hi_ - lo) (hi_ - lo)) w := by
  obtain ⟨i, hi, hc⟩ := cells1 e he
  have h1 : hi_ ≤ c := by omega
  have h2 : lo ≤ hi_ := by omega
  have h3 : ¬ (hi_ - lo = 0) := by omega
  have h4 : ¬ (hi_ = lo) := by omega
  unfold Instr.slice Instr.sliceBounds Instr.sliceBound
  simp [Sem.run_bind, run_underlying ht, asIntOf, run_sizeOf w hi, hc, h1, h2, h4]
end

attribute [local go_sem] Oper.semAt_some

theorem Chunk_any (A : Option Addr) (n c : Nat) (w : World) :
    Calls Tryd.prog 73 #[.slice A n c, .int .i64 8] w fun e w' => e = .returned (.func (.func 82) #[] #[.pointer (some ⟨w.heap.size, 0, none⟩), .pointer (some ⟨w.heap.size + 1, 0, none⟩)]) ∧ w' = (w.alloc (.cells #[.slice A n c] 52)).alloc (.cells #[.int .i64 8] 3) := by
  go_enter Tryd.func73, Tryd.ntmps73
  go_wp2
  go_ret
  exact ⟨by simp, rfl⟩

set_option maxRecDepth 100000 in
set_option maxHeartbeats 2000000 in
theorem Chunk1_stops (V : World) (Bs Bn : Nat) (A : Option Addr) (n c : Nat) (l : List UInt8) (hB : V.cell? ⟨Bs, 0, none⟩ = some (.slice A n c)) (hN : V.cell? ⟨Bn, 0, none⟩ = some (.int .i64 8)) (hr : Rd V A n c l) (hn : n ≤ 4611686018427387904) (lo hi : Nat) (hl1 : lo ≤ Bs) (hl2 : lo ≤ Bn) (hh1 : Bs < hi) (hh2 : Bn < hi) (hhV : hi ≤ V.heap.size)
    (m : Nat) (w : World) (hw : Below V.heap.size V w) :
    SeqStopsK Fence.wide m Tryd.prog 82 #[.pointer (some ⟨Bs, 0, none⟩), .pointer (some ⟨Bn, 0, none⟩)] (encG A n) (Rng lo hi) (fun ys => ys = starts n) (fun pre => pre <+: starts n) (starts n).length w := fun L J Jx W hW hJ hJx hY h0 => by
  have hlen := hr.len
  have hcap := hr.cap
  have hle := hr.le
  have hBl : Bs < V.heap.size := World.block_lt_of_cell? V _ hB
  have hNl : Bn < V.heap.size := World.block_lt_of_cell? V _ hN
  refine callsIn_of_wp Tryd.func82 rfl trivial ?_ rfl
  simp only [Tryd.ntmps82, List.size_toArray, List.length_cons, List.length_nil, Nat.reduceAdd, Nat.reduceSub, Array.replicate_succ, Array.replicate_zero, List.push_toArray, List.append_toArray, List.nil_append, List.cons_append]
  gi_wp2
  gi_loopw [4] (fun p wr => ∃ (pre rest : List Nat) (j i : Nat), 8 * j = i ∧ p = .int .i64 (i : Int) ∧ j ≤ (n + 7) / 8 ∧ pre.length = j ∧ starts n = pre ++ rest ∧ J pre wr ∧ Rng lo hi V wr ∧ W.heap.size ≤ wr.heap.size)
    (fun p wr => n + 8 - (intOf p).toNat)
  case atStart => exact ⟨[], starts n, 0, 0, rfl, rfl, by omega, rfl, rfl, h0, Rng.of_below ((hw.trans (hW.mono hw.size)).mono hhV), Nat.le_refl _⟩
  case round =>
    obtain ⟨pre, rest, j, i, hij, rfl, hj, hpl, hst, hJs, hbw, hsz⟩ := hrel
    have hc := (hbw.cell (o := 0) hl1 hh1).trans hB
    have hcn := (hbw.cell (o := 0) hl2 hh2).trans hN
    by_cases hlt : i < n
    · have SA := fun w' => run_slice_lo (P := Tryd.prog) 52 5 Tryd.underlying52 info_u8 A n c i (by omega) hle w'
      obtain ⟨g, hg⟩ : ∃ g, min 8 (n - i) = g := ⟨_, rfl⟩
      have SB := fun w' => run_slice_3 (P := Tryd.prog) 52 5 Tryd.underlying52 info_u8 A n c i (i + g) (by omega) (by omega) hle w'
      have hti : ((i : Int) + (g : Int)).toNat - i = g := by omega
      rw [show i + g - i = g from by omega, Int.natCast_add] at SB
      have hmin : min (8 : Int) ((n - i : Nat) : Int) = (g : Int) := by omega
      gi_wp2_with fail
      refine wpIn_wide.2 ?_
      refine wp_region_noPanic ?_
      refine wp_region_held_drew (S := fun w' => w'.cell? ⟨Bs, 0, none⟩ = some (.slice A n c) ∧ w'.cell? ⟨Bn, 0, none⟩ = some (.int .i64 8)) (by kernel_rfl) ⟨hc, hcn⟩ (fun hHeld => ?_)
      refine wpAnyH_takeL (i := 0) (v := ?vhy1) rfl (by kernel_rfl) (by kernel_rfl) (by kernel_rfl) (fun _ _ _ h => h) (Or.inl ⟨by rfl, ?hy1⟩) (by assumption) ?rhy1
      case hy1 => ((intro w hSw; (try dsimp only at hSw); go_simp); try with_reducible rfl)
      try simp only [Act.put, List.setIfInBounds_toArray, List.set_cons_zero, List.set_cons_succ]
      refine wpAnyH_takeL (i := 1) (v := ?vhy2) rfl (by kernel_rfl) (by kernel_rfl) (by kernel_rfl) (fun _ _ _ h => h) (Or.inl ⟨by rfl, ?hy2⟩) (by assumption) ?rhy2
      case hy2 => ((intro w hSw; (try dsimp only at hSw); go_simp); try with_reducible rfl)
      try simp only [Act.put, List.setIfInBounds_toArray, List.set_cons_zero, List.set_cons_succ]
      refine wpAnyH_takeL (i := 2) (v := ?vhy3) rfl (by kernel_rfl) (by kernel_rfl) (by kernel_rfl) (fun _ _ _ h => h) (Or.inl ⟨by rfl, ?hy3⟩) (by assumption) ?rhy3
      case hy3 => ((intro w hSw; (try dsimp only at hSw); go_simp); try with_reducible rfl)
      try simp only [Act.put, List.setIfInBounds_toArray, List.set_cons_zero, List.set_cons_succ]
      refine wpAnyH_takeL (i := 3) (v := ?vhy4) rfl (by kernel_rfl) (by kernel_rfl) (by kernel_rfl) (fun _ _ _ h => h) (Or.inl ⟨by rfl, ?hy4⟩) (by assumption) ?rhy4
      case hy4 => ((intro w hSw; (try dsimp only at hSw); go_simp); try with_reducible rfl)
      try simp only [Act.put, List.setIfInBounds_toArray, List.set_cons_zero, List.set_cons_succ]
      refine wpAnyH_takeL (i := 4) (v := ?vhy5) rfl (by kernel_rfl) (by kernel_rfl) (by kernel_rfl) (fun _ _ _ h => h) (Or.inl ⟨by rfl, ?hy5⟩) (by assumption) ?rhy5
      case hy5 => ((intro w hSw; (try dsimp only at hSw); go_simp); try with_reducible rfl)
      try simp only [Act.put, List.setIfInBounds_toArray, List.set_cons_zero, List.set_cons_succ]
      refine wpAnyH_takeL (i := 5) (v := ?vhy6) rfl (by kernel_rfl) (by kernel_rfl) (by kernel_rfl) (fun _ _ _ h => h) (Or.inl ⟨by rfl, ?hy6⟩) (by assumption) ?rhy6
      case hy6 => ((intro w hSw; (try dsimp only at hSw); go_simp); try with_reducible rfl)
      try simp only [Act.put, List.setIfInBounds_toArray, List.set_cons_zero, List.set_cons_succ]
      refine wpAnyH_takeL (i := 6) (v := ?vhy7) rfl (by kernel_rfl) (by kernel_rfl) (by kernel_rfl) (fun _ _ _ h => h) (Or.inl ⟨by rfl, ?hy7⟩) (by assumption) ?rhy7
      case hy7 => ((intro w hSw; (try dsimp only at hSw); go_simp); try with_reducible rfl)
      try simp only [Act.put, List.setIfInBounds_toArray, List.set_cons_zero, List.set_cons_succ]
      refine wpAnyH_done (by kernel_rfl) ?_ _
      refine NoPanic.normal ?_
      have hb1 : Below wr.heap.size wr wr.drew := (Below.refl _ wr).drew
      have hJ1 := hJ pre wr wr.drew none hJs (grown_of_below' hb1) (fun r e => by cases e)
      have hrest : ∃ rest', rest = i :: rest' := by
        cases rest with
        | nil =>
          have h1 := congrArg List.length hst
          rw [starts_len, List.length_append] at h1
          simp at h1
          omega
        | cons y t =>
          have h1 := starts_at n j (by omega)
          rw [hst, List.getElem?_append_right (by omega), hpl] at h1
          simp at h1
          exact ⟨t, by rw [h1, hij]⟩
      obtain ⟨rest', rfl⟩ := hrest
      obtain ⟨fn, tmps, assign, body, hy, hR⟩ := hY pre i wr.drew hJ1 (by rw [hst]; simp)
      dsimp only [encG] at hy
      rw [hg] at hy
      gi_wp2
      refine ⟨fun h => (by cases h), ?_⟩
      refine hR.mono ?_
      rintro e W3 (⟨rfl, hJ3, hk3⟩ | ⟨rfl, hJx3⟩)
      · have hbw3 := (hbw.trans (Rng.of_below (hb1.mono (Nat.le_trans hhV hbw.1)))).trans hk3
        have hcn3 := (hbw3.cell (o := 0) hl2 hh2).trans hN
        gi_wp2
        refine ⟨⟨pre ++ [i], rest', j + 1, i + 8, by omega, by simp, by omega, by simp [hpl], by simp [hst], hJ3, hbw3, Nat.le_trans hsz (Nat.le_trans hb1.size hk3.1)⟩, by simp [intOf]; omega⟩
      · gi_wp2
        first | go_end0 | refine bodyPost_ret (results_none rfl _ _ _) rfl ?_
        exact ⟨⟨_, rfl⟩, .inr ⟨pre ++ [i], ⟨rest', by simp [hst]⟩, hJx3⟩⟩
    · gi_wp2_with fail
      go_end0
      refine ⟨⟨_, rfl⟩, .inl ⟨pre, ?_, hJs⟩⟩
      have : rest = [] := by
        have h1 := congrArg List.length hst
        rw [starts_len, List.length_append] at h1
        exact List.eq_nil_of_length_eq_zero (by omega)
      rw [hst, this, List.append_nil]
end Go.Proofs.YtdgmhegcoogokaaDoor
