/- The law's works: the chapter's rows. -/
import Derived.Test.YtnjhhibjcfjhnaaDoorActA
namespace Go.Proofs.YtnjhhibjcfjhnaaDoor
open Go.RowKit
set_option linter.unusedVariables false

theorem Env.lt {w : World} (h : Env w) : 0 < w.heap.size := World.block_lt_of_cell? _ _ h.et
theorem Env.belowB {w w' : World} {B : Nat} (h : Env w) (hl : 0 < B) (hb : Below B w w') : Env w' := ⟨(hb.cell (p := ⟨0, 0, none⟩) hl).trans h.et⟩
/-- Locks of the function's own, and all that lay ahead as it lay. -/
structure WS (w W : World) (B : Nat) (r : Option Nat) (now : Int) (zs : List Ak) : Prop where
  lb : LB W w.heap.size B r now zs
  env : Env W
  lt : 0 < w.heap.size
  bel : Below w.heap.size w W
section
variable {w W W' : World} {B : Nat} {r r' : Option Nat} {now now' : Int} {zs zs' : List Ak}
theorem WS.more (h : WS w W B r now zs) (hb : Below W.heap.size W W') : WS w W' B r now zs := ⟨h.lb.below hb, h.env.below hb, h.lt, gr h.bel hb⟩
theorem WS.step (h : WS w W B r now zs) (hk : Kb W W' B r) (hl : LB W' w.heap.size B r' now' zs') : WS w W' B r' now' zs' :=
  ⟨hl, h.env.belowB h.lt (hk.toBase h.lb), h.lt, h.bel.trans (hk.toBase h.lb)⟩
theorem WS.ask (h : WS w W B r now zs) (hz : IZ zs) (s wait : Int) (first : Bool) (ws : List Wt) (k : Nat) (hk : k = ws.length) (hm : k ≤ 100000) (cs : Array Value) (hcs : cs = (wcells ws).toArray) {b : Bool} {e : Int} (hf : askF now s wait first ws zs = (zs', b, e)) :
    Calls Tryd.prog 11 #[.pointer (some ⟨B, 0, none⟩), .int .i64 s, .bool first, .int .i64 wait, .slice (some ⟨W.heap.size, 0, none⟩) k k] (W.alloc (.cells cs 64)) fun o w' =>
      o = .returned (.tuple #[.bool b, .int .i64 e]) ∧ ∃ r', WS w w' B r' now zs' := by
  subst hk hcs
  have hS := h.more ((Below.refl _ W).alloc (Nat.le_refl _) (.cells (wcells ws).toArray 64))
  have hr := Rv.lit (w := W) 64 2 (wcells ws) ws.length (wcells_length ws) (by unfold maxLen; omega)
  have := Ask_B hS.lb hS.env hz s wait first _ _ _ ws hr hm
  rw [hf] at this
  refine this.mono ?_
  rintro o w' ⟨rfl, r', hl, -, hk⟩
  exact ⟨rfl, r', hS.step hk hl⟩
theorem WS.rel (h : WS w W B r now zs) (hz : IZ zs) (s : Int) {is : List Int} {e : Int} (hf : relF s zs = (zs', is, e)) :
    Calls Tryd.prog 13 #[.pointer (some ⟨B, 0, none⟩), .int .i64 s] W fun o w' =>
      ∃ R m d, o = .returned (.tuple #[.slice R m d, .int .i64 e]) ∧ Ov w' w.heap.size 3 1 R m d (icells is) ∧ m = is.length ∧ ∃ r', WS w w' B r' now zs' ∧ ∀ base' e' size n c A us, e' ≠ 69 → e' ≠ 74 → Ov W base' e' size A n c us → Ov w' base' e' size A n c us := by
  have := Rel_B h.lb h.env hz s
  rw [hf] at this
  refine this.mono ?_
  rintro o w' ⟨R, m, d, rfl, hR, r', hl, -, hk⟩
  refine ⟨R, m, d, rfl, hR, ?_, r', h.step hk hl, fun base' e' size n c A us h1 h2 hO => ?_⟩
  · have := hR.1
    rw [icells_length] at this
    simp only at this
    omega
  · obtain ⟨A', n', c', xs', h', hr, -⟩ := h.lb
    subst hr
    exact hO.kb hk (h'.apart hO h1 h2)
end
def wT : Wt := ⟨[116], true⟩
def rT : Wt := ⟨[116], false⟩
def rU : Wt := ⟨[117], false⟩
def wU : Wt := ⟨[117], true⟩
def k1 (h : Bool) : Ak := ⟨1, 0, 5, false, h, [wT], none, 0, 0⟩
def k2 (h : Bool) : Ak := ⟨2, 0, 5, false, h, [rT], none, 0, 0⟩
def k3 (h : Bool) : Ak := ⟨3, 0, 5, false, h, [rU], none, 0, 0⟩
def k4 (h : Bool) : Ak := ⟨4, 0, 5, true, h, [wT, wU], none, 0, 0⟩
def k5 (h : Bool) : Ak := ⟨5, 0, 1, false, h, [wT], none, 0, 0⟩
theorem iz_of {zs : List Ak} (h : (decide (zs.map (·.s)).Nodup && zs.all fun x => thereK x.s && (decide (0 ≤ x.since) && (decide (x.since ≤ 1000000) && (decide (0 ≤ x.wait) && (decide (x.wait ≤ 1000000) && decide (x.W.length ≤ 8)))))) = true) : IZ zs := by
  simp only [Bool.and_eq_true, decide_eq_true_eq, List.all_eq_true] at h
  exact ⟨h.1, fun x hx => (h.2 x hx).1, fun x hx => ⟨(h.2 x hx).2.1, (h.2 x hx).2.2.1, (h.2 x hx).2.2.2.1, (h.2 x hx).2.2.2.2.1⟩, fun x hx => (h.2 x hx).2.2.2.2.2⟩
theorem st1 : askF 0 1 5 false [wT] [] = ([k1 true], true, 0) := by kernel_rfl
theorem st2 : askF 0 2 5 false [rT] [k1 true] = ([k1 true, k2 false], false, 0) := by kernel_rfl
theorem st3 : askF 0 3 5 false [rU] [k1 true, k2 false] = ([k1 true, k3 true, k2 false], true, 0) := by kernel_rfl
theorem st4 : askF 0 4 5 true [wT, wU] [k1 true, k3 true, k2 false] = ([k1 true, k3 true, k4 false, k2 false], false, 0) := by kernel_rfl
theorem st5 : relF 1 [k1 true, k3 true, k4 false, k2 false] = ([k3 true, k4 false, k2 false], [], 0) := by kernel_rfl
theorem st6 : relF 3 [k3 true, k4 false, k2 false] = ([k4 true, k2 false], [4], 0) := by kernel_rfl
theorem st7 : relF 4 [k4 true, k2 false] = ([k2 true], [2], 0) := by kernel_rfl
theorem st8 : askF 0 5 1 false [wT] [k2 true] = ([k2 true, k5 false], false, 0) := by kernel_rfl
theorem st9 : tickF 0 [k2 true, k5 false] = ([k2 true], [5], []) := by kernel_rfl
theorem iz1 : IZ [k1 true] := iz_of (by kernel_rfl)
theorem iz2 : IZ [k1 true, k2 false] := iz_of (by kernel_rfl)
theorem iz3 : IZ [k1 true, k3 true, k2 false] := iz_of (by kernel_rfl)
theorem iz4 : IZ [k1 true, k3 true, k4 false, k2 false] := iz_of (by kernel_rfl)
theorem iz5 : IZ [k3 true, k4 false, k2 false] := iz_of (by kernel_rfl)
theorem iz6 : IZ [k4 true, k2 false] := iz_of (by kernel_rfl)
theorem iz7 : IZ [k2 true] := iz_of (by kernel_rfl)
theorem iz8 : IZ [k2 true, k5 false] := iz_of (by kernel_rfl)
theorem Ints_lit {W : World} {R : Option Addr} {m d : Nat} {is : List Int} (k : Int) (hO : Rv W 1 R m d (icells is)) :
    Calls Tryd.prog 27 #[.slice R m d, .slice (some ⟨W.heap.size, 0, none⟩) 1 1] (W.alloc (.cells #[.int .i64 k] 3)) fun e w' => e = .returned (.bool (decide (is = [k]))) ∧ Below W.heap.size W w' := by
  have hb : Below W.heap.size W (W.alloc (.cells #[.int .i64 k] 3)) := (Below.refl _ _).alloc (Nat.le_refl _) _
  refine (RInts_any R m d is _ 1 1 [k] _ (hO.below hb) (Rv.lit (w := W) 3 1 [.int .i64 k] 1 rfl (by decide))).mono ?_
  rintro e w' ⟨rfl, hb'⟩
  exact ⟨rfl, gr hb hb'⟩
theorem WS.tick {w W : World} {B : Nat} {r : Option Nat} {now : Int} {zs zs' : List Ak} (h : WS w W B r now zs) (hz : IZ zs) (h0 : 0 ≤ now) (h1 : now < 1000000) {is js : List Int} (hf : tickF now zs = (zs', is, js)) :
    Calls Tryd.prog 14 #[.pointer (some ⟨B, 0, none⟩)] W fun o w' =>
      ∃ R m d R2 m2 d2, o = .returned (.tuple #[.slice R m d, .slice R2 m2 d2]) ∧ Rv w' 1 R m d (icells is) ∧ m = is.length ∧ m2 = js.length ∧ ∃ r', WS w w' B r' (now + 1) zs' := by
  have := Tick_B h.lb hz h0 h1
  rw [hf] at this
  refine this.mono ?_
  rintro o w' ⟨R, m, d, R2, m2, d2, rfl, hR, hR2, r', hl, -, hk⟩
  have h1 := hR.1
  have h2 := hR2.1
  rw [icells_length] at h1 h2
  exact ⟨R, m, d, R2, m2, d2, rfl, hR, by simpa using h1.symm, by simpa using h2.symm, r', h.step hk hl⟩
set_option maxRecDepth 100000 in
set_option maxHeartbeats 8000000 in
theorem Works_any (w : World) (hE : Env w) : Calls Tryd.prog 8 #[] w fun e w' => e = .returned (.bool true) ∧ Below w.heap.size w w' := by
  have hnum := Lib.hid (fun k W => Num_any k W)
  go_enter Tryd.func8, Tryd.ntmps8
  go_wp2_with fail
  refine (New_B w).mono ?_
  rintro e w1 ⟨rfl, hl1, hb1⟩
  have hS : WS w w1 w.heap.size none 0 [] := ⟨hl1, hE.below hb1, hE.lt, hb1⟩
  clear hl1 hb1
  generalize w.heap.size = B at hS ⊢
  go_wp2_with fail
  refine (Write_any [116] _).mono ?_
  rintro e w2 ⟨rfl, hb2⟩
  replace hS := hS.more hb2
  clear hb2
  go_wp2_with fail
  refine (hS.ask IZ.nil 1 5 false [wT] 1 rfl (by decide) _ rfl st1).mono ?_
  rintro e w3 ⟨rfl, r', hS1⟩
  clear hS
  go_wp2_with fail
  refine (Read_any [116] _).mono ?_
  rintro e w2 ⟨rfl, hb2⟩
  replace hS1 := hS1.more hb2
  clear hb2
  go_wp2_with fail
  refine (hS1.ask iz1 2 5 false [rT] 1 rfl (by decide) _ rfl st2).mono ?_
  rintro e w3 ⟨rfl, r', hS2⟩
  clear hS1
  go_wp2_with fail
  refine (Read_any [117] _).mono ?_
  rintro e w2 ⟨rfl, hb2⟩
  replace hS2 := hS2.more hb2
  clear hb2
  go_wp2_with fail
  refine (hS2.ask iz2 3 5 false [rU] 1 rfl (by decide) _ rfl st3).mono ?_
  rintro e w3 ⟨rfl, r', hS3⟩
  clear hS2
  go_wp2_with fail
  refine (Write_any [116] _).mono ?_
  rintro e w2 ⟨rfl, hb2⟩
  replace hS3 := hS3.more hb2
  clear hb2
  go_wp2_with fail
  refine (Write_any [117] _).mono ?_
  rintro e w4 ⟨rfl, hb2⟩
  replace hS3 := hS3.more hb2
  clear hb2
  go_wp2_with fail
  refine (hS3.ask iz3 4 5 true [wT, wU] 2 rfl (by decide) _ rfl st4).mono ?_
  rintro e w5 ⟨rfl, r', hS4⟩
  clear hS3
  go_wp2_with (go_at_call 12; refine (hnum.out _ _).mono ?_; rintro e w1 ⟨rfl, rfl⟩)
  refine (hS4.rel iz4 1 st5).mono ?_
  rintro e w6 ⟨R1, m1, d1, rfl, hR1, hm1, r', hS5, -⟩
  clear hS4
  go_wp2_with fail
  refine (hS5.rel iz5 3 st6).mono ?_
  rintro e w7 ⟨R2, m2, d2, rfl, hR2, hm2, r', hS6, -⟩
  clear hS5
  go_wp2_with fail
  refine (hS6.rel iz6 4 st7).mono ?_
  rintro e w8 ⟨R3, m3, d3, rfl, hR3, hm3, r', hS7, hk⟩
  replace hR2 := hk _ _ _ _ _ _ _ (by decide) (by decide) hR2
  clear hS6 hk hR1
  simp only [List.length_cons, List.length_nil] at hm1 hm2 hm3
  subst hm1 hm2 hm3
  go_wp2_with (go_at_call 12; refine (hnum.out _ _).mono ?_; rintro e w1 ⟨rfl, rfl⟩)
  simp only [Nat.zero_add] at hR2 hR3
  refine (Ints_lit 4 hR2.rv).mono ?_
  rintro e w9 ⟨rfl, hb9⟩
  replace hS7 := hS7.more hb9
  replace hR3 := hR3.below hb9
  clear hR2 hb9
  go_wp2_with fail
  refine (Ints_lit 2 hR3.rv).mono ?_
  rintro e w10 ⟨rfl, hb9⟩
  replace hS7 := hS7.more hb9
  clear hR3 hb9
  go_wp2_with fail
  refine (Write_any [116] _).mono ?_
  rintro e w2 ⟨rfl, hb2⟩
  replace hS7 := hS7.more hb2
  clear hb2
  go_wp2_with fail
  refine (hS7.ask iz7 5 1 false [wT] 1 rfl (by decide) _ rfl st8).mono ?_
  rintro e w3 ⟨rfl, r', hS8⟩
  clear hS7
  go_wp2_with fail
  refine (hS8.tick iz8 (by decide) (by decide) st9).mono ?_
  rintro e w11 ⟨R4, m4, d4, R5, m5, d5, rfl, hR4, hm4, hm5, r', hS9⟩
  clear hS8
  simp only [List.length_cons, List.length_nil, Nat.zero_add] at hm4 hm5
  subst hm4 hm5
  go_wp2_with (go_at_call 12; refine (hnum.out _ _).mono ?_; rintro e w1 ⟨rfl, rfl⟩)
  refine (Ints_lit 5 hR4).mono ?_
  rintro e w12 ⟨rfl, hb9⟩
  replace hS9 := hS9.more hb9
  clear hR4 hb9
  go_wp2_with fail
  refine (Now_B hS9.lb).mono ?_
  rintro e w13 ⟨rfl, rfl⟩
  have hb := Lib.hid hS9.bel
  clear hS9
  go_wp2
  go_ret
  exact ⟨rfl, hb.out⟩
end Go.Proofs.YtnjhhibjcfjhnaaDoor
