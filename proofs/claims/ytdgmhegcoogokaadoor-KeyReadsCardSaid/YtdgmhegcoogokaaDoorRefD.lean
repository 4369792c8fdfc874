/- The reference's Decode. -/
import Derived.Test.YtdgmhegcoogokaaDoorRefL
import Derived.Test.YtdgmhegcoogokaaDoorKeyJ
import Derived.Test.YtdgmhegcoogokaaDoorKeyW
namespace Go.Proofs.YtdgmhegcoogokaaDoor
open Go.RowKit
set_option linter.unusedVariables false

theorem vcells_one (xs : List Vl) : ∀ u ∈ vcells xs, u.oneCell' = true := by
  intro u hu
  obtain ⟨x, _, hx⟩ := List.mem_flatMap.1 hu
  simp [Vl.cells] at hx
  rcases hx with rfl | rfl | rfl | rfl <;> rfl
theorem wpList_append_V {w : World} {ops : Array Oper} {rest : List Oper} {o : Oper} {a : Act} {Q : Exit → Act → World → Prop} (hgd : o.guard = none) (s x : Operand)
    (ho : o.op = .call { callee := .builtin .append, args := #[s, x], argTypes := #[22, 22] })
    (base : Nat) (A : Option Addr) (n c : Nat) (xs : List Vl) (hs : a.eval s = .slice A n c) (hown : Ov w base 42 4 A n c (vcells xs))
    (B : Option Addr) (m d : Nat) (ys : List Vl) (hx : a.eval x = .slice B m d) (hr : Rv w 4 B m d (vcells ys)) (hlen : n + m ≤ 100000) (hbase : base ≤ w.heap.size)
    (h : ∀ A' c' w', Ov w' base 42 4 A' (n + m) c' (vcells (xs ++ ys)) → w.grownBy w' (ab A) → (ab A' = ab A ∨ ab A' = some w.heap.size) → wpList Tryd.prog ops Q rest (a.put o.dst (.slice A' (n + m) c')) w') :
    wpList Tryd.prog ops Q (o :: rest) a w := by
  have hi := info_V
  obtain ⟨i, hi1, hi2, hi3, hi4⟩ : ∃ i, Tryd.prog.info? 42 = some i ∧ i.zero = some (.agg #[.int .i64 0, .int .i64 0, .int .u64 0, .string ByteArray.empty]) ∧ i.size = 4 ∧ i.bytes = 40 := by
    match h : Tryd.prog.info? 42 with
    | none => rw [h] at hi; cases hi
    | some i =>
      rw [h] at hi
      simp only [Option.map_some, Option.some.injEq, Prod.mk.injEq] at hi
      exact ⟨i, rfl, hi.1, hi.2.1, hi.2.2⟩
  refine wpList_append_v w hgd s x 22 ho 42 i _ 4 40 Tryd.underlying22 hi1 hi2 hi3 hi4 rfl (by decide) base A n c (vcells xs) hs hown B m d (vcells ys) hx hr (vcells_one ys) (by unfold maxLen; omega) (by omega) hbase ?_
  intro A' c' w' h2 h3 h4
  refine h A' c' w' ?_ h3 h4
  rw [show vcells (xs ++ ys) = vcells xs ++ vcells ys from by simp [vcells]]
  exact h2

theorem KChain.at_end {l : List UInt8} {xs : List (Place l)} (h : KChain l l.length xs) : xs = [] := by
  generalize hi : l.length = i at h
  cases h with
  | stop => rfl
  | more p rest hch =>
    have := p.step
    omega

attribute [local go_sem] strL_toList strL_size
set_option maxRecDepth 100000 in
set_option maxHeartbeats 2000000 in
theorem refDecode_any (l : List UInt8) (xs : List (Place l)) (hx : KChain l 0 xs) (w : World) (hl : l.length ≤ 3000) : Calls Tryd.prog 15 #[.string (strL l)] w (DecPost w (decV xs)) := by
  by_cases h2 : 2000 < l.length
  · have hd : decide ((2000 : Int) < (l.length : Int)) = true := by simp; omega
    have hN : decV xs = ([], 150) := by
      unfold decV
      rw [if_pos (.inr h2)]
    replace hN := Lib.hid hN
    go_enter Tryd.func15, Tryd.ntmps15
    go_wp2
    go_ret2
    unfold DecPost
    rw [hN.out]
    exact ⟨none, 0, 0, rfl, Ov.nil _ _ _ _, Below.refl _ _⟩
  have hd : decide ((2000 : Int) < (l.length : Int)) = false := by simp; omega
  go_enter Tryd.func15, Tryd.ntmps15
  go_wp2
  go_loopw [4, 5] (fun o p wr => ∃ (i : Nat) (pre rest : List (Place l)) (A : Option Addr) (c : Nat), p = .int .i64 (i : Int) ∧ i ≤ l.length ∧ o = .slice A pre.length c ∧ xs = pre ++ rest ∧ KChain l i rest ∧ pos pre = i ∧
      Ov wr w.heap.size 42 4 A pre.length c (vcells (pre.map Place.x)) ∧ Below w.heap.size w wr)
    (fun o p wr => l.length - (intOf p).toNat)
  case atStart => exact ⟨0, [], xs, none, 0, rfl, by omega, rfl, rfl, hx, rfl, Ov.nil _ _ _ _, Below.refl _ _⟩
  case round =>
    obtain ⟨i, pre, rest, A, c, rfl, hi, rfl, hpre, hch, hpos, hOv, hB⟩ := hrel
    by_cases hlt : i < l.length
    · have hsub := strL_hi l i
      rw [strL_size] at hsub
      have hil : pre.length ≤ 3000 := by
        have := hx.length (Nat.zero_le _)
        rw [hpre] at this
        simp at this
        omega
      go_wp2_with fail
      refine (Read_any (l.drop i) _ (by simp; omega)).mono ?_
      unfold ReadPV
      cases hch with
      | stop _ hno =>
        rintro e w1 ⟨rfl, hb1⟩
        have hr : rdV (l.drop i) = (zeroV, 0) := by unfold rdV; rw [hno]
        have hN : decV xs = ([], 150) := by
          have hne : pos xs ≠ l.length := by
            rw [hpre, List.append_nil]
            omega
          unfold decV
          rw [if_pos (.inl hne)]
        replace hN := Lib.hid hN
        rw [hr]
        unfold Vl.val valV zeroV
        go_wp2
        go_ret2
        unfold DecPost
        rw [hN.out]
        exact ⟨none, 0, 0, rfl, Ov.nil _ _ _ _, (gr hB hb1).alloc (gr hB hb1).size _⟩
      | more p rest hch =>
        rintro e w1 ⟨rfl, hb1⟩
        have hr : rdV (l.drop p.at_) = (p.x, p.k) := by unfold rdV; rw [p.reads]
        rw [hr]
        unfold Vl.val valV
        have hps := p.step
        have hk0 : ((p.k : Int) == 0) = false := by simp; omega
        have hBw : Below w.heap.size w w1 := gr hB hb1
        have hB1 : Below w.heap.size w (w1.alloc (.cells #[.int .i64 p.x.k, .int .i64 p.x.i, .int .u64 p.x.u, .string (strL p.x.s)] 42)) := hBw.alloc hBw.size _
        have hB2 : Below w.heap.size w ((w1.alloc (.cells #[.int .i64 p.x.k, .int .i64 p.x.i, .int .u64 p.x.u, .string (strL p.x.s)] 42)).alloc (.cells #[.int .i64 p.x.k, .int .i64 p.x.i, .int .u64 p.x.u, .string (strL p.x.s)] 42)) := hB1.alloc hB1.size _
        have hlit : Rv ((w1.alloc (.cells #[.int .i64 p.x.k, .int .i64 p.x.i, .int .u64 p.x.u, .string (strL p.x.s)] 42)).alloc (.cells #[.int .i64 p.x.k, .int .i64 p.x.i, .int .u64 p.x.u, .string (strL p.x.s)] 42)) 4 (some ⟨w1.heap.size + 1, 0, none⟩) 1 1 (vcells [p.x]) := by
          have h := lit_rv (w1.alloc (.cells #[.int .i64 p.x.k, .int .i64 p.x.i, .int .u64 p.x.u, .string (strL p.x.s)] 42)) 42 [p.x] (show 1 ≤ maxLen by decide)
          rw [World.size_alloc] at h
          exact h
        have hOv2 : Ov ((w1.alloc (.cells #[.int .i64 p.x.k, .int .i64 p.x.i, .int .u64 p.x.u, .string (strL p.x.s)] 42)).alloc (.cells #[.int .i64 p.x.k, .int .i64 p.x.i, .int .u64 p.x.u, .string (strL p.x.s)] 42)) w.heap.size 42 4 A pre.length c (vcells (pre.map Place.x)) := hOv.below (((hb1.alloc hb1.size _).alloc (by have := hb1.size; simp; omega) _))
        have hst : wrap64 ((p.at_ : Int) + (p.k : Int)) = (p.at_ : Int) + (p.k : Int) := by unfold wrap64; omega
        go_wp2_with (at_builtin; refine wpList_append_V rfl _ _ rfl w.heap.size A pre.length c (pre.map Place.x) rfl hOv2 _ 1 1 [p.x] rfl hlit (by omega) hB2.size ?_; intro A' c' w5 hOv5 hg5 hab5)
        have hBf : Below w.heap.size w w5 := hB2.grown hg5 hB2.size (fun q e => (Ov.ab hOv2 q e).1)
        refine ⟨⟨p.at_ + p.k, pre ++ [p], rest, A', c', by simp, by omega, by simp, by simp [hpre], hch, pos_snoc _ _, ?_, hBf⟩, by simp [intOf]; omega⟩
        simpa using hOv5
    · obtain rfl : i = l.length := by omega
      obtain rfl := hch.at_end
      obtain rfl : xs = pre := by simpa using hpre
      have hN : decV xs = (xs.map Place.x, 0) := by
        unfold decV
        rw [if_neg (by omega)]
      replace hN := Lib.hid hN
      go_wp2
      go_ret2
      unfold DecPost
      rw [hN.out]
      exact ⟨A, xs.length, c, rfl, hOv, hB⟩
end Go.Proofs.YtdgmhegcoogokaaDoor
